/- Part 5 of 5: plain readings of code, rules for them, and a proof over them, joined by a program. Conditions: none. -/
import Derived.Test.YtkgoanjemhbjgaaSpSe4
import Derived.Test.YtkgoanjemhbjgaaProg
import Derived.Test.YtkgoanjemhbjgaaRows
import Derived.WalkKit
import Derived.ProofKit
import Derived.OpenShut
import Derived.ShutString
import Derived.ChangeOld
import Derived.Below
import Derived.Carry
import Derived.SizedLaws
/- The way through a space's tables, in memory; words written. Conditions: none. -/
set_option linter.unusedVariables false
set_option linter.unusedSimpArgs false
namespace Go.Proofs.Ytkgoanjemhbjgaa
open Go Go.Den
abbrev rowN (s : Sl) (l : List Int) : Asr := aRow s 1 (nums .i64 l)
/-! ## A word written -/
def pk (m : List Int) (a : Nat) (x : Int) : Nat → List Int
  | 0 => m
  | k + 1 => (pk m a x k).set (a + k) (x / ((256 ^ k : Nat) : Int) % 256)
theorem pk_len (m : List Int) (a : Nat) (x : Int) : ∀ k, (pk m a x k).length = m.length
  | 0 => rfl
  | k + 1 => by unfold pk; rw [List.length_set, pk_len m a x k]
theorem pk_rng {m : List Int} (h : ∀ y, y ∈ m → 0 ≤ y ∧ y ≤ 255) (a : Nat) (x : Int) : ∀ k y, y ∈ pk m a x k → 0 ≤ y ∧ y ≤ 255
  | 0, y, hy => h y hy
  | k + 1, y, hy => by
    unfold pk at hy
    rcases List.mem_or_eq_of_mem_set hy with hy | hy
    · exact pk_rng h a x k y hy
    · omega
theorem pow256 : ∀ k : Nat, 2 ^ (8 * k) = 256 ^ k
  | 0 => rfl
  | k + 1 => by rw [Nat.mul_succ, Nat.pow_add, pow256 k]; exact (Nat.pow_succ ..).symm
theorem s172 {w0 w : World} {sm : Sl} {m : List Int} {F : List Asr} {a : Nat} {x : Int} (h : SH w0 w (rowM sm m :: F)) (h0 : 0 ≤ x) (h1 : x < 18446744073709551616) (ha : a + 8 ≤ m.length) (hs : m.length ≤ 1048576) :
    CallW Try.prog 172 #[.slice sm.a sm.len sm.cap, .int .i64 (a : Int), .int .i64 8, .int .u64 x] w (fun v w' => v = .tuple #[] ∧ SH w0 w' (rowM sm (pk m a x 8) :: F)) := by
  refine go172 ?_
  unfold W172
  have hl : sm.len = m.length := by rw [h.len 0 rfl, nums_len]
  have hc := h.lenCap 0 rfl
  obtain ⟨bm, hba, _, _⟩ := h.addr 0 rfl (by omega)
  refine LoopW.m1 (fun (i : Int) w' => ∃ k : Nat, i = k ∧ k ≤ 8 ∧ SH w0 w' (rowM sm (pk m a x k) :: F)) (fun (i : Int) _ => (8 - i).toNat) ⟨0, rfl, by omega, h⟩ ?_
  rintro (i : Int) w4 ⟨k, rfl, hk, h4⟩ J hJ
  refine BIf.dec (fun hlt => ?_) (fun hge => ?_)
  · have hidx : IntKind.i64.wrap ((a : Int) + (k : Int)) = ((a + k : Nat) : Int) := by rw [w64 (by omega) (by omega)]; omega
    have h8 : IntKind.i64.wrap (8 * (k : Int)) = ((8 * k : Nat) : Int) := by rw [w64 (by omega) (by omega)]; omega
    rw [hidx, Int.toNat_natCast, h8, shrI_u64 (by omega), pow256]
    have hm : IntKind.u8.wrap (x / ((256 ^ k : Nat) : Int)) = x / ((256 ^ k : Nat) : Int) % 256 := by rw [IntKind.wrap_u8]
    rw [hm]
    have hz : (pk m a x k)[a + k]? = some _ := List.getElem?_eq_getElem (by rw [pk_len]; omega)
    refine ⟨by omega, by omega, by omega, _, hba, h4.setE0 0 rfl hba (nums_get hz) rfl (fun w7 h7 n7 => ?_)⟩
    rw [w64 (by omega) (by omega)]
    rw [nums_set hz] at h7
    exact hJ _ _ ⟨k + 1, by omega, by omega, h7⟩ (by omega)
  · have hk2 : k = 8 := by omega
    subst hk2
    exact ⟨rfl, h4⟩
theorem s117 {w0 w : World} {sm : Sl} {m : List Int} {F : List Asr} {a : Nat} {x : Int} (h : SH w0 w (rowM sm m :: F)) (h0 : 0 ≤ x) (h1 : x < 18446744073709551616) (ha : a + 8 ≤ m.length) (hs : m.length ≤ 1048576) :
    CallW Try.prog 117 #[.slice sm.a sm.len sm.cap, .int .i64 (a : Int), .int .u64 x] w (fun v w' => v = .tuple #[] ∧ SH w0 w' (rowM sm (pk m a x 8) :: F)) := by
  refine go117 ?_
  unfold W117
  have hl : sm.len = m.length := by rw [h.len 0 rfl, nums_len]
  have hc := h.lenCap 0 rfl
  obtain ⟨bm, hba, _, _⟩ := h.addr 0 rfl (by omega)
  refine LoopW.m2 (fun (y : Int) (i : Int) w' => ∃ k : Nat, i = k ∧ k ≤ 8 ∧ y = x / ((256 ^ k : Nat) : Int) ∧ SH w0 w' (rowM sm (pk m a x k) :: F)) (fun _ (i : Int) _ => (8 - i).toNat) ⟨0, rfl, by omega, by simp, h⟩ ?_
  rintro (y : Int) (i : Int) w4 ⟨k, rfl, hk, rfl, h4⟩ J hJ
  have hp : 1 ≤ 256 ^ k := Nat.one_le_pow _ _ (by omega)
  have hy0 : 0 ≤ x / ((256 ^ k : Nat) : Int) := Int.ediv_nonneg h0 (by omega)
  have hy1 : x / ((256 ^ k : Nat) : Int) ≤ x := Int.ediv_le_self _ h0
  refine BIf.dec (fun hlt => ?_) (fun hge => ?_)
  · have hidx : IntKind.i64.wrap ((a : Int) + (k : Int)) = ((a + k : Nat) : Int) := by rw [w64 (by omega) (by omega)]; omega
    rw [hidx, Int.toNat_natCast, Int.tmod_eq_emod_of_nonneg hy0, Int.tdiv_eq_ediv_of_nonneg hy0]
    have hm : IntKind.u8.wrap (x / ((256 ^ k : Nat) : Int) % 256) = x / ((256 ^ k : Nat) : Int) % 256 := by rw [IntKind.wrap_u8]; omega
    rw [hm]
    have hz : (pk m a x k)[a + k]? = some _ := List.getElem?_eq_getElem (by rw [pk_len]; omega)
    refine ⟨by omega, by omega, by omega, _, hba, h4.setE0 0 rfl hba (nums_get hz) rfl (fun w7 h7 n7 => ?_)⟩
    refine ⟨by omega, ?_⟩
    rw [w64 (by omega) (by omega), wu64 (by omega) (by omega)]
    rw [nums_set hz] at h7
    refine hJ _ _ _ ⟨k + 1, by omega, by omega, ?_, h7⟩ (by omega)
    rw [Nat.pow_succ, Int.natCast_mul, ← Int.ediv_ediv_of_nonneg (by omega)]; rfl
  · have hk2 : k = 8 := by omega
    subst hk2
    exact ⟨rfl, h4⟩
theorem s121 {w0 w : World} {b : Nat} {sm sf : Sl} {m : List Int} {T : Int} {F : List Asr} {t i x : Int} (h : SH w0 w (poolB b sm T sf :: rowM sm m :: F)) (ht : 0 ≤ t) (hi0 : 0 ≤ i) (hi : i < 32) (h0 : 0 ≤ x) (h1 : x < 18446744073709551616) (ha : t * 256 + 256 ≤ m.length) (hs : m.length ≤ 1048576) :
    CallW Try.prog 121 #[.pointer (some ⟨b, 0, none⟩), .int .i64 t, .int .i64 i, .int .u64 x] w (fun v w' => v = .tuple #[] ∧ SH w0 w' (poolB b sm T sf :: rowM sm (pk m (t * 256 + 8 * i).toNat x 8) :: F)) := by
  refine go121 ?_
  unfold W121
  refine ⟨_, rfl, sm, h.cell 0 rfl rfl, ?_⟩
  rw [w64 (n := t * 256) (by omega) (by omega), w64 (n := 8 * i) (by omega) (by omega), w64 (by omega) (by omega)]
  have hn : t * 256 + 8 * i = (((t * 256 + 8 * i).toNat : Nat) : Int) := by omega
  rw [hn]
  refine (s172 h.p1 h0 h1 (by omega) hs).mono ?_
  rintro _ w4 ⟨rfl, h4⟩
  rw [Int.toNat_natCast]
  exact ⟨rfl, rfl, h4.p1⟩
/-! ## The way -/
theorem tab_room {m : List Int} {free : List Bool} {n : Nat} {t : Int} {S : List Int} (h : Tab m free n t S) (hm : m.length = 256 * free.length) : 0 ≤ t ∧ t * 256 + 256 ≤ m.length := by
  have := h.rng; omega
theorem s171 {w0 w : World} {b : Nat} {sm sf : Sl} {m : List Int} {free : List Bool} {T root va : Int} {F : List Asr} {S0 : List Int} (h : SH w0 w (poolB b sm T sf :: rowM sm m :: F)) (hT : Tab m free 2 root S0) (hm : m.length = 256 * free.length) (hr : ∀ x, x ∈ m → 0 ≤ x ∧ x ≤ 255) (hs : m.length ≤ 1048576) (hv0 : 0 ≤ va) (hv1 : va < 8388608) :
    CallW Try.prog 171 #[.pointer (some ⟨b, 0, none⟩), .int .i64 root, .int .i64 va] w (fun v w' => ∃ l : Sl, v = .slice l.a l.len l.cap ∧ SH w0 w' (rowN l (wayF m va 2 root) :: poolB b sm T sf :: rowM sm m :: F)) := by
  refine go171 ?_
  unfold W171
  refine h.alloc (fun w1 h1 e1 n1 => ?_)
  have h1 : SH w0 w1 (rowN ⟨some ⟨w.heap.size, 0, none⟩, 1, 1⟩ ([] ++ [root]) :: poolB b sm T sf :: rowM sm m :: F) := h1.toRow (ys := [[.int .i64 root]]) (n := 1) (z := 1) rfl rfl (fun u hu => by rw [List.mem_singleton.1 hu]; rfl)
  refine LoopW.m2 (fun (l : Sl) (i : Int) w' => ∃ (n : Nat) (t : Int) (S pref : List Int), i = n ∧ n ≤ 2 ∧ pref.length + n = 2 ∧ pref ++ wayF m va n t = wayF m va 2 root ∧ Tab m free n t S ∧ SH w0 w' (rowN l (pref ++ [t]) :: poolB b sm T sf :: rowM sm m :: F)) (fun (l : Sl) (i : Int) _ => i.toNat) ⟨2, root, S0, [], rfl, by omega, rfl, rfl, hT, h1⟩ ?_
  rintro (l : Sl) (i : Int) w5 ⟨n, t, S, pref, rfl, hn, hpn, hW, hTt, h5⟩ J hJ
  refine BIf.dec (fun hlt => ?_) (fun hge => ?_)
  · have hll : l.len = pref.length + 1 := by rw [h5.len 0 rfl, nums_len]; simp
    have hix : IntKind.i64.wrap (((l.len : Nat) : Int) - 1) = (pref.length : Int) := by rw [w64 (by omega) (by omega)]; omega
    rw [hix, Int.toNat_natCast]
    have h6 := h5.drew
    have hx : (pref ++ [t])[pref.length]? = some t := by simp
    obtain ⟨q, hq, hqc⟩ := h6.elem0 0 rfl (nums_get hx) rfl
    refine ⟨by omega, by omega, q, hq, t, hqc, ?_⟩
    obtain ⟨k, rfl⟩ : ∃ k, n = k + 1 := ⟨n - 1, by omega⟩
    refine (c122 hv0 hv1 hn).mono ?_
    rintro _ w9 ⟨rfl, rfl⟩
    refine ⟨_, rfl, ⟨t, hqc, rfl⟩, rfl, ?_⟩
    have hix2 := ixV_rng va ((k + 1 : Nat) : Int)
    have hroom := tab_room hTt hm
    refine (c126 (SH.blk h6 1 rfl) (SH.bytes h6 2 rfl hr (by omega)) hroom.1 hix2.1 hix2.2 hroom.2).mono ?_
    rintro _ w ⟨rfl, rfl⟩
    refine ⟨_, rfl, BIf.eq (fun h0 => ?_) (fun hne => ?_)⟩
    · refine ⟨l, rfl, ?_⟩
      have h0 : entAt m t (ixV va ((k + 1 : Nat) : Int)) = 0 := h0
      have hw : wayF m va (k + 1) t = [t] := by unfold wayF; rw [if_pos h0]
      rw [← hW, hw]; exact h6
    · have hne : entAt m t (ixV va ((k + 1 : Nat) : Int)) ≠ 0 := hne
      have hw := word_rng hr (t * 256 + 8 * ixV va ((k + 1 : Nat) : Int))
      refine (c127 hw.1 hw.2).mono ?_
      rintro _ w16 ⟨rfl, e16⟩
      have h16 := h6.to e16
      refine ⟨_, _, _, _, _, _, _, _, _, rfl, LetW_iff.2 (SH.appendN1 h16 rfl rfl (by decide) (by simp; show (pref.length + 1 + 1) * 8 ≤ _; omega) (fun s' w28 h28 g1 g2 => ?_))⟩
      rw [w64 (by omega) (by omega)]
      obtain ⟨_, S1, hT1, _⟩ := hTt.sub hix2.1 hix2.2 hne
      refine hJ _ _ _ ⟨k, efr (entAt m t (ixV va ((k + 1 : Nat) : Int))), S1, pref ++ [t], by omega, by omega, by simp; omega, ?_, hT1, h28⟩ (by omega)
      rw [← hW]
      have : wayF m va (k + 1) t = t :: wayF m va k (efr (entAt m t (ixV va ((k + 1 : Nat) : Int)))) := by rw [wayF, if_neg hne]
      rw [this]; simp
  · obtain rfl : n = 0 := by omega
    refine ⟨l, rfl, ?_⟩
    rw [← hW]; exact h5
end Go.Proofs.Ytkgoanjemhbjgaa

/- The way through a space's tables, the reference's; a page's entry. Conditions: none. -/
set_option linter.unusedVariables false
set_option linter.unusedSimpArgs false
namespace Go.Proofs.Ytkgoanjemhbjgaa
open Go Go.Den
theorem wayF_z {m : List Int} {va : Int} {n : Nat} {t : Int} (h : entAt m t (ixV va ((n + 1 : Nat) : Int)) = 0) : wayF m va (n + 1) t = [t] := by unfold wayF; rw [if_pos h]
theorem wayF_s {m : List Int} {va : Int} {n : Nat} {t : Int} (h : entAt m t (ixV va ((n + 1 : Nat) : Int)) ≠ 0) : wayF m va (n + 1) t = t :: wayF m va n (efr (entAt m t (ixV va ((n + 1 : Nat) : Int)))) := by rw [wayF, if_neg h]
set_option maxHeartbeats 1000000 in
theorem s169 {w : World} {sm sf : Sl} {m : List Int} {free : List Bool} {T root va : Int} {S0 : List Int} (hbm : Bytes w sm m) (hT : Tab m free 2 root S0) (hm : m.length = 256 * free.length) (hs : m.length ≤ 262144) (hv0 : 0 ≤ va) (hv1 : va < 8388608) :
    CallW Try.prog 169 #[.agg #[.slice sm.a sm.len sm.cap, .int .i64 T, .slice sf.a sf.len sf.cap], .int .i64 root, .int .i64 va] w (fun v w' => ∃ l : Sl, v = .slice l.a l.len l.cap ∧ SH w w' [rowN l (slotW va 2 (wayF m va 2 root))]) := by
  refine go169 ?_
  unfold W169
  have h := SH.start w
  refine h.alloc (fun w1 h1 e1 n1 => h1.alloc (fun w2 h2 e2 n2 => ?_))
  have h2 := h2.drop
  have hr := hbm.rng
  refine LoopW.m3 (fun (l : Sl) (t : Int) (i : Int) w' => (∃ (n : Nat) (S pref : List Int), i = n ∧ n ≤ 2 ∧ pref.length + n = 2 ∧ pref ++ slotW va n (wayF m va n t) = slotW va 2 (wayF m va 2 root) ∧ Tab m free n t S ∧ SH w w' [rowN l pref, poolB w.heap.size sm T sf]) ∨ (i = -1 ∧ SH w w' [rowN l (slotW va 2 (wayF m va 2 root)), poolB w.heap.size sm T sf])) (fun (l : Sl) (t : Int) (i : Int) _ => (i + 1).toNat) (.inl ⟨2, S0, [], rfl, by omega, rfl, rfl, hT, h2.nil _ 1⟩) ?_
  rintro (l : Sl) (t : Int) (i : Int) w7 hinv J hJ
  rcases hinv with ⟨n, S, pref, rfl, hn, hpn, hW, hTt, h7⟩ | ⟨rfl, h7⟩
  · refine BIf.dec (fun hlt => ?_) (fun hge => by omega)
    have hroom := tab_room hTt hm
    refine (c129 hroom.1 (by omega) hv0 hv1 hn).mono ?_
    rintro _ w9 ⟨rfl, rfl⟩
    refine ⟨_, rfl, LetW_iff.2 (SH.appendN1 h7 rfl rfl (by decide) (by show (_ + 1) * 8 ≤ _; omega) (fun l12 w13 h13 g1 g2 => ?_))⟩
    have hix := ixV_rng va (n : Int)
    refine ⟨sm, h13.cell 1 rfl rfl, ?_⟩
    refine (c124 (hbm.ext h13.ext) (by show 0 ≤ t * 256 + 8 * ixV va (n : Int); omega) (by show t * 256 + 8 * ixV va (n : Int) + 8 ≤ _; omega)).mono ?_
    rintro _ w16 ⟨rfl, rfl⟩
    refine ⟨_, rfl, BIf.eq (fun h0 => ?_) (fun hne => ?_)⟩
    · have h0 : entAt m t (ixV va (n : Int)) = 0 := h0
      refine ⟨l12, rfl, ?_⟩
      have hw : slotW va n (wayF m va n t) = [slotA va n t] := by
        cases n with
        | zero => rfl
        | succ k => rw [wayF_z h0]; cases k <;> rfl
      rw [hw] at hW
      rw [← hW]; exact h13.one
    · have hne : entAt m t (ixV va (n : Int)) ≠ 0 := hne
      have hw := word_rng hr (t * 256 + 8 * ixV va (n : Int))
      have hsm := hTt.ent hix.1 hix.2 hne
      refine (c123 hw.1 hsm).mono ?_
      rintro _ w19 ⟨rfl, e19⟩
      have h19 := h13.to e19
      refine ⟨_, _, _, _, _, _, _, _, _, _, rfl, h19.alloc (fun w30 h30 e30 n30 => h30.put 0 rfl rfl rfl (fun w31 h31 n31 => ?_))⟩
      refine ⟨_, h31.cell 0 (i := 8) rfl rfl, ?_⟩
      rw [w64 (by omega) (by omega)]
      have hgo : SH w w31 [rowN l12 (pref ++ [slotA va n t]), poolB w.heap.size sm T sf] := h31.drop
      cases n with
      | zero =>
        refine hJ _ _ _ _ (.inr ⟨rfl, ?_⟩) (by show _ < _; omega)
        have hw2 : slotW va 0 (wayF m va 0 t) = [slotA va 0 t] := rfl
        rw [hw2] at hW; rw [← hW]; exact hgo
      | succ k =>
        obtain ⟨_, S1, hT1, _⟩ := hTt.sub hix.1 hix.2 hne
        refine hJ _ _ _ _ (.inl ⟨k, S1, pref ++ [slotA va (k + 1) t], by omega, by omega, by simp; omega, ?_, hT1, hgo⟩) (by omega)
        rw [← hW, wayF_s hne]
        show _ = pref ++ slotA va (k + 1) t :: slotW va k _
        simp; rfl
  · refine BIf.dec (fun hlt => by omega) (fun hge => ?_)
    exact ⟨l, rfl, h7.one⟩
/-! ## A page's entry -/
def pageX (m : List Int) (va root : Int) : Int := if (wayF m va 2 root).length = 3 then entAt m ((wayF m va 2 root).getD 2 0) (ixV va 0) else 0
/-- How a way can be. -/
inductive WayIs (m : List Int) (free : List Bool) (va root : Int) : Prop where
  | one (h : entAt m root (ixV va 2) = 0) (hw : wayF m va 2 root = [root]) : WayIs m free va root
  | two (t1 : Int) (S1 : List Int) (h2 : entAt m root (ixV va 2) ≠ 0) (ht1 : t1 = efr (entAt m root (ixV va 2))) (hT1 : Tab m free 1 t1 S1) (hr1 : root ≠ t1) (h : entAt m t1 (ixV va 1) = 0) (hw : wayF m va 2 root = [root, t1]) : WayIs m free va root
  | three (t1 t2 : Int) (S1 S2 : List Int) (h2 : entAt m root (ixV va 2) ≠ 0) (ht1 : t1 = efr (entAt m root (ixV va 2))) (hT1 : Tab m free 1 t1 S1) (hr1 : root ≠ t1) (h1 : entAt m t1 (ixV va 1) ≠ 0) (ht2 : t2 = efr (entAt m t1 (ixV va 1))) (hT2 : Tab m free 0 t2 S2) (hr2 : root ≠ t2) (hr3 : t1 ≠ t2) (hw : wayF m va 2 root = [root, t1, t2]) : WayIs m free va root
theorem way_is {m : List Int} {free : List Bool} {va root : Int} {S0 : List Int} (hT : Tab m free 2 root S0) : WayIs m free va root := by
  by_cases h2 : entAt m root (ixV va 2) = 0
  · exact .one h2 (wayF_z h2)
  · have hi2 := ixV_rng va 2
    have hi1 := ixV_rng va 1
    obtain ⟨_, S1, hT1, hS1⟩ := hT.sub hi2.1 hi2.2 h2
    have hw2 : wayF m va 2 root = root :: wayF m va 1 (efr (entAt m root (ixV va 2))) := wayF_s h2
    have hr1 : root ≠ efr (entAt m root (ixV va 2)) := fun hh => hT1.rng.2.2 (by rw [← hh]; exact hS1 root (by simp))
    by_cases h1 : entAt m (efr (entAt m root (ixV va 2))) (ixV va 1) = 0
    · exact .two _ S1 h2 rfl hT1 hr1 h1 (by rw [hw2, show wayF m va 1 _ = _ from wayF_z h1])
    · obtain ⟨_, S2, hT2, hS2⟩ := hT1.sub hi1.1 hi1.2 h1
      exact .three _ _ S1 S2 h2 rfl hT1 hr1 h1 rfl hT2 (fun hh => hT2.rng.2.2 (by rw [← hh]; exact hS2 root (by simp [hS1 root (by simp)]))) (fun hh => hT2.rng.2.2 (by rw [← hh]; exact hS2 _ (by simp))) (by rw [hw2, show wayF m va 1 _ = _ from wayF_s h1]; rfl)
theorem s120 {w0 w : World} {b : Nat} {sm sf : Sl} {m : List Int} {free : List Bool} {T root va : Int} {F : List Asr} {S0 : List Int} (h : SH w0 w (poolB b sm T sf :: rowM sm m :: F)) (hT : Tab m free 2 root S0) (hm : m.length = 256 * free.length) (hr : ∀ x, x ∈ m → 0 ≤ x ∧ x ≤ 255) (hs : m.length ≤ 1048576) (hv0 : 0 ≤ va) (hv1 : va < 8388608) :
    CallW Try.prog 120 #[.pointer (some ⟨b, 0, none⟩), .int .i64 root, .int .i64 va] w (fun v w' => ∃ l : Sl, v = .tuple #[.int .u64 (pageX m va root), .slice l.a l.len l.cap] ∧ SH w0 w' (rowN l (wayF m va 2 root) :: poolB b sm T sf :: rowM sm m :: F)) := by
  refine go120 ?_
  unfold W120
  refine (s171 h hT hm hr hs hv0 hv1).mono ?_
  rintro _ w2 ⟨l, rfl, h2⟩
  refine ⟨l, rfl, ?_⟩
  have hll : l.len = (wayF m va 2 root).length := by rw [h2.len 0 rfl, nums_len]
  have hshort : (wayF m va 2 root).length < 3 → pageX m va root = 0 := fun hh => by unfold pageX; rw [if_neg (by omega)]
  rcases way_is (va := va) hT with ⟨_, hw⟩ | ⟨t1, S1, _, _, _, _, _, hw⟩ | ⟨t1, t2, S1, S2, _, _, _, _, _, _, hT2, _, _, hw⟩
  · refine BIf.dec (fun hlt => ?_) (fun hge => by rw [hll, hw] at hge; simp at hge)
    exact ⟨l, by rw [hshort (by rw [hw]; simp)], h2⟩
  · refine BIf.dec (fun hlt => ?_) (fun hge => by rw [hll, hw] at hge; simp at hge)
    exact ⟨l, by rw [hshort (by rw [hw]; simp)], h2⟩
  · refine BIf.dec (fun hlt => by rw [hll, hw] at hlt; simp at hlt) (fun hge => ?_)
    have hl3 : l.len = 3 := by rw [hll, hw]; rfl
    have h3 := h2.drew
    have hx : (wayF m va 2 root)[2]? = some t2 := by rw [hw]; rfl
    obtain ⟨q, hq, hqc⟩ := h3.elem0 0 rfl (nums_get hx) rfl
    refine ⟨by omega, by omega, q, hq, t2, hqc, ?_⟩
    refine (c122 (l := 0) hv0 hv1 (by omega)).mono ?_
    rintro _ w9 ⟨rfl, rfl⟩
    refine ⟨_, rfl, ⟨t2, hqc, rfl⟩, ?_⟩
    have hroom := tab_room hT2 hm
    have hix := ixV_rng va ((0 : Nat) : Int)
    refine (c126 (SH.blk h3 1 rfl) (SH.bytes h3 2 rfl hr (by omega)) hroom.1 hix.1 hix.2 hroom.2).mono ?_
    rintro _ w ⟨rfl, rfl⟩
    refine ⟨_, rfl, l, ?_, h3⟩
    have : pageX m va root = entAt m t2 (ixV va 0) := by unfold pageX; rw [hw]; rfl
    rw [this]; rfl
theorem s115 {w : World} {sm sf : Sl} {m : List Int} {free : List Bool} {T root va : Int} {S0 : List Int} (hbm : Bytes w sm m) (hT : Tab m free 2 root S0) (hm : m.length = 256 * free.length) (hs : m.length ≤ 262144) (hv0 : 0 ≤ va) (hv1 : va < 8388608) :
    CallW Try.prog 115 #[.agg #[.slice sm.a sm.len sm.cap, .int .i64 T, .slice sf.a sf.len sf.cap], .int .i64 root, .int .i64 va] w (fun v w' => ∃ l : Sl, v = .tuple #[.slice l.a l.len l.cap, .bool (pageX m va root != 0)] ∧ SH w w' [rowN l (slotW va 2 (wayF m va 2 root))]) := by
  refine go115 ?_
  unfold W115
  have h := SH.start w
  refine h.alloc (fun w1 h1 e1 n1 => ?_)
  refine ⟨sm, h1.cell 0 rfl rfl, _, h1.cell 0 rfl rfl, sf, h1.cell 0 rfl rfl, ?_⟩
  refine (s169 (hbm.ext h1.ext) hT hm hs hv0 hv1).mono ?_
  rintro _ w6 ⟨l, rfl, g6⟩
  have h6 := h1.seq g6
  refine ⟨l, rfl, ?_⟩
  have hll : l.len = (wayF m va 2 root).length := by rw [h6.len 0 rfl, nums_len, slotW_len]
  have hshort : (wayF m va 2 root).length < 3 → (pageX m va root != 0) = false := fun hh => by unfold pageX; rw [if_neg (by omega)]; rfl
  have h7 := h6.drew
  rcases way_is (va := va) hT with ⟨_, hw⟩ | ⟨t1, S1, _, _, _, _, _, hw⟩ | ⟨t1, t2, S1, S2, _, _, _, _, _, _, hT2, _, _, hw⟩
  · refine BIf.eq (fun hlt => by rw [hll, hw] at hlt; simp at hlt) (fun hge => ?_)
    exact ⟨l, by rw [hshort (by rw [hw]; simp)], h7.one⟩
  · refine BIf.eq (fun hlt => by rw [hll, hw] at hlt; simp at hlt) (fun hge => ?_)
    exact ⟨l, by rw [hshort (by rw [hw]; simp)], h7.one⟩
  · refine BIf.eq (fun hge => ?_) (fun hlt => by rw [hll, hw] at hlt; simp at hlt)
    have hl3 : l.len = 3 := by rw [hll, hw]; rfl
    have hx : (slotW va 2 (wayF m va 2 root))[2]? = some (slotA va 0 t2) := by rw [hw]; rfl
    obtain ⟨q, hq, hqc⟩ := h7.elem0 0 rfl (nums_get hx) rfl
    have hroom := tab_room hT2 hm
    have hix := ixV_rng va ((0 : Nat) : Int)
    refine ⟨sm, h7.cell 1 rfl rfl, by omega, by omega, q, hq, _, hqc, ?_⟩
    refine (c124 (hbm.ext h7.ext) (by show 0 ≤ t2 * 256 + 8 * ixV va ((0 : Nat) : Int); omega) (by show t2 * 256 + 8 * ixV va ((0 : Nat) : Int) + 8 ≤ _; omega)).mono ?_
    rintro _ w16 ⟨rfl, rfl⟩
    refine ⟨_, rfl, l, ?_, h7.one⟩
    have : pageX m va root = entAt m t2 (ixV va 0) := by unfold pageX; rw [hw]; rfl
    rw [this]; rfl
end Go.Proofs.Ytkgoanjemhbjgaa

/- UnmapPage: what it comes to; what is asked, empty tables. Conditions: none. -/
set_option linter.unusedVariables false
set_option linter.unusedSimpArgs false
namespace Go.Proofs.Ytkgoanjemhbjgaa
open Go Go.Den
/-! ## What is asked -/
noncomputable def badB (m : List Int) (T : Int) (fr : List DBlock) (root va : Int) : Bool := (decide (va < 0) || decide (8388608 ≤ va) || decide (va % 256 ≠ 0)) || !(spaceT m T fr root).isSome
theorem bad_no {m : List Int} {T : Int} {fr : List DBlock} {root va : Int} (h : badB m T fr root va = false) : 0 ≤ va ∧ va < 8388608 ∧ ∃ S, spaceT m T fr root = some S := by
  unfold badB at h
  simp only [Bool.or_eq_false_iff, decide_eq_false_iff_not, Bool.not_eq_false'] at h
  exact ⟨by omega, by omega, Option.isSome_iff_exists.1 h.2⟩
theorem bad_step {m : List Int} {T : Int} {fr : List DBlock} {root va : Int} {w : World} {k : Bool → World → Prop} (h : k (decide (va < 0) || decide (8388608 ≤ va) || decide (va % 256 ≠ 0)) w) :
    JoinW [.bool] (fun J3 => BIf (decide (va < 0)) (J3 true w) (J3 (decide (va ≥ 8388608)) w)) fun (b2 : Bool) w4 => JoinW [.bool] (fun J6 => BIf b2 (J6 true w4) ((256 : Int) ≠ 0 ∧ J6 ((Int.tmod va 256 : Int) != 0) w4)) k := by
  refine JoinW.cut1 (fun (b : Bool) w' => b = (decide (va < 0) || decide (8388608 ≤ va)) ∧ w' = w) ?_ ?_
  · refine BIf.dec (fun h1 => ⟨by simp [h1], rfl⟩) (fun h1 => ⟨?_, rfl⟩)
    simp [h1]
  rintro (b : Bool) w ⟨rfl, rfl⟩
  refine JoinW.cut1 (fun (b : Bool) w' => b = (decide (va < 0) || decide (8388608 ≤ va) || decide (va % 256 ≠ 0)) ∧ w' = w) ?_ ?_
  · refine BIf.of (fun h1 => ⟨by rw [h1]; rfl, rfl⟩) (fun h1 => ⟨by omega, ?_, rfl⟩)
    rw [h1]
    simp only [Bool.or_eq_false_iff, decide_eq_false_iff_not] at h1
    rw [Int.tmod_eq_emod_of_nonneg (by omega), Bool.false_or]
    by_cases hh : va % 256 = 0
    · simp [hh]
    · simp [hh]
  rintro (b : Bool) w ⟨rfl, rfl⟩
  exact h
theorem s113 {sm sf : Sl} {m : List Int} {T root va : Int} {fr : List DBlock} {w : World} (hm : Bytes w sm m) (hf : FrAt w sf fr) :
    CallW Try.prog 113 #[.agg #[.slice sm.a sm.len sm.cap, .int .i64 T, .slice sf.a sf.len sf.cap], .int .i64 root, .int .i64 va] w (fun v w' => v = .bool (badB m T fr root va) ∧ Ext w w') := by
  refine go113 ?_
  unfold W113
  refine (SH.start w).alloc (fun w1 h1 e1 n1 => bad_step (m := m) (T := T) (fr := fr) (root := root) ?_)
  refine JoinW.cut1 (fun (b : Bool) w' => b = badB m T fr root va ∧ Ext w w') ?_ ?_
  · refine BIf.of (fun hh => ⟨by unfold badB; rw [hh]; rfl, e1⟩) (fun hh => ?_)
    refine ⟨sm, h1.cell 0 rfl rfl, _, h1.cell 0 rfl rfl, sf, h1.cell 0 rfl rfl, (c33 (hm.ext e1) (hf.ext e1)).mono ?_⟩
    rintro _ w15 ⟨rfl, e15⟩
    exact ⟨_, rfl, by unfold badB; rw [hh]; rfl, Only.trans e1 e15⟩
  · rintro (b : Bool) w10 ⟨rfl, e10⟩
    exact ⟨rfl, e10⟩
theorem s119 {sm sf : Sl} {m : List Int} {T root va : Int} {fr : List DBlock} {w : World} (hm : Bytes w sm m) (hf : FrAt w sf fr) (hfew : fr.length ≤ 1048576) :
    CallW Try.prog 119 #[.agg #[.slice sm.a sm.len sm.cap, .int .i64 T, .slice sf.a sf.len sf.cap], .int .i64 root, .int .i64 va] w (fun v w' => (badB m T fr root va = true ∧ v = .pointer none ∧ Ext w w') ∨ (badB m T fr root va = false ∧ ∃ (b : Nat) (tm tf : Sl), v = .pointer (some ⟨b, 0, none⟩) ∧ SH w w' [poolB b tm T tf, rowM tm m, rowF tf fr])) := by
  refine go119 ?_
  unfold W119
  refine (SH.start w).alloc (fun w1 h1 e1 n1 => bad_step (m := m) (T := T) (fr := fr) (root := root) ?_)
  obtain ⟨b0, hb0⟩ : ∃ b0, b0 = (decide (va < 0) || decide (8388608 ≤ va) || decide (va % 256 ≠ 0)) := ⟨_, rfl⟩
  rw [← hb0]
  have hbad : badB m T fr root va = (b0 || !(spaceT m T fr root).isSome) := by unfold badB; rw [hb0]
  refine JoinW.cut1 (fun (b : Bool) w' => ((b = true ∧ badB m T fr root va = true) ∨ (b = false ∧ b0 = false ∧ POk m T fr)) ∧ SH w w' [poolB w.heap.size sm T sf]) ?_ ?_
  · refine BIf.of (fun hh => ⟨.inl ⟨rfl, by rw [hbad, hh]; rfl⟩, h1⟩) (fun hh => ?_)
    refine ⟨sm, h1.cell 0 rfl rfl, _, h1.cell 0 rfl rfl, sf, h1.cell 0 rfl rfl, (c94 (hm.ext e1) (hf.ext e1)).mono ?_⟩
    rintro _ w15 ⟨b, rfl, hb, e15⟩
    refine ⟨b, rfl, ?_, h1.to e15⟩
    by_cases hok : POk m T fr
    · exact .inr ⟨by rw [hb.2 hok]; rfl, hh, hok⟩
    · have hbf : b = false := by cases b; rfl; exact absurd (hb.1 rfl) hok
      exact .inl ⟨by rw [hbf]; rfl, by rw [hbad, hh, spaceT_neg hok]; rfl⟩
  · rintro (b : Bool) w10 ⟨hcase, h10⟩
    rcases hcase with ⟨rfl, hx⟩ | ⟨rfl, hb0f, hok⟩
    · exact BIf.of (fun _ => .inl ⟨hx, rfl, h10.ext⟩) (fun hh => by cases hh)
    · refine BIf.of (fun hh => by cases hh) (fun _ => ?_)
      refine ⟨sm, h10.cell 0 rfl rfl, _, h10.cell 0 rfl rfl, sf, h10.cell 0 rfl rfl, (s95 (hm.ext h10.ext) (hf.ext h10.ext)).mono ?_⟩
      rintro _ w15 ⟨bp, tm, tf, rfl, g15⟩
      have h15 := h10.seq g15
      refine ⟨_, rfl, ?_⟩
      have hmb : Bytes w15 tm m := SH.bytes h15 1 rfl hm.rng (by have := hok.2.1; omega)
      have hfb : FrAt w15 tf fr := SH.frAt h15 2 rfl (by omega)
      refine (c96 (SH.blk h15 0 rfl) hmb hfb hok).mono ?_
      rintro _ w18 ⟨l, rfl, e18, hI1, hI2⟩
      refine ⟨l, rfl, ?_⟩
      rcases hsp : spaceT m T fr root with _ | S
      · have hres : tblF m (freeL T fr) 2 root [] = none := by rw [← spaceT_pos hok]; exact hsp
        rw [hI1 hres]
        exact BIf.of (fun _ => .inl ⟨by rw [hbad, hb0f, hsp]; rfl, rfl, (h15.to e18).ext⟩) (fun hh => by cases hh)
      · have hres : tblF m (freeL T fr) 2 root [] = some S := by rw [← spaceT_pos hok]; exact hsp
        obtain ⟨hla, _⟩ := hI2 S hres
        obtain ⟨al, hal⟩ := Option.isSome_iff_exists.1 hla
        refine BIf.of (fun hh => by rw [hal] at hh; cases hh) (fun _ => ?_)
        exact .inr ⟨by rw [hbad, hb0f, hsp]; rfl, bp, tm, tf, rfl, (h15.to e18).take 3⟩
/-! ## Empty tables -/
end Go.Proofs.Ytkgoanjemhbjgaa

/- UnmapPage, both sides. Conditions: none. -/
set_option linter.unusedVariables false
set_option linter.unusedSimpArgs false
namespace Go.Proofs.Ytkgoanjemhbjgaa
open Go Go.Den
/-! ## What it comes to -/
noncomputable def pkP (p : List Int × Int × List DBlock) (a : Nat) (x : Int) : List Int × Int × List DBlock := (pk p.1 a x 8, p.2)
/-- The tables of the way, from the last one. -/
def tk (t0 t1 t2 : Int) : Nat → Int | 0 => t2 | 1 => t1 | _ => t0
/-- What is true of the tables on the way. -/
structure Way3 (m : List Int) (T : Int) (fr : List DBlock) (va t0 t1 t2 : Int) : Prop where
  ok : POk m T fr
  hw : wayF m va 2 t0 = [t0, t1, t2]
  r0 : 0 ≤ t0 ∧ t0 < T
  r1 : 0 ≤ t1 ∧ t1 < T
  r2 : 0 ≤ t2 ∧ t2 < T
  d01 : t0 ≠ t1
  d02 : t0 ≠ t2
  d12 : t1 ≠ t2
  e2 : entAt m t0 (ixV va 2) ≠ 0
  e1 : entAt m t1 (ixV va 1) ≠ 0
  sm : entAt m t2 (ixV va 0) ≠ 0 → entAt m t2 (ixV va 0) < 1048576
theorem Way3.tk {m : List Int} {T : Int} {fr : List DBlock} {va t0 t1 t2 : Int} (h : Way3 m T fr va t0 t1 t2) (k : Nat) : 0 ≤ Ytkgoanjemhbjgaa.tk t0 t1 t2 k ∧ Ytkgoanjemhbjgaa.tk t0 t1 t2 k < T := by
  match k with
  | 0 => exact h.r2
  | 1 => exact h.r1
  | k + 2 => exact h.r0
theorem Way3.room {m : List Int} {T : Int} {fr : List DBlock} {va t0 t1 t2 : Int} (h : Way3 m T fr va t0 t1 t2) (k : Nat) : 0 ≤ Ytkgoanjemhbjgaa.tk t0 t1 t2 k ∧ Ytkgoanjemhbjgaa.tk t0 t1 t2 k * 256 + 256 ≤ m.length ∧ m.length ≤ 262144 := by
  have := h.tk k
  have := h.ok.1; have := h.ok.2.1; have := h.ok.2.2.2
  omega
theorem way3 {m : List Int} {T : Int} {fr : List DBlock} {root va : Int} {S : List Int} (h : spaceT m T fr root = some S) (hx : pageX m va root ≠ 0) : ∃ t1 t2, Way3 m T fr va root t1 t2 ∧ pageX m va root = entAt m t2 (ixV va 0) := by
  have hok := (spaceT_mem h).1
  have hT := tab_root h
  have hfl : ((freeL T fr).length : Int) = T := by rw [freeL_len]; have := hok.2.2.1.1; omega
  rcases way_is (va := va) hT with ⟨_, hw⟩ | ⟨t1, S1, _, _, _, _, _, hw⟩ | ⟨t1, t2, S1, S2, h2, _, hT1, hr1, h1, _, hT2, hr2, hr3, hw⟩
  · exfalso; apply hx; unfold pageX; rw [hw]; rfl
  · exfalso; apply hx; unfold pageX; rw [hw]; rfl
  · have hp : pageX m va root = entAt m t2 (ixV va 0) := by unfold pageX; rw [hw]; rfl
    have g0 := hT.rng; have g1 := hT1.rng; have g2 := hT2.rng
    exact ⟨t1, t2, ⟨hok, hw, ⟨g0.1, by omega⟩, ⟨g1.1, by omega⟩, ⟨g2.1, by omega⟩, hr1, hr2, hr3, h2, h1, fun hh => hT2.ent (ixV_rng va 0).1 (ixV_rng va 0).2 hh⟩, hp⟩
end Go.Proofs.Ytkgoanjemhbjgaa

/- UnmapPage, both sides: the walks. Conditions: none. -/
set_option linter.unusedVariables false
set_option linter.unusedSimpArgs false
namespace Go.Proofs.Ytkgoanjemhbjgaa
open Go Go.Den
theorem addrOf_mk {a : Addr} {K : Addr → Prop} (h : K a) : addrOf (some (.pointer (some a))) K := h
theorem way_get {t0 t1 t2 : Int} {k : Nat} (hk : k ≤ 2) : [t0, t1, t2][2 - k]? = some (tk t0 t1 t2 k) := by
  have hc : k = 0 ∨ k = 1 ∨ k = 2 := by omega
  rcases hc with rfl | rfl | rfl <;> rfl
theorem slot_get {va t0 t1 t2 : Int} {k : Nat} (hk : k ≤ 2) : (slotW va 2 [t0, t1, t2])[2 - k]? = some (slotA va k (tk t0 t1 t2 k)) := by
  have hc : k = 0 ∨ k = 1 ∨ k = 2 := by omega
  rcases hc with rfl | rfl | rfl <;> rfl
end Go.Proofs.Ytkgoanjemhbjgaa

/- The types of the laws' parameters, as values of Lean's. Conditions: none. -/
set_option linter.unusedVariables false
set_option maxRecDepth 100000
namespace Go.Proofs.Ytkgoanjemhbjgaa
open Go Go.Den
theorem o4 : Opens Try.prog 4 cBool := opens_bool Try.underlying4
structure DEntry where
  Valid : Bool
  Read : Bool
  Write : Bool
  Exec : Bool
  User : Bool
  Seen : Bool
  Dirty : Bool
  Soft : Bool
  Frame : Int
def cDEntry : Cod DEntry := cMap (cPair cBool (cPair cBool (cPair cBool (cPair cBool (cPair cBool (cPair cBool (cPair cBool (cPair cBool (cPair (cInt .i64) cUnit))))))))) (fun x => ⟨x.1, x.2.1, x.2.2.1, x.2.2.2.1, x.2.2.2.2.1, x.2.2.2.2.2.1, x.2.2.2.2.2.2.1, x.2.2.2.2.2.2.2.1, x.2.2.2.2.2.2.2.2.1⟩)
abbrev TyEntry : Ty := .st [.bool, .bool, .bool, .bool, .bool, .bool, .bool, .bool, (.int .i64)]
def DEntry.dat (x : DEntry) : Dat := .st [.bool x.Valid, .bool x.Read, .bool x.Write, .bool x.Exec, .bool x.User, .bool x.Seen, .bool x.Dirty, .bool x.Soft, .int .i64 x.Frame]
theorem cDEntry_dat {w : World} {cs : List Value} {x : DEntry} (h : cDEntry.is w cs x) : IsD w x.dat cs := by
  obtain ⟨y, rfl, ⟨a0, b0, rfl, _, h0, ⟨a1, b1, rfl, _, h1, ⟨a2, b2, rfl, _, h2, ⟨a3, b3, rfl, _, h3, ⟨a4, b4, rfl, _, h4, ⟨a5, b5, rfl, _, h5, ⟨a6, b6, rfl, _, h6, ⟨a7, b7, rfl, _, h7, ⟨a8, b8, rfl, _, h8, z⟩⟩⟩⟩⟩⟩⟩⟩⟩⟩ := h
  exact isD_mkSt (isF_mk (isD_mkBool h0) (isF_mk (isD_mkBool h1) (isF_mk (isD_mkBool h2) (isF_mk (isD_mkBool h3) (isF_mk (isD_mkBool h4) (isF_mk (isD_mkBool h5) (isF_mk (isD_mkBool h6) (isF_mk (isD_mkBool h7) (isF_mk (isD_mkInt h8) (isF_mk0 z))))))))))
theorem DEntry.has (x : DEntry) : Has TyEntry x.dat := mk_st (mkF_cons (mk_bool) (mkF_cons (mk_bool) (mkF_cons (mk_bool) (mkF_cons (mk_bool) (mkF_cons (mk_bool) (mkF_cons (mk_bool) (mkF_cons (mk_bool) (mkF_cons (mk_bool) (mkF_cons (mk_int) (mkF_nil))))))))))
theorem DEntry.is_cells {w : World} {cs : List Value} {x : DEntry} (h : IsD w x.dat cs) : cs = [.bool x.Valid, .bool x.Read, .bool x.Write, .bool x.Exec, .bool x.User, .bool x.Seen, .bool x.Dirty, .bool x.Soft, .int .i64 x.Frame] := by
  have q := isD_st h
  obtain ⟨_, _, rfl, i0, q⟩ := isF_cons q
  obtain ⟨_, _, rfl, i1, q⟩ := isF_cons q
  obtain ⟨_, _, rfl, i2, q⟩ := isF_cons q
  obtain ⟨_, _, rfl, i3, q⟩ := isF_cons q
  obtain ⟨_, _, rfl, i4, q⟩ := isF_cons q
  obtain ⟨_, _, rfl, i5, q⟩ := isF_cons q
  obtain ⟨_, _, rfl, i6, q⟩ := isF_cons q
  obtain ⟨_, _, rfl, i7, q⟩ := isF_cons q
  obtain ⟨_, _, rfl, i8, q⟩ := isF_cons q
  obtain rfl := isF_nil q
  obtain rfl := isD_bool i0
  obtain rfl := isD_bool i1
  obtain rfl := isD_bool i2
  obtain rfl := isD_bool i3
  obtain rfl := isD_bool i4
  obtain rfl := isD_bool i5
  obtain rfl := isD_bool i6
  obtain rfl := isD_bool i7
  obtain ⟨rfl, _⟩ := isD_int i8
  rfl
def DEntry.cells (x : DEntry) : List Value := [.bool x.Valid, .bool x.Read, .bool x.Write, .bool x.Exec, .bool x.User, .bool x.Seen, .bool x.Dirty, .bool x.Soft, .int .i64 x.Frame]
theorem o79 : Opens Try.prog 79 cDEntry := opens_map _ (opens_struct Try.underlying79 (by kernel_rfl) (opensF_cons rfl (by kernel_rfl) o4 (opensF_cons rfl (by kernel_rfl) o4 (opensF_cons rfl (by kernel_rfl) o4 (opensF_cons rfl (by kernel_rfl) o4 (opensF_cons rfl (by kernel_rfl) o4 (opensF_cons rfl (by kernel_rfl) o4 (opensF_cons rfl (by kernel_rfl) o4 (opensF_cons rfl (by kernel_rfl) o4 (opensF_cons rfl (by kernel_rfl) o2 opensF_nil))))))))))
end Go.Proofs.Ytkgoanjemhbjgaa

/- The law's own functions over trees: copies, sizes, comparisons, marks; printed by a program. Conditions: none. -/
set_option linter.unusedVariables false
set_option linter.unusedSimpArgs false
set_option maxRecDepth 4000
namespace Go.Proofs.Ytkgoanjemhbjgaa
open Go Go.Den

theorem has_Entry {d : Dat} (h : Has TyEntry d) : ∃ x_0 : Bool, ∃ x_1 : Bool, ∃ x_2 : Bool, ∃ x_3 : Bool, ∃ x_4 : Bool, ∃ x_5 : Bool, ∃ x_6 : Bool, ∃ x_7 : Bool, ∃ x_8 : Int, d = .st [.bool x_0, .bool x_1, .bool x_2, .bool x_3, .bool x_4, .bool x_5, .bool x_6, .bool x_7, .int .i64 x_8] := by
  obtain ⟨_, rfl, g⟩ := has_st h
  obtain ⟨_, _, rfl, h_0, g⟩ := hasF_cons g
  obtain ⟨_, _, rfl, h_1, g⟩ := hasF_cons g
  obtain ⟨_, _, rfl, h_2, g⟩ := hasF_cons g
  obtain ⟨_, _, rfl, h_3, g⟩ := hasF_cons g
  obtain ⟨_, _, rfl, h_4, g⟩ := hasF_cons g
  obtain ⟨_, _, rfl, h_5, g⟩ := hasF_cons g
  obtain ⟨_, _, rfl, h_6, g⟩ := hasF_cons g
  obtain ⟨_, _, rfl, h_7, g⟩ := hasF_cons g
  obtain ⟨_, _, rfl, h_8, g⟩ := hasF_cons g
  obtain rfl := hasF_nil g
  obtain ⟨x_0, rfl⟩ := has_bool h_0
  obtain ⟨x_1, rfl⟩ := has_bool h_1
  obtain ⟨x_2, rfl⟩ := has_bool h_2
  obtain ⟨x_3, rfl⟩ := has_bool h_3
  obtain ⟨x_4, rfl⟩ := has_bool h_4
  obtain ⟨x_5, rfl⟩ := has_bool h_5
  obtain ⟨x_6, rfl⟩ := has_bool h_6
  obtain ⟨x_7, rfl⟩ := has_bool h_7
  obtain ⟨x_8, rfl⟩ := has_int h_8
  exact ⟨x_0, x_1, x_2, x_3, x_4, x_5, x_6, x_7, x_8, rfl⟩
theorem cells_Entry {w : World} {x_0 : Bool} {x_1 : Bool} {x_2 : Bool} {x_3 : Bool} {x_4 : Bool} {x_5 : Bool} {x_6 : Bool} {x_7 : Bool} {x_8 : Int} {cs : List Value} (h : IsD w (.st [.bool x_0, .bool x_1, .bool x_2, .bool x_3, .bool x_4, .bool x_5, .bool x_6, .bool x_7, .int .i64 x_8]) cs) : cs = [.bool x_0, .bool x_1, .bool x_2, .bool x_3, .bool x_4, .bool x_5, .bool x_6, .bool x_7, .int .i64 x_8] ∧ ((Lit.int .i64 x_8).wf = true) := by
  have q := isD_st h
  obtain ⟨_, _, rfl, i_0, q⟩ := isF_cons q
  obtain ⟨_, _, rfl, i_1, q⟩ := isF_cons q
  obtain ⟨_, _, rfl, i_2, q⟩ := isF_cons q
  obtain ⟨_, _, rfl, i_3, q⟩ := isF_cons q
  obtain ⟨_, _, rfl, i_4, q⟩ := isF_cons q
  obtain ⟨_, _, rfl, i_5, q⟩ := isF_cons q
  obtain ⟨_, _, rfl, i_6, q⟩ := isF_cons q
  obtain ⟨_, _, rfl, i_7, q⟩ := isF_cons q
  obtain ⟨_, _, rfl, i_8, q⟩ := isF_cons q
  obtain rfl := isF_nil q
  obtain rfl := isD_bool i_0
  obtain rfl := isD_bool i_1
  obtain rfl := isD_bool i_2
  obtain rfl := isD_bool i_3
  obtain rfl := isD_bool i_4
  obtain rfl := isD_bool i_5
  obtain rfl := isD_bool i_6
  obtain rfl := isD_bool i_7
  obtain ⟨rfl, ws_8⟩ := isD_int i_8
  exact ⟨rfl, ws_8⟩
/- toEntry -/
theorem c49 {d : Dat} {cs : List Value} {w : World} (ht : Has TyEntry d) (h : IsD w d cs) (hs : d.sz ≤ 4194304) : CallW Try.prog 49 #[.agg ⟨cs⟩] w (fun v w' => ∃ cs', v = .agg ⟨cs'⟩ ∧ Fr w.heap.size w'.heap.size w' d cs' ∧ Ext w w') := by
  obtain ⟨x_0, x_1, x_2, x_3, x_4, x_5, x_6, x_7, x_8, rfl⟩ := has_Entry ht
  obtain ⟨rfl, ws_8⟩ := cells_Entry h
  show CallW Try.prog 49 #[.agg #[.bool x_0, .bool x_1, .bool x_2, .bool x_3, .bool x_4, .bool x_5, .bool x_6, .bool x_7, .int .i64 x_8]] w _
  refine go49 ?_
  unfold W49
  refine alloc_step (fun w1 e1 ha n1 => ?_)
  refine alloc_step (fun w2 e2 hc n2 => ?_)
  have ha := ha.ext e2
  refine alloc_step (fun w3 e3 hb n3 => ?_)
  have ha := ha.ext e3
  have hc := hc.ext e3
  have e := Only.trans e1 (Only.trans e2 e3)
  refine ⟨_, ha.cell 0, ?_⟩
  refine set_step hb (by simp) (fun w4 o4 hb n4 => ?_)
  have ha := ha.only o4 (by omega)
  have hc := hc.only o4 (by omega)
  have e := Ext.own e o4 (fun k hk => by omega)
  refine ⟨_, ha.cell 1, ?_⟩
  refine set_step hb (by simp) (fun w5 o5 hb n5 => ?_)
  have ha := ha.only o5 (by omega)
  have hc := hc.only o5 (by omega)
  have e := Ext.own e o5 (fun k hk => by omega)
  refine ⟨_, ha.cell 2, ?_⟩
  refine set_step hb (by simp) (fun w6 o6 hb n6 => ?_)
  have ha := ha.only o6 (by omega)
  have hc := hc.only o6 (by omega)
  have e := Ext.own e o6 (fun k hk => by omega)
  refine ⟨_, ha.cell 3, ?_⟩
  refine set_step hb (by simp) (fun w7 o7 hb n7 => ?_)
  have ha := ha.only o7 (by omega)
  have hc := hc.only o7 (by omega)
  have e := Ext.own e o7 (fun k hk => by omega)
  refine ⟨_, ha.cell 4, ?_⟩
  refine set_step hb (by simp) (fun w8 o8 hb n8 => ?_)
  have ha := ha.only o8 (by omega)
  have hc := hc.only o8 (by omega)
  have e := Ext.own e o8 (fun k hk => by omega)
  refine ⟨_, ha.cell 5, ?_⟩
  refine set_step hb (by simp) (fun w9 o9 hb n9 => ?_)
  have ha := ha.only o9 (by omega)
  have hc := hc.only o9 (by omega)
  have e := Ext.own e o9 (fun k hk => by omega)
  refine ⟨_, ha.cell 6, ?_⟩
  refine set_step hb (by simp) (fun w10 o10 hb n10 => ?_)
  have ha := ha.only o10 (by omega)
  have hc := hc.only o10 (by omega)
  have e := Ext.own e o10 (fun k hk => by omega)
  refine ⟨_, ha.cell 7, ?_⟩
  refine set_step hb (by simp) (fun w11 o11 hb n11 => ?_)
  have ha := ha.only o11 (by omega)
  have hc := hc.only o11 (by omega)
  have e := Ext.own e o11 (fun k hk => by omega)
  refine ⟨_, ha.cell 8, ?_⟩
  refine set_step hb (by simp) (fun w12 o12 hb n12 => ?_)
  have ha := ha.only o12 (by omega)
  have hc := hc.only o12 (by omega)
  have e := Ext.own e o12 (fun k hk => by omega)
  refine ⟨_, hb.cell 0, _, hb.cell 1, _, hb.cell 2, _, hb.cell 3, _, hb.cell 4, _, hb.cell 5, _, hb.cell 6, _, hb.cell 7, _, hb.cell 8, ?_⟩
  refine put_step hc rfl rfl (fun w13 o13 hc n13 => ?_)
  have e := Ext.own e o13 (fun k hk => by omega)
  refine ⟨_, hc.cell 0, _, hc.cell 1, _, hc.cell 2, _, hc.cell 3, _, hc.cell 4, _, hc.cell 5, _, hc.cell 6, _, hc.cell 7, _, hc.cell 8, ?_⟩
  exact ⟨[.bool x_0, .bool x_1, .bool x_2, .bool x_3, .bool x_4, .bool x_5, .bool x_6, .bool x_7, .int .i64 x_8], rfl, frF_st (frF_cons (m := w.heap.size) (fr_bool) (frF_cons (m := w.heap.size) (fr_bool) (frF_cons (m := w.heap.size) (fr_bool) (frF_cons (m := w.heap.size) (fr_bool) (frF_cons (m := w.heap.size) (fr_bool) (frF_cons (m := w.heap.size) (fr_bool) (frF_cons (m := w.heap.size) (fr_bool) (frF_cons (m := w.heap.size) (fr_bool) (frF_cons (m := w.heap.size) (fr_int ws_8) (frF_nil) (by omega) (by omega)) (by omega) (by omega)) (by omega) (by omega)) (by omega) (by omega)) (by omega) (by omega)) (by omega) (by omega)) (by omega) (by omega)) (by omega) (by omega)) (by omega) (by omega)), e⟩

/- eqEntry -/
end Go.Proofs.Ytkgoanjemhbjgaa

/- UnmapPage as the law asks it. Conditions: none. -/
set_option linter.unusedVariables false
set_option linter.unusedSimpArgs false
namespace Go.Proofs.Ytkgoanjemhbjgaa
open Go Go.Den
theorem pool_wf {x : DPool} {w : World} {cs : List Value} (h : IsD w x.dat cs) : (Lit.int .i64 x.Free.Total).wf = true ∧ ∀ b, b ∈ x.Free.Free → (Lit.int .i64 b.At).wf = true ∧ (Lit.int .i64 b.Order).wf = true := by
  obtain ⟨sm, sf, rfl, im, i2, i3, i4⟩ := cells_Pool h
  refine ⟨i3, fun b hb => ?_⟩
  obtain ⟨i, hi⟩ := List.mem_iff_getElem?.1 hb
  obtain ⟨p, es, _, _, _, hd⟩ := isD_elem i4 hi
  have q := isD_st hd
  obtain ⟨_, _, _, j0, q⟩ := isF_cons q
  obtain ⟨_, _, _, j1, q⟩ := isF_cons q
  exact ⟨(isD_int j0).2, (isD_int j1).2⟩
end Go.Proofs.Ytkgoanjemhbjgaa

/- Entries put into words, both sides. Conditions: none. -/
set_option linter.unusedVariables false
set_option linter.unusedSimpArgs false
namespace Go.Proofs.Ytkgoanjemhbjgaa
open Go Go.Den
def lowB (bs : List Bool) : Nat → Nat
  | 0 => 0
  | k + 1 => (if bs.getD k false then 2 ^ k else 0) + lowB bs k
theorem lowB_lt (bs : List Bool) : ∀ k, lowB bs k < 2 ^ k
  | 0 => Nat.lt_succ_self 0
  | k + 1 => by
    have := lowB_lt bs k
    have h2 : 2 ^ (k + 1) = 2 ^ k * 2 := Nat.pow_succ 2 k
    unfold lowB
    split <;> omega
def DEntry.flags (e : DEntry) : List Bool := [e.Valid, e.Read, e.Write, e.Exec, e.User, e.Seen, e.Dirty, e.Soft]
def frOk (e : DEntry) : Bool := decide (0 ≤ e.Frame) && decide (e.Frame ≤ 4095)
def putX (e : DEntry) : Int := if frOk e then e.Frame * 256 + (lowB e.flags 8 : Int) else 0
theorem putX_rng (e : DEntry) : 0 ≤ putX e ∧ putX e < 1048576 := by
  have := lowB_lt e.flags 8
  unfold putX
  split
  · rename_i h
    unfold frOk at h
    simp only [Bool.and_eq_true, decide_eq_true_eq] at h
    have h8 : (2 : Nat) ^ 8 = 256 := rfl
    omega
  · omega
theorem or_low {fr : Nat} {bs : List Bool} {k : Nat} (hk : k < 8) (hfr : fr ≤ 4095) : orI .u64 (((fr * 256 + lowB bs k : Nat)) : Int) (shlI .u64 (oneF (bs.getD k false)) (k : Int)) = ((fr * 256 + lowB bs (k + 1) : Nat) : Int) := by
  have hl := lowB_lt bs k
  have hp : (2 : Nat) ^ k ≤ 2 ^ 7 := Nat.pow_le_pow_right (by omega) (by omega)
  have h7 : (2 : Nat) ^ 7 = 128 := rfl
  have hsh : shlI .u64 (oneF (bs.getD k false)) (k : Int) = (((if bs.getD k false then 2 ^ k else 0 : Nat)) : Int) := by
    unfold shlI
    rw [Int.toNat_natCast, show min k (IntKind.u64.bits) = k from Nat.min_eq_left (by show k ≤ 64; omega)]
    unfold oneF
    split
    · rw [Int.one_mul, show ((2 : Int) ^ k) = ((2 ^ k : Nat) : Int) by norm_cast, wu64 (by omega) (by omega)]
    · rw [Int.zero_mul]; rfl
  rw [hsh]
  obtain ⟨c, hc⟩ : ∃ c, c = (if bs.getD k false then 2 ^ k else 0 : Nat) := ⟨_, rfl⟩
  rw [← hc]
  have hlow : lowB bs (k + 1) = c + lowB bs k := by rw [lowB, hc]
  have hcle : c ≤ 128 := by rw [hc]; split <;> omega
  unfold orI
  show IntKind.u64.wrap (((BitVec.ofInt 64 ((fr * 256 + lowB bs k : Nat) : Int) ||| BitVec.ofInt 64 (c : Int)).toNat : Nat) : Int) = _
  rw [BitVec.toNat_or, bv_nat (by omega) (by omega), bv_nat (by omega) (by omega), Int.toNat_natCast, Int.toNat_natCast]
  have hor : (fr * 256 + lowB bs k) ||| c = fr * 256 + (c + lowB bs k) := by
    have h1 : fr * 256 + lowB bs k = 2 ^ 8 * fr ||| lowB bs k := by
      rw [← Nat.two_pow_add_eq_or_of_lt (show lowB bs k < 2 ^ 8 by omega)]; omega
    have h2 : lowB bs k ||| c = c + lowB bs k := by
      rw [hc]
      split
      · have := Nat.two_pow_add_eq_or_of_lt hl 1
        rw [Nat.mul_one] at this
        rw [this, Nat.or_comm]
      · simp
    rw [h1, Nat.or_assoc, h2, ← Nat.two_pow_add_eq_or_of_lt (show c + lowB bs k < 2 ^ 8 by
      have := lowB_lt bs (k + 1); rw [hlow] at this
      have hp2 : (2 : Nat) ^ (k + 1) ≤ 2 ^ 8 := Nat.pow_le_pow_right (by omega) (by omega)
      omega)]
    omega
  rw [hor, hlow, wu64 (by omega) (by omega)]
theorem c132 {e : DEntry} {w : World} : CallW Try.prog 132 #[.agg ⟨e.cells⟩] w (fun v w' => v = .tuple #[.int .u64 (putX e), .bool (frOk e)] ∧ Ext w w') := by
  refine go132 ?_
  unfold W132
  refine (SH.start w).alloc (fun w1 h1 e1 n1 => ?_)
  refine ⟨e.Frame, h1.cell 0 rfl rfl, join_or_ex e.Frame (h1.cell 0 rfl rfl) ?_⟩
  have hfr : (decide (e.Frame < 0) || decide (e.Frame > 4095)) = !frOk e := by
    unfold frOk
    by_cases h0 : e.Frame < 0
    · simp [h0]
    · by_cases h2 : e.Frame > 4095
      · simp [h2]
      · simp [h0, h2]; omega
  rw [hfr]
  refine BIf.not (BIf.of (fun hok => ?_) (fun hno => ?_))
  · have hr : 0 ≤ e.Frame ∧ e.Frame ≤ 4095 := by unfold frOk at hok; simpa using hok
    refine ⟨e.Frame, h1.cell 0 rfl rfl, by omega, _, h1.cell 0 rfl rfl, _, h1.cell 0 rfl rfl, _, h1.cell 0 rfl rfl, _, h1.cell 0 rfl rfl, _, h1.cell 0 rfl rfl, _, h1.cell 0 rfl rfl, _, h1.cell 0 rfl rfl, _, h1.cell 0 rfl rfl, h1.alloc (fun w15 h15 e15 n15 => ?_)⟩
    have hsh : shlI .u64 (IntKind.wrap .u64 e.Frame) 8 = (((e.Frame.toNat * 256 + lowB e.flags 0 : Nat)) : Int) := by
      rw [wu64 (by omega) (by omega), shl_byte (by omega) (by omega)]
      show _ = ((e.Frame.toNat * 256 + 0 : Nat) : Int)
      omega
    rw [hsh]
    refine LoopW.m2 (fun (y : Int) (i : Int) w' => ∃ k : Nat, i = k ∧ k ≤ 8 ∧ y = ((e.Frame.toNat * 256 + lowB e.flags k : Nat) : Int) ∧ w' = w15) (fun _ (i : Int) _ => (8 - i).toNat) ⟨0, rfl, by omega, rfl, rfl⟩ ?_
    rintro (y : Int) (i : Int) w19 ⟨k, rfl, hk, rfl, rfl⟩ J hJ
    refine BIf.dec (fun hlt => ?_) (fun hge => ?_)
    · have hk8 : k < 8 := by omega
      have hb : e.flags[k]? = some (e.flags.getD k false) := by
        rw [List.getD_eq_getElem?_getD, List.getElem?_eq_getElem (show k < e.flags.length from hk8)]; rfl
      have hcell : w19.cell? ⟨w1.heap.size, k, none⟩ = some (.bool (e.flags.getD k false)) := by
        refine h15.cell 0 (i := k) (l := e.flags.map (fun b => Ce.v (.bool b))) rfl ?_
        rw [List.getElem?_map, hb]; rfl
      refine ⟨by omega, by omega, _, rfl, e.flags.getD k false, ?_, ?_⟩
      · rw [Int.toNat_natCast, add_mk, Nat.mul_one, Nat.zero_add]; exact hcell
      refine c86.mono ?_
      rintro _ w23 ⟨rfl, rfl⟩
      refine ⟨_, rfl, by omega, ?_⟩
      rw [or_low hk8 (by omega), w64 (by omega) (by omega)]
      exact hJ _ _ _ ⟨k + 1, by omega, by omega, rfl, rfl⟩ (by omega)
    · have hk8 : k = 8 := by omega
      subst hk8
      refine ⟨?_, h15.ext⟩
      rw [hok]
      unfold putX
      rw [if_pos hok]
      congr 3
      congr 1
      omega
  · refine ⟨?_, h1.ext⟩
    rw [hno]; unfold putX; rw [hno]; rfl
theorem c170 {b : Bool} {n : Nat} {w : World} (hn : n ≤ 63) : CallW Try.prog 170 #[.bool b, .int .i64 (n : Int)] w (fun v w' => v = .int .u64 ((if b then 2 ^ n else 0 : Nat) : Int) ∧ w' = w) := by
  refine go170 ?_
  unfold W170
  cases b
  · exact BIf.f rfl ⟨rfl, rfl⟩
  · refine BIf.t rfl ?_
    refine (c193 hn).mono ?_
    rintro _ w ⟨rfl, rfl⟩
    exact ⟨_, rfl, rfl, rfl⟩
set_option maxHeartbeats 1000000 in
theorem c116 {e : DEntry} {w : World} : CallW Try.prog 116 #[.agg ⟨e.cells⟩] w (fun v w' => v = .tuple #[.int .u64 (putX e), .bool (frOk e)] ∧ Ext w w') := by
  refine go116 ?_
  unfold W116
  refine (SH.start w).alloc (fun w1 h1 e1 n1 => ?_)
  refine ⟨e.Frame, h1.cell 0 rfl rfl, join_or_ex e.Frame (h1.cell 0 rfl rfl) ?_⟩
  have hfr : (decide (e.Frame < 0) || decide (e.Frame > 4095)) = !frOk e := by
    unfold frOk
    by_cases h0 : e.Frame < 0
    · simp [h0]
    · by_cases h2 : e.Frame > 4095
      · simp [h2]
      · simp [h0, h2]; omega
  rw [hfr]
  refine BIf.not (BIf.of (fun hok => ?_) (fun hno => ?_))
  · have hr : 0 ≤ e.Frame ∧ e.Frame ≤ 4095 := by unfold frOk at hok; simpa using hok
    have h2 := h1.drew
    refine ⟨_, h2.cell 0 rfl rfl, _, h2.cell 0 rfl rfl, _, h2.cell 0 rfl rfl, _, h2.cell 0 rfl rfl, ?_⟩
    refine (c170 (n := 0) (by omega)).mono ?_
    rintro _ w11 ⟨rfl, rfl⟩
    refine ⟨_, rfl, ⟨_, h2.cell 0 rfl rfl, rfl⟩, ⟨_, h2.cell 0 rfl rfl, rfl⟩, ⟨_, h2.cell 0 rfl rfl, rfl⟩, ?_⟩
    refine (c170 (n := 1) (by omega)).mono ?_
    rintro _ w17 ⟨rfl, rfl⟩
    refine ⟨_, rfl, ⟨_, h2.cell 0 rfl rfl, rfl⟩, ⟨_, h2.cell 0 rfl rfl, rfl⟩, ?_⟩
    refine (c170 (n := 2) (by omega)).mono ?_
    rintro _ w22 ⟨rfl, rfl⟩
    refine ⟨_, rfl, ⟨_, h2.cell 0 rfl rfl, rfl⟩, ?_⟩
    refine (c170 (n := 3) (by omega)).mono ?_
    rintro _ w26 ⟨rfl, rfl⟩
    have h3 := h2.drew
    refine ⟨_, rfl, _, h3.cell 0 rfl rfl, _, h3.cell 0 rfl rfl, _, h3.cell 0 rfl rfl, _, h3.cell 0 rfl rfl, ?_⟩
    refine (c170 (n := 4) (by omega)).mono ?_
    rintro _ w33 ⟨rfl, rfl⟩
    refine ⟨_, rfl, ⟨_, h3.cell 0 rfl rfl, rfl⟩, ⟨_, h3.cell 0 rfl rfl, rfl⟩, ⟨_, h3.cell 0 rfl rfl, rfl⟩, ?_⟩
    refine (c170 (n := 5) (by omega)).mono ?_
    rintro _ w39 ⟨rfl, rfl⟩
    refine ⟨_, rfl, ⟨_, h3.cell 0 rfl rfl, rfl⟩, ⟨_, h3.cell 0 rfl rfl, rfl⟩, ?_⟩
    refine (c170 (n := 6) (by omega)).mono ?_
    rintro _ w44 ⟨rfl, rfl⟩
    refine ⟨_, rfl, ⟨_, h3.cell 0 rfl rfl, rfl⟩, ?_⟩
    refine (c170 (n := 7) (by omega)).mono ?_
    rintro _ w48 ⟨rfl, rfl⟩
    refine ⟨_, rfl, e.Frame, h3.cell 0 rfl rfl, ?_, h3.ext⟩
    have hlow : lowB e.flags 8 = (if e.Soft then 2 ^ 7 else 0) + ((if e.Dirty then 2 ^ 6 else 0) + ((if e.Seen then 2 ^ 5 else 0) + ((if e.User then 2 ^ 4 else 0) + ((if e.Exec then 2 ^ 3 else 0) + ((if e.Write then 2 ^ 2 else 0) + ((if e.Read then 2 ^ 1 else 0) + ((if e.Valid then 2 ^ 0 else 0) + 0))))))) := rfl
    rw [hok]
    unfold putX
    rw [if_pos hok, hlow]
    obtain ⟨x0, hx0, g0⟩ : ∃ x0 : Nat, x0 = (if e.Valid then 2 ^ 0 else 0) ∧ x0 ≤ 1 := ⟨_, rfl, by split <;> decide⟩
    obtain ⟨x1, hx1, g1⟩ : ∃ x0 : Nat, x0 = (if e.Read then 2 ^ 1 else 0) ∧ x0 ≤ 2 := ⟨_, rfl, by split <;> decide⟩
    obtain ⟨x2, hx2, g2⟩ : ∃ x0 : Nat, x0 = (if e.Write then 2 ^ 2 else 0) ∧ x0 ≤ 4 := ⟨_, rfl, by split <;> decide⟩
    obtain ⟨x3, hx3, g3⟩ : ∃ x0 : Nat, x0 = (if e.Exec then 2 ^ 3 else 0) ∧ x0 ≤ 8 := ⟨_, rfl, by split <;> decide⟩
    obtain ⟨x4, hx4, g4⟩ : ∃ x0 : Nat, x0 = (if e.User then 2 ^ 4 else 0) ∧ x0 ≤ 16 := ⟨_, rfl, by split <;> decide⟩
    obtain ⟨x5, hx5, g5⟩ : ∃ x0 : Nat, x0 = (if e.Seen then 2 ^ 5 else 0) ∧ x0 ≤ 32 := ⟨_, rfl, by split <;> decide⟩
    obtain ⟨x6, hx6, g6⟩ : ∃ x0 : Nat, x0 = (if e.Dirty then 2 ^ 6 else 0) ∧ x0 ≤ 64 := ⟨_, rfl, by split <;> decide⟩
    obtain ⟨x7, hx7, g7⟩ : ∃ x0 : Nat, x0 = (if e.Soft then 2 ^ 7 else 0) ∧ x0 ≤ 128 := ⟨_, rfl, by split <;> decide⟩
    rw [← hx0, ← hx1, ← hx2, ← hx3, ← hx4, ← hx5, ← hx6, ← hx7]
    rw [wu64 (n := (x0 : Int) + x1) (by omega) (by omega), wu64 (n := (x0 : Int) + x1 + x2) (by omega) (by omega), wu64 (n := (x0 : Int) + x1 + x2 + x3) (by omega) (by omega), wu64 (n := (x0 : Int) + x1 + x2 + x3 + x4) (by omega) (by omega), wu64 (n := (x0 : Int) + x1 + x2 + x3 + x4 + x5) (by omega) (by omega), wu64 (n := (x0 : Int) + x1 + x2 + x3 + x4 + x5 + x6) (by omega) (by omega), wu64 (n := (x0 : Int) + x1 + x2 + x3 + x4 + x5 + x6 + x7) (by omega) (by omega), wu64 (n := e.Frame) (by omega) (by omega), wu64 (n := e.Frame * 256) (by omega) (by omega), wu64 (by omega) (by omega)]
    congr 3
    congr 1
    omega
  · refine ⟨?_, h1.ext⟩
    rw [hno]; unfold putX; rw [hno]; rfl
/-! ## Entries that a page may have -/
def leafB (e : DEntry) : Bool := frOk e && e.Valid && (e.Read || e.Write || e.Exec) && !(e.Write && !e.Read)
theorem c118 {e : DEntry} {w : World} : CallW Try.prog 118 #[.agg ⟨e.cells⟩] w (fun v w' => v = .tuple #[.int .u64 (putX e), .bool (leafB e)] ∧ Ext w w') := by
  refine go118 ?_
  unfold W118
  refine (SH.start w).alloc (fun w1 h1 e1 n1 => ?_)
  refine ⟨_, h1.cell 0 rfl rfl, _, h1.cell 0 rfl rfl, _, h1.cell 0 rfl rfl, _, h1.cell 0 rfl rfl, _, h1.cell 0 rfl rfl, _, h1.cell 0 rfl rfl, _, h1.cell 0 rfl rfl, _, h1.cell 0 rfl rfl, _, h1.cell 0 rfl rfl, ?_⟩
  refine (c132 (e := e)).mono ?_
  rintro _ w12 ⟨rfl, e12⟩
  have h2 := (h1.to e12).drew
  have ex := h2.ext
  refine ⟨_, _, rfl, ?_⟩
  have c0 : w12.drew.cell? ⟨w.heap.size, 0, none⟩ = some (.bool e.Valid) := h2.cell 0 rfl rfl
  have c1 : w12.drew.cell? ⟨w.heap.size, 1, none⟩ = some (.bool e.Read) := h2.cell 0 rfl rfl
  have c2 : w12.drew.cell? ⟨w.heap.size, 2, none⟩ = some (.bool e.Write) := h2.cell 0 rfl rfl
  have c3 : w12.drew.cell? ⟨w.heap.size, 3, none⟩ = some (.bool e.Exec) := h2.cell 0 rfl rfl
  unfold leafB
  generalize frOk e = x at *
  generalize e.Valid = v at *
  generalize e.Read = r at *
  generalize e.Write = wr at *
  generalize e.Exec = xx at *
  cases x
  · exact BIf.f rfl ⟨rfl, ex⟩
  refine BIf.t rfl ⟨v, c0, ?_⟩
  cases v
  · exact BIf.f rfl ⟨rfl, ex⟩
  refine BIf.t rfl ⟨r, c1, ?_⟩
  cases r
  · refine BIf.f rfl ⟨wr, c2, ?_⟩
    cases wr
    · refine BIf.f rfl ⟨xx, c3, ?_⟩
      cases xx
      · exact BIf.f rfl ⟨rfl, ex⟩
      · exact BIf.t rfl ⟨false, c2, BIf.f rfl ⟨rfl, ex⟩⟩
    · exact BIf.t rfl ⟨true, c2, BIf.t rfl ⟨false, c1, rfl, ex⟩⟩
  · refine BIf.t rfl ⟨wr, c2, ?_⟩
    cases wr
    · exact BIf.f rfl ⟨rfl, ex⟩
    · exact BIf.t rfl ⟨true, c1, rfl, ex⟩
theorem c114 {e : DEntry} {w : World} : CallW Try.prog 114 #[.agg ⟨e.cells⟩] w (fun v w' => v = .bool (!leafB e) ∧ Ext w w') := by
  refine go114 ?_
  unfold W114
  refine (SH.start w).alloc (fun w1 h1 e1 n1 => ?_)
  refine ⟨_, h1.cell 0 rfl rfl, _, h1.cell 0 rfl rfl, _, h1.cell 0 rfl rfl, _, h1.cell 0 rfl rfl, _, h1.cell 0 rfl rfl, _, h1.cell 0 rfl rfl, _, h1.cell 0 rfl rfl, _, h1.cell 0 rfl rfl, _, h1.cell 0 rfl rfl, ?_⟩
  refine (c116 (e := e)).mono ?_
  rintro _ w12 ⟨rfl, e12⟩
  have h2 := h1.to e12
  have ex := h2.ext
  refine ⟨_, _, rfl, ?_⟩
  have c0 : w12.cell? ⟨w.heap.size, 0, none⟩ = some (.bool e.Valid) := h2.cell 0 rfl rfl
  have c1 : w12.cell? ⟨w.heap.size, 1, none⟩ = some (.bool e.Read) := h2.cell 0 rfl rfl
  have c2 : w12.cell? ⟨w.heap.size, 2, none⟩ = some (.bool e.Write) := h2.cell 0 rfl rfl
  have c3 : w12.cell? ⟨w.heap.size, 3, none⟩ = some (.bool e.Exec) := h2.cell 0 rfl rfl
  unfold leafB
  generalize frOk e = x at *
  generalize e.Valid = v at *
  generalize e.Read = r at *
  generalize e.Write = wr at *
  generalize e.Exec = xx at *
  refine JoinW.cut1 (fun (b : Bool) w' => b = (!x || !v) ∧ w' = w12) ?_ ?_
  · cases x
    · exact BIf.t rfl ⟨rfl, rfl⟩
    · exact BIf.f rfl ⟨v, c0, rfl, rfl⟩
  rintro (b : Bool) w' ⟨rfl, rfl⟩
  refine JoinW.cut1 (fun (b : Bool) w'' => b = ((!x || !v) || (!r && !wr && !xx)) ∧ w'' = w') ?_ ?_
  · refine BIf.of (fun hh => ⟨by rw [hh]; rfl, rfl⟩) (fun hh => ?_)
    rw [hh]
    refine ⟨r, c1, ?_⟩
    cases r
    · refine BIf.t rfl ⟨wr, c2, ?_⟩
      cases wr
      · exact BIf.t rfl ⟨xx, c3, by simp, rfl⟩
      · exact BIf.f rfl ⟨rfl, rfl⟩
    · exact BIf.f rfl ⟨rfl, rfl⟩
  rintro (b : Bool) w' ⟨rfl, rfl⟩
  refine JoinW.cut1 (fun (b : Bool) w'' => b = (((!x || !v) || (!r && !wr && !xx)) || (wr && !r)) ∧ w'' = w') ?_ ?_
  · refine BIf.of (fun hh => ⟨by rw [hh]; rfl, rfl⟩) (fun hh => ?_)
    rw [hh]
    refine ⟨wr, c2, ?_⟩
    cases wr
    · exact BIf.f rfl ⟨rfl, rfl⟩
    · exact BIf.t rfl ⟨r, c1, by simp, rfl⟩
  rintro (b : Bool) w' ⟨rfl, rfl⟩
  refine ⟨?_, ex⟩
  cases x <;> cases v <;> cases r <;> cases wr <;> cases xx <;> rfl
end Go.Proofs.Ytkgoanjemhbjgaa

/- SetPage, both sides. Conditions: none. -/
set_option linter.unusedVariables false
set_option linter.unusedSimpArgs false
namespace Go.Proofs.Ytkgoanjemhbjgaa
open Go Go.Den
noncomputable def setF (m : List Int) (T : Int) (fr : List DBlock) (root va : Int) (e : DEntry) : (List Int × Int × List DBlock) × Int :=
  if (badB m T fr root va || !leafB e) = true then (([], 0, []), 1)
  else if pageX m va root = 0 then ((m, T, fr), 3)
  else (pkP (m, T, fr) (slotA va 0 ((wayF m va 2 root).getD 2 0)).toNat (putX e), 0)
theorem setF_bad {m : List Int} {T : Int} {fr : List DBlock} {root va : Int} {e : DEntry} (h : (badB m T fr root va || !leafB e) = true) : setF m T fr root va e = (([], 0, []), 1) := by unfold setF; rw [if_pos h]
theorem setF_no {m : List Int} {T : Int} {fr : List DBlock} {root va : Int} {e : DEntry} (h : (badB m T fr root va || !leafB e) = false) (hx : pageX m va root = 0) : setF m T fr root va e = ((m, T, fr), 3) := by unfold setF; rw [if_neg (by rw [h]; exact Bool.false_ne_true), if_pos hx]
theorem setF_yes {m : List Int} {T : Int} {fr : List DBlock} {root va t1 t2 : Int} {e : DEntry} (h : (badB m T fr root va || !leafB e) = false) (hx : pageX m va root ≠ 0) (hw : wayF m va 2 root = [root, t1, t2]) : setF m T fr root va e = (pkP (m, T, fr) (slotA va 0 t2).toNat (putX e), 0) := by unfold setF; rw [if_neg (by rw [h]; exact Bool.false_ne_true), if_neg hx, hw]; rfl
set_option maxHeartbeats 1000000 in
theorem s48 {sm sf : Sl} {m : List Int} {T root va : Int} {fr : List DBlock} {e : DEntry} {w : World} (hm : Bytes w sm m) (hf : FrAt w sf fr) (hfew : fr.length ≤ 1048576) :
    CallW Try.prog 48 #[.agg #[.slice sm.a sm.len sm.cap, .int .i64 T, .slice sf.a sf.len sf.cap], .int .i64 root, .int .i64 va, .agg ⟨e.cells⟩] w (DropV (setF m T fr root va e) w) := by
  refine go48 ?_
  unfold W48
  refine (SH.start w).alloc (fun w1 h1 e1 n1 => h1.alloc (fun w2 h2 e2 n2 => h2.alloc (fun w3 h3 e3 n3 => ?_)))
  refine ⟨sm, h3.cell 2 rfl rfl, _, h3.cell 2 rfl rfl, sf, h3.cell 2 rfl rfl, ?_⟩
  refine (s113 (hm.ext h3.ext) (hf.ext h3.ext)).mono ?_
  rintro _ w8 ⟨rfl, e8⟩
  have h8 := h3.to e8
  refine ⟨_, rfl, ?_⟩
  refine JoinW.cut1 (fun (b : Bool) w' => b = (badB m T fr root va || !leafB e) ∧ SH w w' [aB w2.heap.size ([Value.slice none 0 0, .int .i64 0, .slice none 0 0].map Ce.v), aB w1.heap.size (e.cells.map Ce.v), poolB w.heap.size sm T sf]) ?_ ?_
  · refine BIf.of (fun hh => ⟨by rw [hh]; rfl, h8⟩) (fun hh => ?_)
    refine ⟨_, h8.cell 1 rfl rfl, _, h8.cell 1 rfl rfl, _, h8.cell 1 rfl rfl, _, h8.cell 1 rfl rfl, _, h8.cell 1 rfl rfl, _, h8.cell 1 rfl rfl, _, h8.cell 1 rfl rfl, _, h8.cell 1 rfl rfl, _, h8.cell 1 rfl rfl, ?_⟩
    refine (c114 (e := e)).mono ?_
    rintro _ w76 ⟨rfl, e76⟩
    exact ⟨_, rfl, by rw [hh]; rfl, h8.to e76⟩
  rintro (b : Bool) w12 ⟨rfl, h12⟩
  refine BIf.of (fun hbad => ?_) (fun hgood => ?_)
  · refine h12.put 0 rfl rfl rfl (fun w13 h13 n13 => ?_)
    refine ⟨⟨none, 0, 0⟩, h13.cell 0 rfl rfl, _, h13.cell 0 rfl rfl, ⟨none, 0, 0⟩, h13.cell 0 rfl rfl, ?_⟩
    rw [setF_bad hbad]
    exact ⟨⟨none, 0, 0⟩, ⟨none, 0, 0⟩, rfl, sh_zero h13⟩
  have hg2 := hgood
  simp only [Bool.or_eq_false_iff, Bool.not_eq_false'] at hg2
  obtain ⟨hv0, hv1, S, hsp⟩ := bad_no hg2.1
  have hok := (spaceT_mem hsp).1
  have hml := hok.2.1
  refine ⟨sm, h12.cell 2 rfl rfl, _, h12.cell 2 rfl rfl, sf, h12.cell 2 rfl rfl, (s101 (hm.ext h12.ext) (hf.ext h12.ext)).mono ?_⟩
  rintro _ w21 ⟨tm, tf, rfl, g21⟩
  have h21 := h12.seq g21
  refine ⟨tm, _, tf, rfl, h21.alloc (fun w25 h25 e25 n25 => h25.put 0 rfl rfl rfl (fun w26 h26 n26 => ?_))⟩
  refine ⟨sm, h26.cell 5 rfl rfl, _, h26.cell 5 rfl rfl, sf, h26.cell 5 rfl rfl, (s115 (hm.ext h26.ext) (tab_root hsp) hok.len hml hv0 hv1).mono ?_⟩
  rintro _ w31 ⟨l, rfl, g31⟩
  have h31 := h26.seq g31
  refine ⟨l, _, rfl, BIf.not ?_⟩
  refine BIf.ne (fun hx => ?_) (fun hx0 => ?_)
  rotate_left
  · refine ⟨tm, h31.cell 1 rfl rfl, _, h31.cell 1 rfl rfl, tf, h31.cell 1 rfl rfl, h31.put 4 rfl rfl rfl (fun w37 h37 n37 => ?_)⟩
    refine ⟨tm, h37.cell 4 rfl rfl, _, h37.cell 4 rfl rfl, tf, h37.cell 4 rfl rfl, ?_⟩
    rw [setF_no hgood hx0]
    exact ⟨tm, tf, rfl, h37.drop.drop.two⟩
  obtain ⟨t1, t2, W, hpx⟩ := way3 hsp hx
  rw [W.hw] at h31
  rw [setF_yes hgood hx W.hw]
  have hll : l.len = 3 := by rw [h31.len 0 rfl, nums_len]; rfl
  have hroom0 : 0 ≤ t2 ∧ t2 * 256 + 256 ≤ m.length ∧ m.length ≤ 262144 := W.room 0
  have hi0 := ixV_rng va 0
  have hsl0 : slotA va 0 t2 = t2 * 256 + 8 * ixV va 0 := rfl
  refine ⟨_, h31.cell 5 rfl rfl, _, h31.cell 5 rfl rfl, _, h31.cell 5 rfl rfl, _, h31.cell 5 rfl rfl, _, h31.cell 5 rfl rfl, _, h31.cell 5 rfl rfl, _, h31.cell 5 rfl rfl, _, h31.cell 5 rfl rfl, _, h31.cell 5 rfl rfl, ?_⟩
  refine (c116 (e := e)).mono ?_
  rintro _ w51 ⟨rfl, e51⟩
  have h52 := (h31.to e51).drew
  obtain ⟨q, hq, hqc⟩ := h52.elem0 0 rfl (nums_get (slot_get (va := va) (t0 := root) (t1 := t1) (t2 := t2) (k := 0) (by omega))) rfl
  refine ⟨_, _, rfl, tm, h52.cell 1 rfl rfl, by omega, by omega, q, hq, _, hqc, ?_⟩
  show CallW Try.prog 117 #[_, .int .i64 (slotA va 0 t2), _] _ _
  have hsn : slotA va 0 t2 = (((slotA va 0 t2).toNat : Nat) : Int) := by omega
  rw [hsn]
  have hpr := putX_rng e
  refine (s117 (h52.front (n := 2) rfl) hpr.1 (by omega) (by omega) (by omega)).mono ?_
  rintro _ w58 ⟨rfl, h58⟩
  refine ⟨rfl, tm, h58.cell 2 rfl rfl, _, h58.cell 2 rfl rfl, tf, h58.cell 2 rfl rfl, h58.put 4 rfl rfl rfl (fun w62 h62 n62 => ?_)⟩
  refine ⟨tm, h62.cell 4 rfl rfl, _, h62.cell 4 rfl rfl, tf, h62.cell 4 rfl rfl, ?_⟩
  rw [Int.toNat_natCast]
  exact ⟨tm, tf, rfl, ((h62.front (n := 3) rfl).p1).two⟩
set_option maxHeartbeats 1000000 in
theorem s50 {sm sf : Sl} {m : List Int} {T root va : Int} {fr : List DBlock} {e : DEntry} {w : World} (hm : Bytes w sm m) (hf : FrAt w sf fr) (hfew : fr.length ≤ 1048576) :
    CallW Try.prog 50 #[.agg #[.slice sm.a sm.len sm.cap, .int .i64 T, .slice sf.a sf.len sf.cap], .int .i64 root, .int .i64 va, .agg ⟨e.cells⟩] w (DropV (setF m T fr root va e) w) := by
  refine go50 ?_
  unfold W50
  refine (SH.start w).alloc (fun w1 h1 e1 n1 => h1.alloc (fun w2 h2 e2 n2 => h2.alloc (fun w3 h3 e3 n3 => ?_)))
  refine ⟨_, h3.cell 1 rfl rfl, _, h3.cell 1 rfl rfl, _, h3.cell 1 rfl rfl, _, h3.cell 1 rfl rfl, _, h3.cell 1 rfl rfl, _, h3.cell 1 rfl rfl, _, h3.cell 1 rfl rfl, _, h3.cell 1 rfl rfl, _, h3.cell 1 rfl rfl, ?_⟩
  refine (c118 (e := e)).mono ?_
  rintro _ w14 ⟨rfl, e14⟩
  have h14 := h3.to e14
  refine ⟨_, _, rfl, sm, h14.cell 2 rfl rfl, _, h14.cell 2 rfl rfl, sf, h14.cell 2 rfl rfl, ?_⟩
  have hz : ∀ w9 : World, (badB m T fr root va || !leafB e) = true → SH w w9 [aB w2.heap.size ([Value.slice none 0 0, .int .i64 0, .slice none 0 0].map Ce.v)] → MayN w9 ⟨w2.heap.size, 0, none⟩ 3 ∧ LetW (Den.puts w9 ⟨w2.heap.size, 0, none⟩ 0 [.slice none 0 0, .int .i64 0, .slice none 0 0]) fun w10 => ∃ l : Sl, w10.cell? ⟨w2.heap.size, 0, none⟩ = some (.slice l.a l.len l.cap) ∧ ∃ n : Int, w10.cell? ⟨w2.heap.size, 1, none⟩ = some (.int .i64 n) ∧ ∃ l2 : Sl, w10.cell? ⟨w2.heap.size, 2, none⟩ = some (.slice l2.a l2.len l2.cap) ∧ DropV (setF m T fr root va e) w (.tuple #[.agg #[.slice l.a l.len l.cap, .int .i64 n, .slice l2.a l2.len l2.cap], .int .i64 1]) w10 := by
    intro w9 hb h9
    refine h9.put 0 rfl rfl rfl (fun w10 h10 n10 => ?_)
    refine ⟨⟨none, 0, 0⟩, h10.cell 0 rfl rfl, _, h10.cell 0 rfl rfl, ⟨none, 0, 0⟩, h10.cell 0 rfl rfl, ?_⟩
    rw [setF_bad hb]
    exact ⟨⟨none, 0, 0⟩, ⟨none, 0, 0⟩, rfl, sh_zero h10⟩
  refine (s119 (hm.ext h14.ext) (hf.ext h14.ext) hfew).mono ?_
  rintro _ w21 (⟨hbad, rfl, e21⟩ | ⟨hgd, bp, tm, tf, rfl, g21⟩)
  · refine ⟨_, rfl, ?_⟩
    have h21 := h14.to e21
    refine JoinW.cut1 (fun (b : Bool) w' => b = true ∧ w' = w21) ?_ ?_
    · exact BIf.of (fun _ => ⟨rfl, rfl⟩) (fun _ => ⟨rfl, rfl⟩)
    rintro (b : Bool) w' ⟨rfl, rfl⟩
    exact BIf.t rfl (hz _ (by rw [hbad]; rfl) h21.one)
  · refine ⟨_, rfl, ?_⟩
    have h21 := h14.seq g21
    refine JoinW.cut1 (fun (b : Bool) w' => b = !leafB e ∧ w' = w21) ?_ ?_
    · exact BIf.of (fun hh => ⟨hh.symm, rfl⟩) (fun hh => ⟨hh.symm, rfl⟩)
    rintro (b : Bool) w' ⟨rfl, rfl⟩
    refine BIf.of (fun hh => hz _ (by rw [hgd, hh]; rfl) (h21.front (n := 3) rfl).one) (fun hh => ?_)
    have hgood : (badB m T fr root va || !leafB e) = false := by rw [hgd, hh]; rfl
    obtain ⟨hv0, hv1, S, hsp⟩ := bad_no hgd
    have hok := (spaceT_mem hsp).1
    have hml := hok.2.1
    refine (s120 (F := [rowF tf fr, aB w2.heap.size ([Value.slice none 0 0, .int .i64 0, .slice none 0 0].map Ce.v), aB w1.heap.size (e.cells.map Ce.v), poolB w.heap.size sm T sf]) h21 (tab_root hsp) hok.len hm.rng (by omega) hv0 hv1).mono ?_
    rintro _ w31 ⟨l, rfl, h31⟩
    refine ⟨_, l, rfl, BIf.eq (fun hx0 => ?_) (fun hx => ?_)⟩
    · refine (s103 (h31.front (n := 1) rfl)).mono ?_
      rintro _ w35 ⟨rfl, h35⟩
      refine ⟨tm, _, tf, rfl, h35.put 4 rfl rfl rfl (fun w39 h39 n39 => ?_)⟩
      refine ⟨tm, h39.cell 4 rfl rfl, _, h39.cell 4 rfl rfl, tf, h39.cell 4 rfl rfl, ?_⟩
      rw [setF_no hgood hx0]
      exact ⟨tm, tf, rfl, h39.drop.drop.two⟩
    · obtain ⟨t1, t2, W, hpx⟩ := way3 hsp hx
      rw [W.hw] at h31
      have hll : l.len = 3 := by rw [h31.len 0 rfl, nums_len]; rfl
      have h32 := h31.drew
      obtain ⟨q, hq, hqc⟩ := h32.elem0 0 rfl (nums_get (way_get (t0 := root) (t1 := t1) (t2 := t2) (k := 0) (by omega))) rfl
      refine ⟨by omega, by omega, q, hq, t2, hqc, ?_⟩
      refine (c122 (l := 0) hv0 hv1 (by omega)).mono ?_
      rintro _ w46 ⟨rfl, rfl⟩
      refine ⟨_, rfl, ⟨t2, hqc, rfl⟩, ?_⟩
      have hi0 := ixV_rng va ((0 : Nat) : Int)
      have hroom0 : 0 ≤ t2 ∧ t2 * 256 + 256 ≤ m.length ∧ m.length ≤ 262144 := W.room 0
      have hpr := putX_rng e
      refine (s121 (F := [rowF tf fr, rowN l [root, t1, t2], aB w2.heap.size ([Value.slice none 0 0, .int .i64 0, .slice none 0 0].map Ce.v), aB w1.heap.size (e.cells.map Ce.v), poolB w.heap.size sm T sf]) (h32.p3.p3.p3) hroom0.1 hi0.1 hi0.2 hpr.1 (by omega) hroom0.2.1 (by omega)).mono ?_
      rintro _ w50 ⟨rfl, h50⟩
      refine ⟨rfl, ?_⟩
      refine (s103 h50).mono ?_
      rintro _ w52 ⟨rfl, h52⟩
      refine ⟨tm, _, tf, rfl, h52.put 4 rfl rfl rfl (fun w56 h56 n56 => ?_)⟩
      refine ⟨tm, h56.cell 4 rfl rfl, _, h56.cell 4 rfl rfl, tf, h56.cell 4 rfl rfl, ?_⟩
      rw [setF_yes hgood hx W.hw]
      exact ⟨tm, tf, rfl, h56.drop.two⟩
/-! ## As the law asks it -/
noncomputable def setP (x : DPool) (root va : Int) (e : DEntry) : DPool := ⟨(setF x.Mem x.Free.Total x.Free.Free root va e).1.1, ⟨(setF x.Mem x.Free.Total x.Free.Free root va e).1.2.1, (setF x.Mem x.Free.Total x.Free.Free root va e).1.2.2⟩⟩
noncomputable def setN (x : DPool) (root va : Int) (e : DEntry) : Int := (setF x.Mem x.Free.Total x.Free.Free root va e).2
theorem set_out {m : List Int} {T : Int} {fr : List DBlock} {root va : Int} {e : DEntry} (hm : ∀ x, x ∈ m → 0 ≤ x ∧ x ≤ 255) (hl : m.length ≤ 1048576) (hf : fr.length ≤ 1048576) (hT : (Lit.int .i64 T).wf = true) (hfw : ∀ x, x ∈ fr → (Lit.int .i64 x.At).wf = true ∧ (Lit.int .i64 x.Order).wf = true) : POut (setF m T fr root va e).1.1 (setF m T fr root va e).1.2.1 (setF m T fr root va e).1.2.2 := by
  unfold setF
  split
  · exact ⟨fun x hx => absurd hx List.not_mem_nil, Nat.zero_le _, Nat.zero_le _, by decide, fun x hx => absurd hx List.not_mem_nil⟩
  · split
    · exact ⟨hm, by show m.length ≤ _; omega, by show fr.length ≤ _; omega, hT, hfw⟩
    · exact ⟨fun y hy => pk_rng hm _ _ _ y hy, by show (pk m _ _ _).length ≤ _; rw [pk_len]; omega, by show fr.length ≤ _; omega, hT, hfw⟩
theorem set_outD {x : DPool} {root va : Int} {e : DEntry} {w : World} {cs : List Value} (h : IsD w x.dat cs) (hs : x.dat.sz ≤ 1048576) : POut (setP x root va e).Mem (setP x root va e).Free.Total (setP x root va e).Free.Free := by
  have hw := pool_wf h
  obtain ⟨sm, sf, rfl, hm, hf⟩ := pool_of h hs
  have hx := pool_few hs
  exact set_out hm.rng hx.1 hx.2 hw.1 hw.2
theorem setP_cnt {x : DPool} {root va : Int} {e : DEntry} {w : World} {cs : List Value} (h : IsD w x.dat cs) (hs : x.dat.sz ≤ 1048576) : (setP x root va e).dat.cntT ≤ 8388608 := by
  have h1 := (set_outD (root := root) (va := va) (e := e) h hs).2.1
  have h2 := (set_outD (root := root) (va := va) (e := e) h hs).2.2.1
  rw [cnt_pool]; omega
theorem set_post {x : DPool} {root va : Int} {e : DEntry} {w w' : World} {v : Value} {cs : List Value} (hi : IsD w x.dat cs) (hs : x.dat.sz ≤ 1048576) (h : DropV (setF x.Mem x.Free.Total x.Free.Free root va e) w v w') : ∃ y, v = .tuple #[.agg ⟨y⟩, .int .i64 (setN x root va e)] ∧ Fr w.heap.size w'.heap.size w' (setP x root va e).dat y ∧ Ext w w' := by
  obtain ⟨tm, tf, rfl, hp⟩ := h
  exact ⟨_, rfl, SH.poolFr hp (set_outD (root := root) (va := va) (e := e) hi hs), hp.ext⟩
theorem specSetPage {x : DPool} {root va : Int} {e : DEntry} {w : World} {cs ce : List Value} (h : IsD w x.dat cs) (hs : x.dat.sz ≤ 1048576) (he : IsD w e.dat ce) : CallW Try.prog 48 #[.agg ⟨cs⟩, .int .i64 root, .int .i64 va, .agg ⟨ce⟩] w (fun v w' => ∃ y, v = .tuple #[.agg ⟨y⟩, .int .i64 (setN x root va e)] ∧ Fr w.heap.size w'.heap.size w' (setP x root va e).dat y ∧ Ext w w') := by
  have hi := h
  obtain rfl := DEntry.is_cells he
  obtain ⟨sm, sf, rfl, hm, hf⟩ := pool_of h hs
  exact (s48 hm hf (pool_few hs).2).mono (fun v w' hv => set_post hi hs hv)
theorem implSetPage {x : DPool} {root va : Int} {e : DEntry} {w : World} {cs ce : List Value} (h : IsD w x.dat cs) (hs : x.dat.sz ≤ 1048576) (he : IsD w e.dat ce) : CallW Try.prog 50 #[.agg ⟨cs⟩, .int .i64 root, .int .i64 va, .agg ⟨ce⟩] w (fun v w' => ∃ y, v = .tuple #[.agg ⟨y⟩, .int .i64 (setN x root va e)] ∧ Fr w.heap.size w'.heap.size w' (setP x root va e).dat y ∧ Ext w w') := by
  have hi := h
  obtain rfl := DEntry.is_cells he
  obtain ⟨sm, sf, rfl, hm, hf⟩ := pool_of h hs
  exact (s50 hm hf (pool_few hs).2).mono (fun v w' hv => set_post hi hs hv)
end Go.Proofs.Ytkgoanjemhbjgaa

/- The walk of a law: copies, both sides, comparisons; printed by a program. Conditions: none. -/
set_option linter.unusedVariables false
set_option linter.unusedSimpArgs false
set_option maxRecDepth 4000
namespace Go.Proofs.Ytkgoanjemhbjgaa
open Go Go.Den
theorem entry_sz (e : DEntry) : e.dat.sz ≤ 4194304 := by
  show (_ : Nat) ≤ _
  simp only [DEntry.dat, Dat.sz, Dat.szs]
  omega
theorem goc9 {a0_0 : Sl} {a0_1 : Int} {a0_2 : Sl} {a1 : Int} {a2 : Int} {a3_0 : Bool} {a3_1 : Bool} {a3_2 : Bool} {a3_3 : Bool} {a3_4 : Bool} {a3_5 : Bool} {a3_6 : Bool} {a3_7 : Bool} {a3_8 : Int} {w : World} {K : Value → World → Prop} (h : W9 a0_0 a0_1 a0_2 a1 a2 a3_0 a3_1 a3_2 a3_3 a3_4 a3_5 a3_6 a3_7 a3_8 w K) : Calls Try.prog 9 #[.agg #[.slice a0_0.a a0_0.len a0_0.cap, .int .i64 a0_1, .slice a0_2.a a0_2.len a0_2.cap], .int .i64 a1, .int .i64 a2, .agg #[.bool a3_0, .bool a3_1, .bool a3_2, .bool a3_3, .bool a3_4, .bool a3_5, .bool a3_6, .bool a3_7, .int .i64 a3_8]] w (fun e w' => ∃ v, e = .returned v ∧ K v w') :=
  denFn_sound tt_ok mix Try.func9 (by kernel_rfl) (eq9 a0_0 a0_1 a0_2 a1 a2 a3_0 a3_1 a3_2 a3_3 a3_4 a3_5 a3_6 a3_7 a3_8 w K ▸ h)
theorem walk9 {w : World} {x : DPool} {cs0 : List Value} (h0 : IsD w (x.dat) cs0) {root : Int} (wf1 : (Lit.int .i64 root).wf = true) {va : Int} (wf2 : (Lit.int .i64 va).wf = true) {en : DEntry} {cs3 : List Value} (h3 : IsD w (en.dat) cs3) : Calls Try.prog 9 #[.agg ⟨cs0⟩, .int .i64 root, .int .i64 va, .agg ⟨cs3⟩] w (fun e w' => ∃ v, e = .returned v ∧ (v = .bool true ∧ Ext w w')) := by
  obtain ⟨p0_0, p0_1_1, rfl, _, _, _, _⟩ := cells_Pool h0
  obtain ⟨rfl, _⟩ := cells_Entry h3
  refine goc9 ?_
  unfold W9
  refine alloc_step (fun w1 ew1 hbw1 nw1 => ?_)
  have e := ew1
  have zw1 := ew1.size
  refine alloc_step (fun w2 ew2 hbw2 nw2 => ?_)
  have hbw1 := hbw1.ext ew2
  have e := Only.trans e ew2
  have zw2 := ew2.size
  refine ⟨p0_0, hbw1.cell 0, ?_⟩
  refine ⟨_, hbw1.cell 1, ?_⟩
  refine ⟨p0_1_1, hbw1.cell 2, ?_⟩
  refine (c32 (DPool.has _) (IsD.ext e _ _ h0) (by omega) (by omega)).mono ?_
  rintro _ w7 ⟨⟨rw7, rfl, hrw7⟩, ew7⟩
  have hbw1 := hbw1.ext ew7
  have hbw2 := hbw2.ext ew7
  have e := Only.trans e ew7
  have zw7 := ew7.size
  refine ⟨_, rfl, ?_⟩
  refine BIf.dec (fun hn => ⟨rfl, e⟩) (fun hpw7 => ?_)
  have sz0 : (x.dat).sz ≤ 1048576 := by omega
  refine JoinW.cut2 (fun (p9 : Option Addr) (n10 : Int) w' => ∃ (b lo hi : Nat) (y : List Value), p9 = some ⟨b, 0, none⟩ ∧ n10 = setN x root va en ∧ w7.heap.size ≤ b ∧ w7.heap.size ≤ lo ∧ hi ≤ w'.heap.size ∧ (b < lo ∨ hi ≤ b) ∧ b < w'.heap.size ∧ Blk w' b y ∧ Fr lo hi w' (setP x root va en).dat y ∧ Ext w7 w') ?_ ?_
  · skip
    have er : Ext w7 w7 := Only.refl _ _
    have zr0 : w7.heap.size ≤ w7.heap.size := Nat.le_refl _
    have ed := ext_drew w7
    have hbw1 := hbw1.ext ed
    have hbw2 := hbw2.ext ed
    have e := Only.trans e ed
    have er := Only.trans er ed
    have zw7_drew := ed.size
    refine ⟨p0_0, hbw1.cell 0, ?_⟩
    refine ⟨_, hbw1.cell 1, ?_⟩
    refine ⟨p0_1_1, hbw1.cell 2, ?_⟩
    refine ⟨_, hbw2.cell 0, ?_⟩
    refine ⟨_, hbw2.cell 1, ?_⟩
    refine ⟨_, hbw2.cell 2, ?_⟩
    refine ⟨_, hbw2.cell 3, ?_⟩
    refine ⟨_, hbw2.cell 4, ?_⟩
    refine ⟨_, hbw2.cell 5, ?_⟩
    refine ⟨_, hbw2.cell 6, ?_⟩
    refine ⟨_, hbw2.cell 7, ?_⟩
    refine ⟨_, hbw2.cell 8, ?_⟩
    refine ⟨?_, ?_⟩
    · skip
      refine (c34 (DPool.has _) (IsD.ext e _ _ h0) (by have := sz0; omega)).mono ?_
      rintro _ w431 ⟨yw431, rfl, fw431, ew431⟩
      have hbw1 := hbw1.ext ew431
      have hbw2 := hbw2.ext ew431
      have e := Only.trans e ew431
      have er := Only.trans er ew431
      have zw431 := ew431.size
      have hiyw431 := fw431.is
      obtain ⟨ryw431_0, ryw431_1_1, rfl, _, _, _, _⟩ := cells_Pool hiyw431
      refine ⟨ryw431_0, _, ryw431_1_1, rfl, ?_⟩
      refine ⟨⟨_, hbw2.cell 0, _, hbw2.cell 1, _, hbw2.cell 2, _, hbw2.cell 3, _, hbw2.cell 4, _, hbw2.cell 5, _, hbw2.cell 6, _, hbw2.cell 7, _, hbw2.cell 8, rfl⟩, ?_⟩
      refine ⟨?_, ?_⟩
      · skip
        refine (c49 (DEntry.has _) (IsD.ext e _ _ h3) (by have := entry_sz en; omega)).mono ?_
        rintro _ w476 ⟨yw476, rfl, fw476, ew476⟩
        have hbw1 := hbw1.ext ew476
        have hbw2 := hbw2.ext ew476
        have fw431 := fw431.ext ew476
        have e := Only.trans e ew476
        have er := Only.trans er ew476
        have zw476 := ew476.size
        have hiyw476 := fw476.is
        obtain ⟨rfl, _⟩ := cells_Entry hiyw476
        refine ⟨_, _, _, _, _, _, _, _, _, rfl, ?_⟩
        refine ⟨?_, ?_⟩
        · skip
          refine (specSetPage (root := root) (va := va) fw431.is sz0 fw476.is).mono ?_
          rintro _ w507 ⟨yw507_0, rfl, fw507_0, ew507⟩
          have hbw1 := hbw1.ext ew507
          have hbw2 := hbw2.ext ew507
          have fw431 := fw431.ext ew507
          have fw476 := fw476.ext ew507
          have e := Only.trans e ew507
          have er := Only.trans er ew507
          have zw507 := ew507.size
          have hiyw507_0 := fw507_0.is
          obtain ⟨ryw507_0_0, ryw507_0_1_1, rfl, _, _, _, _⟩ := cells_Pool hiyw507_0
          refine ⟨ryw507_0_0, _, ryw507_0_1_1, _, rfl, ?_⟩
          refine ⟨?_, ?_⟩
          · skip
            refine alloc_step (fun w512 ew512 hbw512 nw512 => ?_)
            have hbw1 := hbw1.ext ew512
            have hbw2 := hbw2.ext ew512
            have fw431 := fw431.ext ew512
            have fw476 := fw476.ext ew512
            have fw507_0 := fw507_0.ext ew512
            have e := Only.trans e ew512
            have er := Only.trans er ew512
            have zw512 := ew512.size
            refine ⟨⟨_, hbw2.cell 0, _, hbw2.cell 1, _, hbw2.cell 2, _, hbw2.cell 3, _, hbw2.cell 4, _, hbw2.cell 5, _, hbw2.cell 6, _, hbw2.cell 7, _, hbw2.cell 8, rfl⟩, ?_⟩
            refine ⟨⟨p0_0, hbw1.cell 0, _, hbw1.cell 1, p0_1_1, hbw1.cell 2, rfl⟩, ?_⟩
            refine ⟨?_, ?_⟩
            · skip
              refine put_step hbw512 rfl rfl (fun w525 ow525 hbw512q nw525 => ?_)
              have hbw1 := hbw1.only ow525 (by omega)
              have hbw2 := hbw2.only ow525 (by omega)
              have fw431 := fw431.only ow525 (fun k h1 h2 => by omega)
              have fw476 := fw476.only ow525 (fun k h1 h2 => by omega)
              have fw507_0 := fw507_0.only ow525 (fun k h1 h2 => by omega)
              have e := Ext.own e ow525 (fun k hk => by omega)
              have er := Ext.own er ow525 (fun k hk => by omega)
              have hbw512 := hbw512q
              have hbl := hbw512.lt
              exact ⟨_, _, _, _, rfl, rfl, by omega, by omega, by omega, by omega, hbl, hbw512, fw507_0, er⟩
            · skip
              trivial
          · skip
            trivial
        · skip
          refine ⟨?_, ?_⟩
          · skip
            refine alloc_step (fun w486 ew486 hbw486 nw486 => ?_)
            have hbw1 := hbw1.ext ew486
            have hbw2 := hbw2.ext ew486
            have fw431 := fw431.ext ew486
            have fw476 := fw476.ext ew486
            have e := Only.trans e ew486
            have er := Only.trans er ew486
            have zw486 := ew486.size
            refine ⟨⟨_, hbw2.cell 0, _, hbw2.cell 1, _, hbw2.cell 2, _, hbw2.cell 3, _, hbw2.cell 4, _, hbw2.cell 5, _, hbw2.cell 6, _, hbw2.cell 7, _, hbw2.cell 8, rfl⟩, ?_⟩
            refine ⟨⟨p0_0, hbw1.cell 0, _, hbw1.cell 1, p0_1_1, hbw1.cell 2, rfl⟩, ?_⟩
            refine ⟨?_, ?_⟩
            · skip
              refine (specSetPage (root := root) (va := va) fw431.is sz0 fw476.is).mono ?_
              rintro _ w500 ⟨yw500_0, rfl, fw500_0, ew500⟩
              have hbw1 := hbw1.ext ew500
              have hbw2 := hbw2.ext ew500
              have hbw486 := hbw486.ext ew500
              have fw431 := fw431.ext ew500
              have fw476 := fw476.ext ew500
              have e := Only.trans e ew500
              have er := Only.trans er ew500
              have zw500 := ew500.size
              have hiyw500_0 := fw500_0.is
              obtain ⟨ryw500_0_0, ryw500_0_1_1, rfl, _, _, _, _⟩ := cells_Pool hiyw500_0
              refine ⟨ryw500_0_0, _, ryw500_0_1_1, _, rfl, ?_⟩
              refine ⟨?_, ?_⟩
              · skip
                refine put_step hbw486 rfl rfl (fun w505 ow505 hbw486q nw505 => ?_)
                have hbw1 := hbw1.only ow505 (by omega)
                have hbw2 := hbw2.only ow505 (by omega)
                have fw431 := fw431.only ow505 (fun k h1 h2 => by omega)
                have fw476 := fw476.only ow505 (fun k h1 h2 => by omega)
                have fw500_0 := fw500_0.only ow505 (fun k h1 h2 => by omega)
                have e := Ext.own e ow505 (fun k hk => by omega)
                have er := Ext.own er ow505 (fun k hk => by omega)
                have hbw486 := hbw486q
                have hbl := hbw486.lt
                exact ⟨_, _, _, _, rfl, rfl, by omega, by omega, by omega, by omega, hbl, hbw486, fw500_0, er⟩
              · skip
                trivial
            · skip
              trivial
          · skip
            trivial
      · skip
        refine ⟨?_, ?_⟩
        · skip
          refine alloc_step (fun w444 ew444 hbw444 nw444 => ?_)
          have hbw1 := hbw1.ext ew444
          have hbw2 := hbw2.ext ew444
          have fw431 := fw431.ext ew444
          have e := Only.trans e ew444
          have er := Only.trans er ew444
          have zw444 := ew444.size
          refine ⟨⟨_, hbw2.cell 0, _, hbw2.cell 1, _, hbw2.cell 2, _, hbw2.cell 3, _, hbw2.cell 4, _, hbw2.cell 5, _, hbw2.cell 6, _, hbw2.cell 7, _, hbw2.cell 8, rfl⟩, ?_⟩
          refine ⟨⟨p0_0, hbw1.cell 0, _, hbw1.cell 1, p0_1_1, hbw1.cell 2, rfl⟩, ?_⟩
          refine ⟨?_, ?_⟩
          · skip
            refine (c49 (DEntry.has _) (IsD.ext e _ _ h3) (by have := entry_sz en; omega)).mono ?_
            rintro _ w458 ⟨yw458, rfl, fw458, ew458⟩
            have hbw1 := hbw1.ext ew458
            have hbw2 := hbw2.ext ew458
            have hbw444 := hbw444.ext ew458
            have fw431 := fw431.ext ew458
            have e := Only.trans e ew458
            have er := Only.trans er ew458
            have zw458 := ew458.size
            have hiyw458 := fw458.is
            obtain ⟨rfl, _⟩ := cells_Entry hiyw458
            refine ⟨_, _, _, _, _, _, _, _, _, rfl, ?_⟩
            refine ⟨?_, ?_⟩
            · skip
              refine (specSetPage (root := root) (va := va) fw431.is sz0 fw458.is).mono ?_
              rintro _ w469 ⟨yw469_0, rfl, fw469_0, ew469⟩
              have hbw1 := hbw1.ext ew469
              have hbw2 := hbw2.ext ew469
              have hbw444 := hbw444.ext ew469
              have fw431 := fw431.ext ew469
              have fw458 := fw458.ext ew469
              have e := Only.trans e ew469
              have er := Only.trans er ew469
              have zw469 := ew469.size
              have hiyw469_0 := fw469_0.is
              obtain ⟨ryw469_0_0, ryw469_0_1_1, rfl, _, _, _, _⟩ := cells_Pool hiyw469_0
              refine ⟨ryw469_0_0, _, ryw469_0_1_1, _, rfl, ?_⟩
              refine ⟨?_, ?_⟩
              · skip
                refine put_step hbw444 rfl rfl (fun w474 ow474 hbw444q nw474 => ?_)
                have hbw1 := hbw1.only ow474 (by omega)
                have hbw2 := hbw2.only ow474 (by omega)
                have fw431 := fw431.only ow474 (fun k h1 h2 => by omega)
                have fw458 := fw458.only ow474 (fun k h1 h2 => by omega)
                have fw469_0 := fw469_0.only ow474 (fun k h1 h2 => by omega)
                have e := Ext.own e ow474 (fun k hk => by omega)
                have er := Ext.own er ow474 (fun k hk => by omega)
                have hbw444 := hbw444q
                have hbl := hbw444.lt
                exact ⟨_, _, _, _, rfl, rfl, by omega, by omega, by omega, by omega, hbl, hbw444, fw469_0, er⟩
              · skip
                trivial
            · skip
              trivial
          · skip
            trivial
        · skip
          trivial
    · skip
      refine ⟨?_, ?_⟩
      · skip
        refine alloc_step (fun w385 ew385 hbw385 nw385 => ?_)
        have hbw1 := hbw1.ext ew385
        have hbw2 := hbw2.ext ew385
        have e := Only.trans e ew385
        have er := Only.trans er ew385
        have zw385 := ew385.size
        refine ⟨⟨_, hbw2.cell 0, _, hbw2.cell 1, _, hbw2.cell 2, _, hbw2.cell 3, _, hbw2.cell 4, _, hbw2.cell 5, _, hbw2.cell 6, _, hbw2.cell 7, _, hbw2.cell 8, rfl⟩, ?_⟩
        refine ⟨⟨p0_0, hbw1.cell 0, _, hbw1.cell 1, p0_1_1, hbw1.cell 2, rfl⟩, ?_⟩
        refine ⟨?_, ?_⟩
        · skip
          refine (c34 (DPool.has _) (IsD.ext e _ _ h0) (by have := sz0; omega)).mono ?_
          rintro _ w399 ⟨yw399, rfl, fw399, ew399⟩
          have hbw1 := hbw1.ext ew399
          have hbw2 := hbw2.ext ew399
          have hbw385 := hbw385.ext ew399
          have e := Only.trans e ew399
          have er := Only.trans er ew399
          have zw399 := ew399.size
          have hiyw399 := fw399.is
          obtain ⟨ryw399_0, ryw399_1_1, rfl, _, _, _, _⟩ := cells_Pool hiyw399
          refine ⟨ryw399_0, _, ryw399_1_1, rfl, ?_⟩
          refine ⟨⟨_, hbw2.cell 0, _, hbw2.cell 1, _, hbw2.cell 2, _, hbw2.cell 3, _, hbw2.cell 4, _, hbw2.cell 5, _, hbw2.cell 6, _, hbw2.cell 7, _, hbw2.cell 8, rfl⟩, ?_⟩
          refine ⟨?_, ?_⟩
          · skip
            refine (c49 (DEntry.has _) (IsD.ext e _ _ h3) (by have := entry_sz en; omega)).mono ?_
            rintro _ w413 ⟨yw413, rfl, fw413, ew413⟩
            have hbw1 := hbw1.ext ew413
            have hbw2 := hbw2.ext ew413
            have hbw385 := hbw385.ext ew413
            have fw399 := fw399.ext ew413
            have e := Only.trans e ew413
            have er := Only.trans er ew413
            have zw413 := ew413.size
            have hiyw413 := fw413.is
            obtain ⟨rfl, _⟩ := cells_Entry hiyw413
            refine ⟨_, _, _, _, _, _, _, _, _, rfl, ?_⟩
            refine ⟨?_, ?_⟩
            · skip
              refine (specSetPage (root := root) (va := va) fw399.is sz0 fw413.is).mono ?_
              rintro _ w424 ⟨yw424_0, rfl, fw424_0, ew424⟩
              have hbw1 := hbw1.ext ew424
              have hbw2 := hbw2.ext ew424
              have hbw385 := hbw385.ext ew424
              have fw399 := fw399.ext ew424
              have fw413 := fw413.ext ew424
              have e := Only.trans e ew424
              have er := Only.trans er ew424
              have zw424 := ew424.size
              have hiyw424_0 := fw424_0.is
              obtain ⟨ryw424_0_0, ryw424_0_1_1, rfl, _, _, _, _⟩ := cells_Pool hiyw424_0
              refine ⟨ryw424_0_0, _, ryw424_0_1_1, _, rfl, ?_⟩
              refine ⟨?_, ?_⟩
              · skip
                refine put_step hbw385 rfl rfl (fun w429 ow429 hbw385q nw429 => ?_)
                have hbw1 := hbw1.only ow429 (by omega)
                have hbw2 := hbw2.only ow429 (by omega)
                have fw399 := fw399.only ow429 (fun k h1 h2 => by omega)
                have fw413 := fw413.only ow429 (fun k h1 h2 => by omega)
                have fw424_0 := fw424_0.only ow429 (fun k h1 h2 => by omega)
                have e := Ext.own e ow429 (fun k hk => by omega)
                have er := Ext.own er ow429 (fun k hk => by omega)
                have hbw385 := hbw385q
                have hbl := hbw385.lt
                exact ⟨_, _, _, _, rfl, rfl, by omega, by omega, by omega, by omega, hbl, hbw385, fw424_0, er⟩
              · skip
                trivial
            · skip
              trivial
          · skip
            trivial
        · skip
          trivial
      · skip
        trivial
  rintro (p9 : Option Addr) (n10 : Int) w12 ⟨bw12, low12, hiw12, yw12, rfl, rfl, hxw12, hlow12, hhiw12, hdsw12, hblw12, hbw12, fw12, erw12⟩
  have hbw1 := hbw1.ext erw12
  have hbw2 := hbw2.ext erw12
  have e := Only.trans e erw12
  have zw12 := erw12.size
  have hiyw12 := fw12.is
  obtain ⟨ryw12_0, ryw12_1_1, rfl, _, _, _, _⟩ := cells_Pool hiyw12
  refine ⟨p0_0, hbw1.cell 0, ?_⟩
  refine ⟨_, hbw1.cell 1, ?_⟩
  refine ⟨p0_1_1, hbw1.cell 2, ?_⟩
  refine (c34 (DPool.has _) (IsD.ext e _ _ h0) (by have := sz0; omega)).mono ?_
  rintro _ w17 ⟨yw17, rfl, fw17, ew17⟩
  have hbw1 := hbw1.ext ew17
  have hbw2 := hbw2.ext ew17
  have hbw12 := hbw12.ext ew17
  have fw12 := fw12.ext ew17
  have e := Only.trans e ew17
  have zw17 := ew17.size
  have hiyw17 := fw17.is
  obtain ⟨ryw17_0, ryw17_1_1, rfl, _, _, _, _⟩ := cells_Pool hiyw17
  refine ⟨ryw17_0, _, ryw17_1_1, rfl, ?_⟩
  refine alloc_step (fun w21 ew21 hbw21 nw21 => ?_)
  have hbw1 := hbw1.ext ew21
  have hbw2 := hbw2.ext ew21
  have hbw12 := hbw12.ext ew21
  have fw12 := fw12.ext ew21
  have fw17 := fw17.ext ew21
  have e := Only.trans e ew21
  have zw21 := ew21.size
  refine put_step hbw21 rfl rfl (fun w22 ow22 hbw21q nw22 => ?_)
  have hbw1 := hbw1.only ow22 (by omega)
  have hbw2 := hbw2.only ow22 (by omega)
  have hbw12 := hbw12.only ow22 (by omega)
  have fw12 := fw12.only ow22 (fun k h1 h2 => by omega)
  have fw17 := fw17.only ow22 (fun k h1 h2 => by omega)
  have e := Ext.own e ow22 (fun k hk => by omega)
  have hbw21 := hbw21q
  refine JoinW.cut2 (fun (p23 : Option Addr) (n24 : Int) w' => ∃ (b lo hi : Nat) (y : List Value), p23 = some ⟨b, 0, none⟩ ∧ n24 = setN x root va en ∧ w22.heap.size ≤ b ∧ w22.heap.size ≤ lo ∧ hi ≤ w'.heap.size ∧ (b < lo ∨ hi ≤ b) ∧ b < w'.heap.size ∧ Blk w' b y ∧ Fr lo hi w' (setP x root va en).dat y ∧ Ext w22 w') ?_ ?_
  · skip
    have er : Ext w22 w22 := Only.refl _ _
    have zr0 : w22.heap.size ≤ w22.heap.size := Nat.le_refl _
    have ed := ext_drew w22
    have hbw1 := hbw1.ext ed
    have hbw2 := hbw2.ext ed
    have hbw12 := hbw12.ext ed
    have hbw21 := hbw21.ext ed
    have fw12 := fw12.ext ed
    have fw17 := fw17.ext ed
    have e := Only.trans e ed
    have er := Only.trans er ed
    have zw22_drew := ed.size
    refine ⟨ryw17_0, hbw21.cell 0, ?_⟩
    refine ⟨_, hbw21.cell 1, ?_⟩
    refine ⟨ryw17_1_1, hbw21.cell 2, ?_⟩
    refine ⟨_, hbw2.cell 0, ?_⟩
    refine ⟨_, hbw2.cell 1, ?_⟩
    refine ⟨_, hbw2.cell 2, ?_⟩
    refine ⟨_, hbw2.cell 3, ?_⟩
    refine ⟨_, hbw2.cell 4, ?_⟩
    refine ⟨_, hbw2.cell 5, ?_⟩
    refine ⟨_, hbw2.cell 6, ?_⟩
    refine ⟨_, hbw2.cell 7, ?_⟩
    refine ⟨_, hbw2.cell 8, ?_⟩
    refine ⟨?_, ?_⟩
    · skip
      refine (c49 (DEntry.has _) (IsD.ext e _ _ h3) (by have := entry_sz en; omega)).mono ?_
      rintro _ w320 ⟨yw320, rfl, fw320, ew320⟩
      have hbw1 := hbw1.ext ew320
      have hbw2 := hbw2.ext ew320
      have hbw12 := hbw12.ext ew320
      have hbw21 := hbw21.ext ew320
      have fw12 := fw12.ext ew320
      have fw17 := fw17.ext ew320
      have e := Only.trans e ew320
      have er := Only.trans er ew320
      have zw320 := ew320.size
      have hiyw320 := fw320.is
      obtain ⟨rfl, _⟩ := cells_Entry hiyw320
      refine ⟨_, _, _, _, _, _, _, _, _, rfl, ?_⟩
      refine ⟨⟨ryw17_0, hbw21.cell 0, _, hbw21.cell 1, ryw17_1_1, hbw21.cell 2, rfl⟩, ?_⟩
      refine ⟨?_, ?_⟩
      · skip
        refine (implSetPage (root := root) (va := va) fw17.is sz0 fw320.is).mono ?_
        rintro _ w354 ⟨yw354_0, rfl, fw354_0, ew354⟩
        have hbw1 := hbw1.ext ew354
        have hbw2 := hbw2.ext ew354
        have hbw12 := hbw12.ext ew354
        have hbw21 := hbw21.ext ew354
        have fw12 := fw12.ext ew354
        have fw17 := fw17.ext ew354
        have fw320 := fw320.ext ew354
        have e := Only.trans e ew354
        have er := Only.trans er ew354
        have zw354 := ew354.size
        have hiyw354_0 := fw354_0.is
        obtain ⟨ryw354_0_0, ryw354_0_1_1, rfl, _, _, _, _⟩ := cells_Pool hiyw354_0
        refine ⟨ryw354_0_0, _, ryw354_0_1_1, _, rfl, ?_⟩
        refine ⟨?_, ?_⟩
        · skip
          refine alloc_step (fun w359 ew359 hbw359 nw359 => ?_)
          have hbw1 := hbw1.ext ew359
          have hbw2 := hbw2.ext ew359
          have hbw12 := hbw12.ext ew359
          have hbw21 := hbw21.ext ew359
          have fw12 := fw12.ext ew359
          have fw17 := fw17.ext ew359
          have fw320 := fw320.ext ew359
          have fw354_0 := fw354_0.ext ew359
          have e := Only.trans e ew359
          have er := Only.trans er ew359
          have zw359 := ew359.size
          refine ⟨⟨_, hbw2.cell 0, _, hbw2.cell 1, _, hbw2.cell 2, _, hbw2.cell 3, _, hbw2.cell 4, _, hbw2.cell 5, _, hbw2.cell 6, _, hbw2.cell 7, _, hbw2.cell 8, rfl⟩, ?_⟩
          refine ⟨⟨ryw17_0, hbw21.cell 0, _, hbw21.cell 1, ryw17_1_1, hbw21.cell 2, rfl⟩, ?_⟩
          refine ⟨?_, ?_⟩
          · skip
            refine put_step hbw359 rfl rfl (fun w372 ow372 hbw359q nw372 => ?_)
            have hbw1 := hbw1.only ow372 (by omega)
            have hbw2 := hbw2.only ow372 (by omega)
            have hbw12 := hbw12.only ow372 (by omega)
            have hbw21 := hbw21.only ow372 (by omega)
            have fw12 := fw12.only ow372 (fun k h1 h2 => by omega)
            have fw17 := fw17.only ow372 (fun k h1 h2 => by omega)
            have fw320 := fw320.only ow372 (fun k h1 h2 => by omega)
            have fw354_0 := fw354_0.only ow372 (fun k h1 h2 => by omega)
            have e := Ext.own e ow372 (fun k hk => by omega)
            have er := Ext.own er ow372 (fun k hk => by omega)
            have hbw359 := hbw359q
            have hbl := hbw359.lt
            exact ⟨_, _, _, _, rfl, rfl, by omega, by omega, by omega, by omega, hbl, hbw359, fw354_0, er⟩
          · skip
            trivial
        · skip
          trivial
      · skip
        refine ⟨?_, ?_⟩
        · skip
          refine alloc_step (fun w333 ew333 hbw333 nw333 => ?_)
          have hbw1 := hbw1.ext ew333
          have hbw2 := hbw2.ext ew333
          have hbw12 := hbw12.ext ew333
          have hbw21 := hbw21.ext ew333
          have fw12 := fw12.ext ew333
          have fw17 := fw17.ext ew333
          have fw320 := fw320.ext ew333
          have e := Only.trans e ew333
          have er := Only.trans er ew333
          have zw333 := ew333.size
          refine ⟨⟨_, hbw2.cell 0, _, hbw2.cell 1, _, hbw2.cell 2, _, hbw2.cell 3, _, hbw2.cell 4, _, hbw2.cell 5, _, hbw2.cell 6, _, hbw2.cell 7, _, hbw2.cell 8, rfl⟩, ?_⟩
          refine ⟨⟨ryw17_0, hbw21.cell 0, _, hbw21.cell 1, ryw17_1_1, hbw21.cell 2, rfl⟩, ?_⟩
          refine ⟨?_, ?_⟩
          · skip
            refine (implSetPage (root := root) (va := va) fw17.is sz0 fw320.is).mono ?_
            rintro _ w347 ⟨yw347_0, rfl, fw347_0, ew347⟩
            have hbw1 := hbw1.ext ew347
            have hbw2 := hbw2.ext ew347
            have hbw12 := hbw12.ext ew347
            have hbw21 := hbw21.ext ew347
            have hbw333 := hbw333.ext ew347
            have fw12 := fw12.ext ew347
            have fw17 := fw17.ext ew347
            have fw320 := fw320.ext ew347
            have e := Only.trans e ew347
            have er := Only.trans er ew347
            have zw347 := ew347.size
            have hiyw347_0 := fw347_0.is
            obtain ⟨ryw347_0_0, ryw347_0_1_1, rfl, _, _, _, _⟩ := cells_Pool hiyw347_0
            refine ⟨ryw347_0_0, _, ryw347_0_1_1, _, rfl, ?_⟩
            refine ⟨?_, ?_⟩
            · skip
              refine put_step hbw333 rfl rfl (fun w352 ow352 hbw333q nw352 => ?_)
              have hbw1 := hbw1.only ow352 (by omega)
              have hbw2 := hbw2.only ow352 (by omega)
              have hbw12 := hbw12.only ow352 (by omega)
              have hbw21 := hbw21.only ow352 (by omega)
              have fw12 := fw12.only ow352 (fun k h1 h2 => by omega)
              have fw17 := fw17.only ow352 (fun k h1 h2 => by omega)
              have fw320 := fw320.only ow352 (fun k h1 h2 => by omega)
              have fw347_0 := fw347_0.only ow352 (fun k h1 h2 => by omega)
              have e := Ext.own e ow352 (fun k hk => by omega)
              have er := Ext.own er ow352 (fun k hk => by omega)
              have hbw333 := hbw333q
              have hbl := hbw333.lt
              exact ⟨_, _, _, _, rfl, rfl, by omega, by omega, by omega, by omega, hbl, hbw333, fw347_0, er⟩
            · skip
              trivial
          · skip
            trivial
        · skip
          trivial
    · skip
      refine ⟨?_, ?_⟩
      · skip
        refine alloc_step (fun w285 ew285 hbw285 nw285 => ?_)
        have hbw1 := hbw1.ext ew285
        have hbw2 := hbw2.ext ew285
        have hbw12 := hbw12.ext ew285
        have hbw21 := hbw21.ext ew285
        have fw12 := fw12.ext ew285
        have fw17 := fw17.ext ew285
        have e := Only.trans e ew285
        have er := Only.trans er ew285
        have zw285 := ew285.size
        refine ⟨⟨_, hbw2.cell 0, _, hbw2.cell 1, _, hbw2.cell 2, _, hbw2.cell 3, _, hbw2.cell 4, _, hbw2.cell 5, _, hbw2.cell 6, _, hbw2.cell 7, _, hbw2.cell 8, rfl⟩, ?_⟩
        refine ⟨⟨ryw17_0, hbw21.cell 0, _, hbw21.cell 1, ryw17_1_1, hbw21.cell 2, rfl⟩, ?_⟩
        refine ⟨?_, ?_⟩
        · skip
          refine (c49 (DEntry.has _) (IsD.ext e _ _ h3) (by have := entry_sz en; omega)).mono ?_
          rintro _ w299 ⟨yw299, rfl, fw299, ew299⟩
          have hbw1 := hbw1.ext ew299
          have hbw2 := hbw2.ext ew299
          have hbw12 := hbw12.ext ew299
          have hbw21 := hbw21.ext ew299
          have hbw285 := hbw285.ext ew299
          have fw12 := fw12.ext ew299
          have fw17 := fw17.ext ew299
          have e := Only.trans e ew299
          have er := Only.trans er ew299
          have zw299 := ew299.size
          have hiyw299 := fw299.is
          obtain ⟨rfl, _⟩ := cells_Entry hiyw299
          refine ⟨_, _, _, _, _, _, _, _, _, rfl, ?_⟩
          refine ⟨⟨ryw17_0, hbw21.cell 0, _, hbw21.cell 1, ryw17_1_1, hbw21.cell 2, rfl⟩, ?_⟩
          refine ⟨?_, ?_⟩
          · skip
            refine (implSetPage (root := root) (va := va) fw17.is sz0 fw299.is).mono ?_
            rintro _ w313 ⟨yw313_0, rfl, fw313_0, ew313⟩
            have hbw1 := hbw1.ext ew313
            have hbw2 := hbw2.ext ew313
            have hbw12 := hbw12.ext ew313
            have hbw21 := hbw21.ext ew313
            have hbw285 := hbw285.ext ew313
            have fw12 := fw12.ext ew313
            have fw17 := fw17.ext ew313
            have fw299 := fw299.ext ew313
            have e := Only.trans e ew313
            have er := Only.trans er ew313
            have zw313 := ew313.size
            have hiyw313_0 := fw313_0.is
            obtain ⟨ryw313_0_0, ryw313_0_1_1, rfl, _, _, _, _⟩ := cells_Pool hiyw313_0
            refine ⟨ryw313_0_0, _, ryw313_0_1_1, _, rfl, ?_⟩
            refine ⟨?_, ?_⟩
            · skip
              refine put_step hbw285 rfl rfl (fun w318 ow318 hbw285q nw318 => ?_)
              have hbw1 := hbw1.only ow318 (by omega)
              have hbw2 := hbw2.only ow318 (by omega)
              have hbw12 := hbw12.only ow318 (by omega)
              have hbw21 := hbw21.only ow318 (by omega)
              have fw12 := fw12.only ow318 (fun k h1 h2 => by omega)
              have fw17 := fw17.only ow318 (fun k h1 h2 => by omega)
              have fw299 := fw299.only ow318 (fun k h1 h2 => by omega)
              have fw313_0 := fw313_0.only ow318 (fun k h1 h2 => by omega)
              have e := Ext.own e ow318 (fun k hk => by omega)
              have er := Ext.own er ow318 (fun k hk => by omega)
              have hbw285 := hbw285q
              have hbl := hbw285.lt
              exact ⟨_, _, _, _, rfl, rfl, by omega, by omega, by omega, by omega, hbl, hbw285, fw313_0, er⟩
            · skip
              trivial
          · skip
            trivial
        · skip
          trivial
      · skip
        trivial
  rintro (p23 : Option Addr) (n24 : Int) w26 ⟨bw26, low26, hiw26, yw26, rfl, rfl, hxw26, hlow26, hhiw26, hdsw26, hblw26, hbw26, fw26, erw26⟩
  have hbw1 := hbw1.ext erw26
  have hbw2 := hbw2.ext erw26
  have hbw12 := hbw12.ext erw26
  have hbw21 := hbw21.ext erw26
  have fw12 := fw12.ext erw26
  have fw17 := fw17.ext erw26
  have e := Only.trans e erw26
  have zw26 := erw26.size
  have hiyw26 := fw26.is
  obtain ⟨ryw26_0, ryw26_1_1, rfl, _, _, _, _⟩ := cells_Pool hiyw26
  refine addrOf_mk ?_
  refine ⟨ryw26_0, hbw26.cell 0, ?_⟩
  refine ⟨_, hbw26.cell 1, ?_⟩
  refine ⟨ryw26_1_1, hbw26.cell 2, ?_⟩
  refine addrOf_mk ?_
  refine ⟨ryw12_0, hbw12.cell 0, ?_⟩
  refine ⟨_, hbw12.cell 1, ?_⟩
  refine ⟨ryw12_1_1, hbw12.cell 2, ?_⟩
  refine (c36 (DPool.has _) fw26.is fw12.is).mono ?_
  rintro _ w36 ⟨rfl, ew36⟩
  have hbw1 := hbw1.ext ew36
  have hbw2 := hbw2.ext ew36
  have hbw12 := hbw12.ext ew36
  have hbw21 := hbw21.ext ew36
  have hbw26 := hbw26.ext ew36
  have fw12 := fw12.ext ew36
  have fw17 := fw17.ext ew36
  have fw26 := fw26.ext ew36
  have e := Only.trans e ew36
  have zw36 := ew36.size
  refine ⟨_, rfl, ?_⟩
  refine JoinW.each ?_
  refine BIf.f rfl ?_
  refine BIf.f (by first | (simp; done) | (simp; omega)) ?_
  have ed := ext_drew w36
  have hbw1 := hbw1.ext ed
  have hbw2 := hbw2.ext ed
  have hbw12 := hbw12.ext ed
  have hbw21 := hbw21.ext ed
  have hbw26 := hbw26.ext ed
  have fw12 := fw12.ext ed
  have fw17 := fw17.ext ed
  have fw26 := fw26.ext ed
  have e := Only.trans e ed
  have zw36_drew := ed.size
  refine ⟨ryw17_0, hbw21.cell 0, ?_⟩
  refine ⟨_, hbw21.cell 1, ?_⟩
  refine ⟨ryw17_1_1, hbw21.cell 2, ?_⟩
  refine ⟨p0_0, hbw1.cell 0, ?_⟩
  refine ⟨_, hbw1.cell 1, ?_⟩
  refine ⟨p0_1_1, hbw1.cell 2, ?_⟩
  refine (c34 (DPool.has _) (IsD.ext e _ _ h0) (by have := sz0; omega)).mono ?_
  rintro _ w48 ⟨yw48, rfl, fw48, ew48⟩
  have hbw1 := hbw1.ext ew48
  have hbw2 := hbw2.ext ew48
  have hbw12 := hbw12.ext ew48
  have hbw21 := hbw21.ext ew48
  have hbw26 := hbw26.ext ew48
  have fw12 := fw12.ext ew48
  have fw17 := fw17.ext ew48
  have fw26 := fw26.ext ew48
  have e := Only.trans e ew48
  have zw48 := ew48.size
  have hiyw48 := fw48.is
  obtain ⟨ryw48_0, ryw48_1_1, rfl, _, _, _, _⟩ := cells_Pool hiyw48
  refine ⟨ryw48_0, _, ryw48_1_1, rfl, ?_⟩
  refine ⟨⟨ryw17_0, hbw21.cell 0, _, hbw21.cell 1, ryw17_1_1, hbw21.cell 2, rfl⟩, ?_⟩
  refine (c36 (DPool.has _) fw17.is fw48.is).mono ?_
  rintro _ w56 ⟨rfl, ew56⟩
  have hbw1 := hbw1.ext ew56
  have hbw2 := hbw2.ext ew56
  have hbw12 := hbw12.ext ew56
  have hbw21 := hbw21.ext ew56
  have hbw26 := hbw26.ext ew56
  have fw12 := fw12.ext ew56
  have fw17 := fw17.ext ew56
  have fw26 := fw26.ext ew56
  have fw48 := fw48.ext ew56
  have e := Only.trans e ew56
  have zw56 := ew56.size
  refine ⟨_, rfl, ?_⟩
  refine BIf.f rfl ?_
  refine ⟨ryw17_0, hbw21.cell 0, ?_⟩
  refine ⟨_, hbw21.cell 1, ?_⟩
  refine ⟨ryw17_1_1, hbw21.cell 2, ?_⟩
  obtain ⟨bsw62, oww62, ndw62, rgw62⟩ := fw17
  refine (c39 (DPool.has _) oww62 ndw62 (by omega) (by have := sz0; have := pool_cnt sz0; (try simp only [Dat.cntT, Dat.cntTs] at *); omega)).mono ?_
  rintro _ w62 ⟨rfl, dw62, cnw62, hsw62, mkw62, oww62, ow62⟩
  have hbw1 := hbw1.only ow62 (fun hk => by have := rgw62 _ hk; omega)
  have hbw2 := hbw2.only ow62 (fun hk => by have := rgw62 _ hk; omega)
  have hbw12 := hbw12.only ow62 (fun hk => by have := rgw62 _ hk; omega)
  have hbw21 := hbw21.only ow62 (fun hk => by have := rgw62 _ hk; omega)
  have hbw26 := hbw26.only ow62 (fun hk => by have := rgw62 _ hk; omega)
  have fw12 := fw12.only ow62 (fun k h1 h2 hk => by have := rgw62 k hk; omega)
  have fw26 := fw26.only ow62 (fun k h1 h2 hk => by have := rgw62 k hk; omega)
  have fw48 := fw48.only ow62 (fun k h1 h2 hk => by have := rgw62 k hk; omega)
  have e := Ext.own e ow62 (fun k hk => by have := rgw62 k hk; omega)
  have zw62 := ow62.size
  have fw62 : Fr _ _ w62 dw62 _ := ⟨bsw62, oww62, ndw62, rgw62⟩
  refine ⟨_, rfl, ?_⟩
  refine JoinW.each ?_
  refine BIf.f (decide_eq_false (by omega)) ?_
  refine addrOf_mk ?_
  refine ⟨ryw26_0, hbw26.cell 0, ?_⟩
  refine ⟨_, hbw26.cell 1, ?_⟩
  refine ⟨ryw26_1_1, hbw26.cell 2, ?_⟩
  refine addrOf_mk ?_
  refine ⟨ryw12_0, hbw12.cell 0, ?_⟩
  refine ⟨_, hbw12.cell 1, ?_⟩
  refine ⟨ryw12_1_1, hbw12.cell 2, ?_⟩
  refine (c36 (DPool.has _) fw26.is fw12.is).mono ?_
  rintro _ w271 ⟨rfl, ew271⟩
  have hbw1 := hbw1.ext ew271
  have hbw2 := hbw2.ext ew271
  have hbw12 := hbw12.ext ew271
  have hbw21 := hbw21.ext ew271
  have hbw26 := hbw26.ext ew271
  have fw12 := fw12.ext ew271
  have fw26 := fw26.ext ew271
  have fw48 := fw48.ext ew271
  have fw62 := fw62.ext ew271
  have e := Only.trans e ew271
  have zw271 := ew271.size
  refine ⟨_, rfl, ?_⟩
  refine JoinW.each ?_
  refine BIf.f (by first | (simp; done) | (simp; omega)) ?_
  refine BIf.f (by first | (simp; done) | (simp; omega)) ?_
  refine addrOf_mk ?_
  refine ⟨ryw26_0, hbw26.cell 0, ?_⟩
  refine ⟨_, hbw26.cell 1, ?_⟩
  refine ⟨ryw26_1_1, hbw26.cell 2, ?_⟩
  obtain ⟨bsw75, oww75, ndw75, rgw75⟩ := fw26
  refine (c39 (DPool.has _) oww75 ndw75 (by omega) (by have := setP_cnt (root := root) (va := va) (e := en) h0 sz0; omega)).mono ?_
  rintro _ w75 ⟨rfl, dw75, cnw75, hsw75, mkw75, oww75, ow75⟩
  have hbw1 := hbw1.only ow75 (fun hk => by have := rgw75 _ hk; omega)
  have hbw2 := hbw2.only ow75 (fun hk => by have := rgw75 _ hk; omega)
  have hbw12 := hbw12.only ow75 (fun hk => by have := rgw75 _ hk; omega)
  have hbw21 := hbw21.only ow75 (fun hk => by have := rgw75 _ hk; omega)
  have hbw26 := hbw26.only ow75 (fun hk => by have := rgw75 _ hk; omega)
  have fw12 := fw12.only ow75 (fun k h1 h2 hk => by have := rgw75 k hk; omega)
  have fw48 := fw48.only ow75 (fun k h1 h2 hk => by have := rgw75 k hk; omega)
  have fw62 := fw62.only ow75 (fun k h1 h2 hk => by have := rgw75 k hk; omega)
  have e := Ext.own e ow75 (fun k hk => by have := rgw75 k hk; omega)
  have zw75 := ow75.size
  have fw75 : Fr _ _ w75 dw75 _ := ⟨bsw75, oww75, ndw75, rgw75⟩
  refine ⟨_, rfl, ?_⟩
  refine addrOf_mk ?_
  refine ⟨ryw26_0, hbw26.cell 0, ?_⟩
  refine ⟨_, hbw26.cell 1, ?_⟩
  refine ⟨ryw26_1_1, hbw26.cell 2, ?_⟩
  refine (c40 hsw75 fw75.is mkw75 (by omega) (by have := cnw75; have := setP_cnt (root := root) (va := va) (e := en) h0 sz0; omega)).mono ?_
  rintro _ w82 ⟨rfl, ew82⟩
  have hbw1 := hbw1.ext ew82
  have hbw2 := hbw2.ext ew82
  have hbw12 := hbw12.ext ew82
  have hbw21 := hbw21.ext ew82
  have hbw26 := hbw26.ext ew82
  have fw12 := fw12.ext ew82
  have fw48 := fw48.ext ew82
  have fw62 := fw62.ext ew82
  have fw75 := fw75.ext ew82
  have e := Only.trans e ew82
  have zw82 := ew82.size
  refine ⟨_, rfl, ?_⟩
  refine BIf.f (decide_eq_false (by omega)) ?_
  refine BIf.f (by first | (simp; done) | (simp; omega)) ?_
  refine JoinW.cut2 (fun (p84 : Option Addr) (n85 : Int) w' => ∃ (b lo hi : Nat) (y : List Value), p84 = some ⟨b, 0, none⟩ ∧ n85 = setN x root va en ∧ w82.heap.size ≤ b ∧ w82.heap.size ≤ lo ∧ hi ≤ w'.heap.size ∧ (b < lo ∨ hi ≤ b) ∧ b < w'.heap.size ∧ Blk w' b y ∧ Fr lo hi w' (setP x root va en).dat y ∧ Ext w82 w') ?_ ?_
  · skip
    have er : Ext w82 w82 := Only.refl _ _
    have zr0 : w82.heap.size ≤ w82.heap.size := Nat.le_refl _
    have ed := ext_drew w82
    have hbw1 := hbw1.ext ed
    have hbw2 := hbw2.ext ed
    have hbw12 := hbw12.ext ed
    have hbw21 := hbw21.ext ed
    have hbw26 := hbw26.ext ed
    have fw12 := fw12.ext ed
    have fw48 := fw48.ext ed
    have fw62 := fw62.ext ed
    have fw75 := fw75.ext ed
    have e := Only.trans e ed
    have er := Only.trans er ed
    have zw82_drew := ed.size
    refine ⟨p0_0, hbw1.cell 0, ?_⟩
    refine ⟨_, hbw1.cell 1, ?_⟩
    refine ⟨p0_1_1, hbw1.cell 2, ?_⟩
    refine ⟨_, hbw2.cell 0, ?_⟩
    refine ⟨_, hbw2.cell 1, ?_⟩
    refine ⟨_, hbw2.cell 2, ?_⟩
    refine ⟨_, hbw2.cell 3, ?_⟩
    refine ⟨_, hbw2.cell 4, ?_⟩
    refine ⟨_, hbw2.cell 5, ?_⟩
    refine ⟨_, hbw2.cell 6, ?_⟩
    refine ⟨_, hbw2.cell 7, ?_⟩
    refine ⟨_, hbw2.cell 8, ?_⟩
    refine ⟨?_, ?_⟩
    · skip
      refine (c34 (DPool.has _) (IsD.ext e _ _ h0) (by have := sz0; omega)).mono ?_
      rintro _ w167 ⟨yw167, rfl, fw167, ew167⟩
      have hbw1 := hbw1.ext ew167
      have hbw2 := hbw2.ext ew167
      have hbw12 := hbw12.ext ew167
      have hbw21 := hbw21.ext ew167
      have hbw26 := hbw26.ext ew167
      have fw12 := fw12.ext ew167
      have fw48 := fw48.ext ew167
      have fw62 := fw62.ext ew167
      have fw75 := fw75.ext ew167
      have e := Only.trans e ew167
      have er := Only.trans er ew167
      have zw167 := ew167.size
      have hiyw167 := fw167.is
      obtain ⟨ryw167_0, ryw167_1_1, rfl, _, _, _, _⟩ := cells_Pool hiyw167
      refine ⟨ryw167_0, _, ryw167_1_1, rfl, ?_⟩
      refine ⟨⟨_, hbw2.cell 0, _, hbw2.cell 1, _, hbw2.cell 2, _, hbw2.cell 3, _, hbw2.cell 4, _, hbw2.cell 5, _, hbw2.cell 6, _, hbw2.cell 7, _, hbw2.cell 8, rfl⟩, ?_⟩
      refine ⟨?_, ?_⟩
      · skip
        refine (c49 (DEntry.has _) (IsD.ext e _ _ h3) (by have := entry_sz en; omega)).mono ?_
        rintro _ w212 ⟨yw212, rfl, fw212, ew212⟩
        have hbw1 := hbw1.ext ew212
        have hbw2 := hbw2.ext ew212
        have hbw12 := hbw12.ext ew212
        have hbw21 := hbw21.ext ew212
        have hbw26 := hbw26.ext ew212
        have fw12 := fw12.ext ew212
        have fw48 := fw48.ext ew212
        have fw62 := fw62.ext ew212
        have fw75 := fw75.ext ew212
        have fw167 := fw167.ext ew212
        have e := Only.trans e ew212
        have er := Only.trans er ew212
        have zw212 := ew212.size
        have hiyw212 := fw212.is
        obtain ⟨rfl, _⟩ := cells_Entry hiyw212
        refine ⟨_, _, _, _, _, _, _, _, _, rfl, ?_⟩
        refine ⟨?_, ?_⟩
        · skip
          refine (implSetPage (root := root) (va := va) fw167.is sz0 fw212.is).mono ?_
          rintro _ w243 ⟨yw243_0, rfl, fw243_0, ew243⟩
          have hbw1 := hbw1.ext ew243
          have hbw2 := hbw2.ext ew243
          have hbw12 := hbw12.ext ew243
          have hbw21 := hbw21.ext ew243
          have hbw26 := hbw26.ext ew243
          have fw12 := fw12.ext ew243
          have fw48 := fw48.ext ew243
          have fw62 := fw62.ext ew243
          have fw75 := fw75.ext ew243
          have fw167 := fw167.ext ew243
          have fw212 := fw212.ext ew243
          have e := Only.trans e ew243
          have er := Only.trans er ew243
          have zw243 := ew243.size
          have hiyw243_0 := fw243_0.is
          obtain ⟨ryw243_0_0, ryw243_0_1_1, rfl, _, _, _, _⟩ := cells_Pool hiyw243_0
          refine ⟨ryw243_0_0, _, ryw243_0_1_1, _, rfl, ?_⟩
          refine ⟨?_, ?_⟩
          · skip
            refine alloc_step (fun w248 ew248 hbw248 nw248 => ?_)
            have hbw1 := hbw1.ext ew248
            have hbw2 := hbw2.ext ew248
            have hbw12 := hbw12.ext ew248
            have hbw21 := hbw21.ext ew248
            have hbw26 := hbw26.ext ew248
            have fw12 := fw12.ext ew248
            have fw48 := fw48.ext ew248
            have fw62 := fw62.ext ew248
            have fw75 := fw75.ext ew248
            have fw167 := fw167.ext ew248
            have fw212 := fw212.ext ew248
            have fw243_0 := fw243_0.ext ew248
            have e := Only.trans e ew248
            have er := Only.trans er ew248
            have zw248 := ew248.size
            refine ⟨⟨_, hbw2.cell 0, _, hbw2.cell 1, _, hbw2.cell 2, _, hbw2.cell 3, _, hbw2.cell 4, _, hbw2.cell 5, _, hbw2.cell 6, _, hbw2.cell 7, _, hbw2.cell 8, rfl⟩, ?_⟩
            refine ⟨⟨p0_0, hbw1.cell 0, _, hbw1.cell 1, p0_1_1, hbw1.cell 2, rfl⟩, ?_⟩
            refine ⟨?_, ?_⟩
            · skip
              refine put_step hbw248 rfl rfl (fun w261 ow261 hbw248q nw261 => ?_)
              have hbw1 := hbw1.only ow261 (by omega)
              have hbw2 := hbw2.only ow261 (by omega)
              have hbw12 := hbw12.only ow261 (by omega)
              have hbw21 := hbw21.only ow261 (by omega)
              have hbw26 := hbw26.only ow261 (by omega)
              have fw12 := fw12.only ow261 (fun k h1 h2 => by omega)
              have fw48 := fw48.only ow261 (fun k h1 h2 => by omega)
              have fw62 := fw62.only ow261 (fun k h1 h2 => by omega)
              have fw75 := fw75.only ow261 (fun k h1 h2 => by omega)
              have fw167 := fw167.only ow261 (fun k h1 h2 => by omega)
              have fw212 := fw212.only ow261 (fun k h1 h2 => by omega)
              have fw243_0 := fw243_0.only ow261 (fun k h1 h2 => by omega)
              have e := Ext.own e ow261 (fun k hk => by omega)
              have er := Ext.own er ow261 (fun k hk => by omega)
              have hbw248 := hbw248q
              have hbl := hbw248.lt
              exact ⟨_, _, _, _, rfl, rfl, by omega, by omega, by omega, by omega, hbl, hbw248, fw243_0, er⟩
            · skip
              trivial
          · skip
            trivial
        · skip
          refine ⟨?_, ?_⟩
          · skip
            refine alloc_step (fun w222 ew222 hbw222 nw222 => ?_)
            have hbw1 := hbw1.ext ew222
            have hbw2 := hbw2.ext ew222
            have hbw12 := hbw12.ext ew222
            have hbw21 := hbw21.ext ew222
            have hbw26 := hbw26.ext ew222
            have fw12 := fw12.ext ew222
            have fw48 := fw48.ext ew222
            have fw62 := fw62.ext ew222
            have fw75 := fw75.ext ew222
            have fw167 := fw167.ext ew222
            have fw212 := fw212.ext ew222
            have e := Only.trans e ew222
            have er := Only.trans er ew222
            have zw222 := ew222.size
            refine ⟨⟨_, hbw2.cell 0, _, hbw2.cell 1, _, hbw2.cell 2, _, hbw2.cell 3, _, hbw2.cell 4, _, hbw2.cell 5, _, hbw2.cell 6, _, hbw2.cell 7, _, hbw2.cell 8, rfl⟩, ?_⟩
            refine ⟨⟨p0_0, hbw1.cell 0, _, hbw1.cell 1, p0_1_1, hbw1.cell 2, rfl⟩, ?_⟩
            refine ⟨?_, ?_⟩
            · skip
              refine (implSetPage (root := root) (va := va) fw167.is sz0 fw212.is).mono ?_
              rintro _ w236 ⟨yw236_0, rfl, fw236_0, ew236⟩
              have hbw1 := hbw1.ext ew236
              have hbw2 := hbw2.ext ew236
              have hbw12 := hbw12.ext ew236
              have hbw21 := hbw21.ext ew236
              have hbw26 := hbw26.ext ew236
              have hbw222 := hbw222.ext ew236
              have fw12 := fw12.ext ew236
              have fw48 := fw48.ext ew236
              have fw62 := fw62.ext ew236
              have fw75 := fw75.ext ew236
              have fw167 := fw167.ext ew236
              have fw212 := fw212.ext ew236
              have e := Only.trans e ew236
              have er := Only.trans er ew236
              have zw236 := ew236.size
              have hiyw236_0 := fw236_0.is
              obtain ⟨ryw236_0_0, ryw236_0_1_1, rfl, _, _, _, _⟩ := cells_Pool hiyw236_0
              refine ⟨ryw236_0_0, _, ryw236_0_1_1, _, rfl, ?_⟩
              refine ⟨?_, ?_⟩
              · skip
                refine put_step hbw222 rfl rfl (fun w241 ow241 hbw222q nw241 => ?_)
                have hbw1 := hbw1.only ow241 (by omega)
                have hbw2 := hbw2.only ow241 (by omega)
                have hbw12 := hbw12.only ow241 (by omega)
                have hbw21 := hbw21.only ow241 (by omega)
                have hbw26 := hbw26.only ow241 (by omega)
                have fw12 := fw12.only ow241 (fun k h1 h2 => by omega)
                have fw48 := fw48.only ow241 (fun k h1 h2 => by omega)
                have fw62 := fw62.only ow241 (fun k h1 h2 => by omega)
                have fw75 := fw75.only ow241 (fun k h1 h2 => by omega)
                have fw167 := fw167.only ow241 (fun k h1 h2 => by omega)
                have fw212 := fw212.only ow241 (fun k h1 h2 => by omega)
                have fw236_0 := fw236_0.only ow241 (fun k h1 h2 => by omega)
                have e := Ext.own e ow241 (fun k hk => by omega)
                have er := Ext.own er ow241 (fun k hk => by omega)
                have hbw222 := hbw222q
                have hbl := hbw222.lt
                exact ⟨_, _, _, _, rfl, rfl, by omega, by omega, by omega, by omega, hbl, hbw222, fw236_0, er⟩
              · skip
                trivial
            · skip
              trivial
          · skip
            trivial
      · skip
        refine ⟨?_, ?_⟩
        · skip
          refine alloc_step (fun w180 ew180 hbw180 nw180 => ?_)
          have hbw1 := hbw1.ext ew180
          have hbw2 := hbw2.ext ew180
          have hbw12 := hbw12.ext ew180
          have hbw21 := hbw21.ext ew180
          have hbw26 := hbw26.ext ew180
          have fw12 := fw12.ext ew180
          have fw48 := fw48.ext ew180
          have fw62 := fw62.ext ew180
          have fw75 := fw75.ext ew180
          have fw167 := fw167.ext ew180
          have e := Only.trans e ew180
          have er := Only.trans er ew180
          have zw180 := ew180.size
          refine ⟨⟨_, hbw2.cell 0, _, hbw2.cell 1, _, hbw2.cell 2, _, hbw2.cell 3, _, hbw2.cell 4, _, hbw2.cell 5, _, hbw2.cell 6, _, hbw2.cell 7, _, hbw2.cell 8, rfl⟩, ?_⟩
          refine ⟨⟨p0_0, hbw1.cell 0, _, hbw1.cell 1, p0_1_1, hbw1.cell 2, rfl⟩, ?_⟩
          refine ⟨?_, ?_⟩
          · skip
            refine (c49 (DEntry.has _) (IsD.ext e _ _ h3) (by have := entry_sz en; omega)).mono ?_
            rintro _ w194 ⟨yw194, rfl, fw194, ew194⟩
            have hbw1 := hbw1.ext ew194
            have hbw2 := hbw2.ext ew194
            have hbw12 := hbw12.ext ew194
            have hbw21 := hbw21.ext ew194
            have hbw26 := hbw26.ext ew194
            have hbw180 := hbw180.ext ew194
            have fw12 := fw12.ext ew194
            have fw48 := fw48.ext ew194
            have fw62 := fw62.ext ew194
            have fw75 := fw75.ext ew194
            have fw167 := fw167.ext ew194
            have e := Only.trans e ew194
            have er := Only.trans er ew194
            have zw194 := ew194.size
            have hiyw194 := fw194.is
            obtain ⟨rfl, _⟩ := cells_Entry hiyw194
            refine ⟨_, _, _, _, _, _, _, _, _, rfl, ?_⟩
            refine ⟨?_, ?_⟩
            · skip
              refine (implSetPage (root := root) (va := va) fw167.is sz0 fw194.is).mono ?_
              rintro _ w205 ⟨yw205_0, rfl, fw205_0, ew205⟩
              have hbw1 := hbw1.ext ew205
              have hbw2 := hbw2.ext ew205
              have hbw12 := hbw12.ext ew205
              have hbw21 := hbw21.ext ew205
              have hbw26 := hbw26.ext ew205
              have hbw180 := hbw180.ext ew205
              have fw12 := fw12.ext ew205
              have fw48 := fw48.ext ew205
              have fw62 := fw62.ext ew205
              have fw75 := fw75.ext ew205
              have fw167 := fw167.ext ew205
              have fw194 := fw194.ext ew205
              have e := Only.trans e ew205
              have er := Only.trans er ew205
              have zw205 := ew205.size
              have hiyw205_0 := fw205_0.is
              obtain ⟨ryw205_0_0, ryw205_0_1_1, rfl, _, _, _, _⟩ := cells_Pool hiyw205_0
              refine ⟨ryw205_0_0, _, ryw205_0_1_1, _, rfl, ?_⟩
              refine ⟨?_, ?_⟩
              · skip
                refine put_step hbw180 rfl rfl (fun w210 ow210 hbw180q nw210 => ?_)
                have hbw1 := hbw1.only ow210 (by omega)
                have hbw2 := hbw2.only ow210 (by omega)
                have hbw12 := hbw12.only ow210 (by omega)
                have hbw21 := hbw21.only ow210 (by omega)
                have hbw26 := hbw26.only ow210 (by omega)
                have fw12 := fw12.only ow210 (fun k h1 h2 => by omega)
                have fw48 := fw48.only ow210 (fun k h1 h2 => by omega)
                have fw62 := fw62.only ow210 (fun k h1 h2 => by omega)
                have fw75 := fw75.only ow210 (fun k h1 h2 => by omega)
                have fw167 := fw167.only ow210 (fun k h1 h2 => by omega)
                have fw194 := fw194.only ow210 (fun k h1 h2 => by omega)
                have fw205_0 := fw205_0.only ow210 (fun k h1 h2 => by omega)
                have e := Ext.own e ow210 (fun k hk => by omega)
                have er := Ext.own er ow210 (fun k hk => by omega)
                have hbw180 := hbw180q
                have hbl := hbw180.lt
                exact ⟨_, _, _, _, rfl, rfl, by omega, by omega, by omega, by omega, hbl, hbw180, fw205_0, er⟩
              · skip
                trivial
            · skip
              trivial
          · skip
            trivial
        · skip
          trivial
    · skip
      refine ⟨?_, ?_⟩
      · skip
        refine alloc_step (fun w121 ew121 hbw121 nw121 => ?_)
        have hbw1 := hbw1.ext ew121
        have hbw2 := hbw2.ext ew121
        have hbw12 := hbw12.ext ew121
        have hbw21 := hbw21.ext ew121
        have hbw26 := hbw26.ext ew121
        have fw12 := fw12.ext ew121
        have fw48 := fw48.ext ew121
        have fw62 := fw62.ext ew121
        have fw75 := fw75.ext ew121
        have e := Only.trans e ew121
        have er := Only.trans er ew121
        have zw121 := ew121.size
        refine ⟨⟨_, hbw2.cell 0, _, hbw2.cell 1, _, hbw2.cell 2, _, hbw2.cell 3, _, hbw2.cell 4, _, hbw2.cell 5, _, hbw2.cell 6, _, hbw2.cell 7, _, hbw2.cell 8, rfl⟩, ?_⟩
        refine ⟨⟨p0_0, hbw1.cell 0, _, hbw1.cell 1, p0_1_1, hbw1.cell 2, rfl⟩, ?_⟩
        refine ⟨?_, ?_⟩
        · skip
          refine (c34 (DPool.has _) (IsD.ext e _ _ h0) (by have := sz0; omega)).mono ?_
          rintro _ w135 ⟨yw135, rfl, fw135, ew135⟩
          have hbw1 := hbw1.ext ew135
          have hbw2 := hbw2.ext ew135
          have hbw12 := hbw12.ext ew135
          have hbw21 := hbw21.ext ew135
          have hbw26 := hbw26.ext ew135
          have hbw121 := hbw121.ext ew135
          have fw12 := fw12.ext ew135
          have fw48 := fw48.ext ew135
          have fw62 := fw62.ext ew135
          have fw75 := fw75.ext ew135
          have e := Only.trans e ew135
          have er := Only.trans er ew135
          have zw135 := ew135.size
          have hiyw135 := fw135.is
          obtain ⟨ryw135_0, ryw135_1_1, rfl, _, _, _, _⟩ := cells_Pool hiyw135
          refine ⟨ryw135_0, _, ryw135_1_1, rfl, ?_⟩
          refine ⟨⟨_, hbw2.cell 0, _, hbw2.cell 1, _, hbw2.cell 2, _, hbw2.cell 3, _, hbw2.cell 4, _, hbw2.cell 5, _, hbw2.cell 6, _, hbw2.cell 7, _, hbw2.cell 8, rfl⟩, ?_⟩
          refine ⟨?_, ?_⟩
          · skip
            refine (c49 (DEntry.has _) (IsD.ext e _ _ h3) (by have := entry_sz en; omega)).mono ?_
            rintro _ w149 ⟨yw149, rfl, fw149, ew149⟩
            have hbw1 := hbw1.ext ew149
            have hbw2 := hbw2.ext ew149
            have hbw12 := hbw12.ext ew149
            have hbw21 := hbw21.ext ew149
            have hbw26 := hbw26.ext ew149
            have hbw121 := hbw121.ext ew149
            have fw12 := fw12.ext ew149
            have fw48 := fw48.ext ew149
            have fw62 := fw62.ext ew149
            have fw75 := fw75.ext ew149
            have fw135 := fw135.ext ew149
            have e := Only.trans e ew149
            have er := Only.trans er ew149
            have zw149 := ew149.size
            have hiyw149 := fw149.is
            obtain ⟨rfl, _⟩ := cells_Entry hiyw149
            refine ⟨_, _, _, _, _, _, _, _, _, rfl, ?_⟩
            refine ⟨?_, ?_⟩
            · skip
              refine (implSetPage (root := root) (va := va) fw135.is sz0 fw149.is).mono ?_
              rintro _ w160 ⟨yw160_0, rfl, fw160_0, ew160⟩
              have hbw1 := hbw1.ext ew160
              have hbw2 := hbw2.ext ew160
              have hbw12 := hbw12.ext ew160
              have hbw21 := hbw21.ext ew160
              have hbw26 := hbw26.ext ew160
              have hbw121 := hbw121.ext ew160
              have fw12 := fw12.ext ew160
              have fw48 := fw48.ext ew160
              have fw62 := fw62.ext ew160
              have fw75 := fw75.ext ew160
              have fw135 := fw135.ext ew160
              have fw149 := fw149.ext ew160
              have e := Only.trans e ew160
              have er := Only.trans er ew160
              have zw160 := ew160.size
              have hiyw160_0 := fw160_0.is
              obtain ⟨ryw160_0_0, ryw160_0_1_1, rfl, _, _, _, _⟩ := cells_Pool hiyw160_0
              refine ⟨ryw160_0_0, _, ryw160_0_1_1, _, rfl, ?_⟩
              refine ⟨?_, ?_⟩
              · skip
                refine put_step hbw121 rfl rfl (fun w165 ow165 hbw121q nw165 => ?_)
                have hbw1 := hbw1.only ow165 (by omega)
                have hbw2 := hbw2.only ow165 (by omega)
                have hbw12 := hbw12.only ow165 (by omega)
                have hbw21 := hbw21.only ow165 (by omega)
                have hbw26 := hbw26.only ow165 (by omega)
                have fw12 := fw12.only ow165 (fun k h1 h2 => by omega)
                have fw48 := fw48.only ow165 (fun k h1 h2 => by omega)
                have fw62 := fw62.only ow165 (fun k h1 h2 => by omega)
                have fw75 := fw75.only ow165 (fun k h1 h2 => by omega)
                have fw135 := fw135.only ow165 (fun k h1 h2 => by omega)
                have fw149 := fw149.only ow165 (fun k h1 h2 => by omega)
                have fw160_0 := fw160_0.only ow165 (fun k h1 h2 => by omega)
                have e := Ext.own e ow165 (fun k hk => by omega)
                have er := Ext.own er ow165 (fun k hk => by omega)
                have hbw121 := hbw121q
                have hbl := hbw121.lt
                exact ⟨_, _, _, _, rfl, rfl, by omega, by omega, by omega, by omega, hbl, hbw121, fw160_0, er⟩
              · skip
                trivial
            · skip
              trivial
          · skip
            trivial
        · skip
          trivial
      · skip
        trivial
  rintro (p84 : Option Addr) (n85 : Int) w87 ⟨bw87, low87, hiw87, yw87, rfl, rfl, hxw87, hlow87, hhiw87, hdsw87, hblw87, hbw87, fw87, erw87⟩
  have hbw1 := hbw1.ext erw87
  have hbw2 := hbw2.ext erw87
  have hbw12 := hbw12.ext erw87
  have hbw21 := hbw21.ext erw87
  have hbw26 := hbw26.ext erw87
  have fw12 := fw12.ext erw87
  have fw48 := fw48.ext erw87
  have fw62 := fw62.ext erw87
  have fw75 := fw75.ext erw87
  have e := Only.trans e erw87
  have zw87 := erw87.size
  have hiyw87 := fw87.is
  obtain ⟨ryw87_0, ryw87_1_1, rfl, _, _, _, _⟩ := cells_Pool hiyw87
  refine addrOf_mk ?_
  refine ⟨ryw87_0, hbw87.cell 0, ?_⟩
  refine ⟨_, hbw87.cell 1, ?_⟩
  refine ⟨ryw87_1_1, hbw87.cell 2, ?_⟩
  refine addrOf_mk ?_
  refine ⟨ryw12_0, hbw12.cell 0, ?_⟩
  refine ⟨_, hbw12.cell 1, ?_⟩
  refine ⟨ryw12_1_1, hbw12.cell 2, ?_⟩
  refine (c36 (DPool.has _) fw87.is fw12.is).mono ?_
  rintro _ w97 ⟨rfl, ew97⟩
  have hbw1 := hbw1.ext ew97
  have hbw2 := hbw2.ext ew97
  have hbw12 := hbw12.ext ew97
  have hbw21 := hbw21.ext ew97
  have hbw26 := hbw26.ext ew97
  have hbw87 := hbw87.ext ew97
  have fw12 := fw12.ext ew97
  have fw48 := fw48.ext ew97
  have fw62 := fw62.ext ew97
  have fw75 := fw75.ext ew97
  have fw87 := fw87.ext ew97
  have e := Only.trans e ew97
  have zw97 := ew97.size
  refine ⟨_, rfl, ?_⟩
  refine JoinW.each ?_
  refine BIf.f rfl ?_
  refine BIf.f (by first | (simp; done) | (simp; omega)) ?_
  refine addrOf_mk ?_
  refine ⟨ryw26_0, hbw26.cell 0, ?_⟩
  refine ⟨_, hbw26.cell 1, ?_⟩
  refine ⟨ryw26_1_1, hbw26.cell 2, ?_⟩
  refine (c40 hsw75 fw75.is mkw75 (by omega) (by have := cnw75; have := setP_cnt (root := root) (va := va) (e := en) h0 sz0; omega)).mono ?_
  rintro _ w107 ⟨rfl, ew107⟩
  have hbw1 := hbw1.ext ew107
  have hbw2 := hbw2.ext ew107
  have hbw12 := hbw12.ext ew107
  have hbw21 := hbw21.ext ew107
  have hbw26 := hbw26.ext ew107
  have hbw87 := hbw87.ext ew107
  have fw12 := fw12.ext ew107
  have fw48 := fw48.ext ew107
  have fw62 := fw62.ext ew107
  have fw75 := fw75.ext ew107
  have fw87 := fw87.ext ew107
  have e := Only.trans e ew107
  have zw107 := ew107.size
  refine ⟨_, rfl, ?_⟩
  refine BIf.f (decide_eq_false (by omega)) ?_
  refine BIf.f (by first | (simp; done) | (simp; omega)) ?_
  exact ⟨by trivial, e⟩
open Go.RowKit in
theorem law_calls9 {w : World} {c0 : Array Value} {x : DPool} (h0 : cDPool.is w c0.toList x) {root : Int} (wf1 : (Lit.int .i64 root).wf = true) {va : Int} (wf2 : (Lit.int .i64 va).wf = true) {c3 : Array Value} {en : DEntry} (h3 : cDEntry.is w c3.toList en) : Calls Try.prog 9 #[.agg c0, .int .i64 root, .int .i64 va, .agg c3] w (fun e w' => e = .returned (.bool true) ∧ Below w.heap.size w w') :=
  (walk9 (cDPool_dat h0) (root := root) wf1 (va := va) wf2 (cDEntry_dat h3)).mono (by rintro e w' ⟨v, rfl, rfl, he⟩; exact ⟨rfl, he.below⟩)
end Go.Proofs.Ytkgoanjemhbjgaa

/- The row of the law FnExactSetPage: what its walk shows is what the statement says. Conditions: none. -/
namespace Go.Proofs.Ytkgoanjemhbjgaa.fnExactSetPage
open Go.ChangeShapes Go.WideShapes Go.ChangeAt Go.RowKit
open Go.ChangeMaps (open_string shut_string)
set_option linter.unusedVariables false
theorem own : ownKnob Try.prog.godebug = none := by kernel_rfl
theorem laidOut : laidOutB Try.prog = true := by kernel_rfl
set_option maxRecDepth 100000 in
theorem lifted (os : Os) (started : os.Started) (H : Type) (enc : TypeId × Value → H) :
    ReturnsInHanded {} Try.checked os 9 .any (Rows.fnExactSetPageSpec.pre6 enc Try.prog Try.f9 Rows.fnExactSetPageRow.domain false) (Rows.fnExactSetPageSpec.post enc Try.prog Try.f9 false true false false) := by
  refine returnsInHanded_of_change_sized (C := Try.checked) own started (by kernel_rfl) Try.func9
    (ChangeSpec.witness6 (enc := enc) (C := Try.checked) false ⟨#[], #[.agg #[.slice none 0 0, .int .i64 0, .slice none 0 0], .int .i64 0, .int .i64 0, .agg #[.bool false, .bool false, .bool false, .bool false, .bool false, .bool false, .bool false, .bool false, .int .i64 0]], []⟩ 8 (by kernel_rfl) (by kernel_rfl) (by kernel_rfl) (by kernel_rfl)) ?_
  intro W base args ds gs before hval0 hW hcnd hsz0 _
  have hsz : (DataW.weightsEach Try.prog (Try.f9.params.toList ++ Rows.fnExactSetPageSpec.plain.varTypes Try.prog) (ds ++ gs)).all (· ≤ reachBytes) = true := hsz0
  have hval : ∀ (j : Nat) t v, Try.f9.params[j]? = some t → args[j]? = some v → Value.okWide Try.prog W .any base t v := hval0
  have hW' := hW
  obtain ⟨p, q, hA0, hV, rfl, hfz, hnd⟩ := hW
  have hA : DataW.TrodAll enc Try.prog W 0 (fun _ => true) true Try.f9.params.toList args.toList ds p := hA0
  rw [Try.params9] at hA hval hsz
  obtain ⟨v0, vs0, d0, ds0, p0, q0, hargs, rfl, rfl, h0, r0⟩ := trodAll_cons hA
  obtain ⟨v1, vs1, d1, ds1, p1, q1, rfl, rfl, rfl, h1, r1⟩ := trodAll_cons r0
  obtain ⟨v2, vs2, d2, ds2, p2, q2, rfl, rfl, rfl, h2, r2⟩ := trodAll_cons r1
  obtain ⟨v3, vs3, d3, ds3, p3, q3, rfl, rfl, rfl, h3, r3⟩ := trodAll_cons r2
  obtain ⟨rfl, rfl, rfl⟩ := trodAll_nil r3
  obtain rfl : args = #[v0, v1, v2, v3] := by cases args; simp_all
  obtain ⟨rfl, rfl⟩ := trodVars_none hV
  have k0 := h0
  have lt0 : ∀ x ∈ p0, x.block < W.heap.size := by obtain ⟨m, hm⟩ := k0; exact DataW.trod_lt m _ _ _ hm
  obtain ⟨c0, rfl⟩ : ∃ cs, v0 = .agg cs := by have hv := (hval 0 58 v0 rfl rfl); unfold Value.okWide at hv; rw [Try.underlying58] at hv; exact ⟨hv.choose, hv.choose_spec.1⟩
  obtain ⟨x0, w0⟩ : ∃ x, (cDPool).is W c0.toList x := by obtain ⟨fuel, hf⟩ := h0; exact ((o58).at_ enc W fuel _ _ hf).2
  obtain ⟨a1, rfl, rfl, rfl, w1⟩ := open_int Try.underlying2 (hval 1 2 v1 rfl rfl) h1
  obtain ⟨a2, rfl, rfl, rfl, w2⟩ := open_int Try.underlying2 (hval 2 2 v2 rfl rfl) h2
  have k3 := h3
  have lt3 : ∀ x ∈ p3, x.block < W.heap.size := by obtain ⟨m, hm⟩ := k3; exact DataW.trod_lt m _ _ _ hm
  obtain ⟨c3, rfl⟩ : ∃ cs, v3 = .agg cs := by have hv := (hval 3 79 v3 rfl rfl); unfold Value.okWide at hv; rw [Try.underlying79] at hv; exact ⟨hv.choose, hv.choose_spec.1⟩
  obtain ⟨x3, w3⟩ : ∃ x, (cDEntry).is W c3.toList x := by obtain ⟨fuel, hf⟩ := h3; exact ((o79).at_ enc W fuel _ _ hf).2
  clear hA0 hval0 hsz0 hsz
  refine (law_calls9 w0 w1 w2 w3).mono fun e W' ⟨he, bel⟩ => ?_
  subst he
  exact ⟨_, rfl, _, _, _, [], _, [], hW', trodAll_mk1 (shut_bool Try.underlying4 _), (trodAll_cons_mk (Below.trod laidOut (by kernel_rfl) (of_decide_eq_true (by kernel_rfl)) k0 bel lt0) (trodAll_cons_mk (shut_int Try.underlying2 w1) (trodAll_cons_mk (shut_int Try.underlying2 w2) (trodAll_cons_mk (Below.trod laidOut (by kernel_rfl) (of_decide_eq_true (by kernel_rfl)) k3 bel lt3) trodAll_mk0)))), rfl, bel.frame _, fun h => by cases h⟩
theorem over : Rows.fnExactSetPageRow.holds Try.pinned (OpenSpec.ofChange Rows.fnExactSetPageSpec) :=
  OpenClaim.holds_of_wide 9 Try.f9 rfl rfl rfl rfl rfl rfl rfl ⟨rfl, rfl, rfl, rfl, rfl⟩ rfl rfl rfl rfl rfl (by kernel_rfl) Try.func9 (by kernel_rfl)
    (of_decide_eq_true (by kernel_rfl)) (by unfold Func.isWrapper; first | (rw [if_pos (by decide +kernel)]; kernel_rfl) | (rw [if_neg (by decide +kernel)]; exact ⟨rfl, rfl⟩))
    (fun os started H enc _ => lifted os started H enc)
theorem proved : Rows.FnExactSetPageSaid := over
#print axioms proved
end Go.Proofs.Ytkgoanjemhbjgaa.fnExactSetPage
namespace Go.Proofs.Ytkgoanjemhbjgaa
/-- The row, under a short name, for the claim. -/
theorem fnExactSetPage_holds : Rows.FnExactSetPageSaid := fnExactSetPage.proved
end Go.Proofs.Ytkgoanjemhbjgaa
