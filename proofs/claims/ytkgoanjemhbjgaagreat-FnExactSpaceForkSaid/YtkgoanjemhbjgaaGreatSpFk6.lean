/- Part 6 of 6: plain readings of code, rules for them, and a proof over them, joined by a program. Conditions: none. -/
import Derived.Test.YtkgoanjemhbjgaaGreatSpFk5
import Derived.Test.YtkgoanjemhbjgaaGreatRows
import Derived.WalkKit
import Derived.ProofKit
import Derived.OpenShut
import Derived.ShutString
import Derived.ChangeOld
import Derived.Below
import Derived.Carry
import Derived.SizedLaws
/- The pages of a space: by page number. Conditions: none. -/
set_option linter.unusedVariables false
set_option linter.unusedSimpArgs false
namespace Go.Proofs.YtkgoanjemhbjgaaGreat
open Go Go.Den
structure Leaf where
  va : Int
  lvl : Int
  x : Int
def Leaf.cells (l : Leaf) : List Value := [.int .i64 l.va, .int .i64 l.lvl, .int .u64 l.x]
/-- The entry of a page, found from a table down; none: there is no page. -/
def desc (m : List Int) : Nat → Int → Nat → Option Int
  | 0, t, j => if entAt m t ((j % 32 : Nat) : Int) = 0 then none else some (entAt m t ((j % 32 : Nat) : Int))
  | n + 1, t, j => if entAt m t ((j / 32 ^ (n + 1) % 32 : Nat) : Int) = 0 then none else desc m n (efr (entAt m t ((j / 32 ^ (n + 1) % 32 : Nat) : Int))) j
def seg (f : Nat → Option Int) (b : Nat) : Nat → List Leaf
  | 0 => []
  | k + 1 => seg f b k ++ (match f (b + k) with | none => [] | some x => [⟨((256 * (b + k) : Nat) : Int), 0, x⟩])
theorem seg_add (f : Nat → Option Int) (b k : Nat) : ∀ l, seg f b (k + l) = seg f b k ++ seg f (b + k) l
  | 0 => by simp [seg]
  | l + 1 => by
    rw [← Nat.add_assoc, seg, seg_add f b k l, seg, Nat.add_assoc b k l, List.append_assoc]
theorem seg_congr {f g : Nat → Option Int} {b : Nat} : ∀ k, (∀ j, b ≤ j → j < b + k → f j = g j) → seg f b k = seg g b k
  | 0, h => rfl
  | k + 1, h => by rw [seg, seg, seg_congr k (fun j h1 h2 => h j h1 (by omega)), h (b + k) (by omega) (by omega)]
theorem seg_none {f : Nat → Option Int} {b : Nat} : ∀ k, (∀ j, b ≤ j → j < b + k → f j = none) → seg f b k = []
  | 0, h => rfl
  | k + 1, h => by rw [seg, seg_none k (fun j h1 h2 => h j h1 (by omega)), h (b + k) (by omega) (by omega)]; rfl
theorem seg_some {f : Nat → Option Int} {b : Nat} {x : Int} (h : f b = some x) : seg f b 1 = [⟨((256 * b : Nat) : Int), 0, x⟩] := by
  simp [seg, h]
theorem seg_len (f : Nat → Option Int) (b : Nat) : ∀ k, (seg f b k).length ≤ k
  | 0 => Nat.le_refl _
  | k + 1 => by
    have := seg_len f b k
    rw [seg, List.length_append]
    split <;> simp <;> omega
/-- Indices of pages of one group. -/
theorem grp_idx {n b i j : Nat} (hb : b % 32 ^ (n + 1) = 0) (hi : i < 32) (h1 : b + i * 32 ^ n ≤ j) (h2 : j < b + i * 32 ^ n + 32 ^ n) : j / 32 ^ n % 32 = i := by
  have hp : 0 < 32 ^ n := Nat.pow_pos (by omega)
  obtain ⟨c, hc⟩ := Nat.dvd_of_mod_eq_zero hb
  have h3 : j / 32 ^ n = 32 * c + i := by
    rw [hc, Nat.pow_succ] at h1 h2
    have e1 : 32 ^ n * 32 * c + i * 32 ^ n = 32 ^ n * (32 * c + i) := by rw [Nat.mul_add, Nat.mul_assoc, Nat.mul_comm i]
    rw [e1] at h1 h2
    have e2 : 32 ^ n * (32 * c + i) + 32 ^ n = 32 ^ n * (32 * c + i + 1) := by rw [Nat.mul_succ]
    rw [e2] at h2
    refine Nat.le_antisymm ?_ ?_
    · exact Nat.le_of_lt_succ ((Nat.div_lt_iff_lt_mul hp).2 (by rw [Nat.mul_comm]; exact h2))
    · exact (Nat.le_div_iff_mul_le hp).2 (by rw [Nat.mul_comm]; exact h1)
  rw [h3]; omega
theorem desc_none {m : List Int} {t : Int} : ∀ {n j : Nat}, entAt m t ((j / 32 ^ n % 32 : Nat) : Int) = 0 → desc m n t j = none
  | 0, j, h => by unfold desc; rw [if_pos (by simpa using h)]
  | n + 1, j, h => by unfold desc; rw [if_pos h]
theorem desc_sub {m : List Int} {t : Int} {n j : Nat} (h : entAt m t ((j / 32 ^ (n + 1) % 32 : Nat) : Int) ≠ 0) : desc m (n + 1) t j = desc m n (efr (entAt m t ((j / 32 ^ (n + 1) % 32 : Nat) : Int))) j := by rw [desc, if_neg h]
theorem desc_leaf {m : List Int} {t : Int} {j : Nat} (h : entAt m t ((j % 32 : Nat) : Int) ≠ 0) : desc m 0 t j = some (entAt m t ((j % 32 : Nat) : Int)) := by rw [desc, if_neg h]
/-- The level at which the walk to a page ends. -/
def lvF (m : List Int) (root : Int) (k : Nat) : Nat :=
  if entAt m root ((k / 1024 % 32 : Nat) : Int) = 0 then 2
  else if entAt m (efr (entAt m root ((k / 1024 % 32 : Nat) : Int))) ((k / 32 % 32 : Nat) : Int) = 0 then 1 else 0
theorem lv_next {m : List Int} {root : Int} {k : Nat} (h : k % 32 ^ lvF m root k = 0) : (k + 32 ^ lvF m root k) % 32 ^ lvF m root (k + 32 ^ lvF m root k) = 0 := by
  obtain ⟨k', hk'⟩ : ∃ k', k' = k + 32 ^ lvF m root k := ⟨_, rfl⟩
  rw [← hk']
  have p1 : (32 : Nat) ^ 1 = 32 := rfl
  have p2 : (32 : Nat) ^ 2 = 1024 := rfl
  have p0 : (32 : Nat) ^ 0 = 1 := rfl
  by_cases a2 : entAt m root ((k / 1024 % 32 : Nat) : Int) = 0
  · have hl : lvF m root k = 2 := by unfold lvF; rw [if_pos a2]
    rw [hl, p2] at h hk'
    unfold lvF
    split
    · omega
    · split
      · omega
      · omega
  · by_cases a1 : entAt m (efr (entAt m root ((k / 1024 % 32 : Nat) : Int))) ((k / 32 % 32 : Nat) : Int) = 0
    · have hl : lvF m root k = 1 := by unfold lvF; rw [if_neg a2, if_pos a1]
      rw [hl, p1] at h hk'
      unfold lvF
      split
      · rename_i b2
        by_cases hm : k' % 1024 = 0
        · omega
        · exfalso; apply a2; rw [← b2]; congr 3; omega
      · split
        · omega
        · omega
    · have hl : lvF m root k = 0 := by unfold lvF; rw [if_neg a2, if_neg a1]
      rw [hl, p0] at hk'
      unfold lvF
      split
      · rename_i b2
        by_cases hm : k' % 1024 = 0
        · omega
        · exfalso; apply a2; rw [← b2]; congr 3; omega
      · rename_i b2
        split
        · rename_i b1
          by_cases hm : k' % 32 = 0
          · omega
          · exfalso; apply a1; rw [← b1]
            have e1 : k' / 1024 = k / 1024 := by omega
            have e2 : k' / 32 = k / 32 := by omega
            rw [e1, e2]
        · omega
/-- No pages in the group of an entry that is not there. -/
theorem lv_none {m : List Int} {root : Int} {k : Nat} (h : k % 32 ^ lvF m root k = 0) (hz : 0 < lvF m root k ∨ desc m 2 root k = none) : seg (desc m 2 root) k (32 ^ lvF m root k) = [] := by
  have p1 : (32 : Nat) ^ 1 = 32 := rfl
  have p2 : (32 : Nat) ^ 2 = 1024 := rfl
  have p0 : (32 : Nat) ^ 0 = 1 := rfl
  by_cases a2 : entAt m root ((k / 1024 % 32 : Nat) : Int) = 0
  · have hl : lvF m root k = 2 := by unfold lvF; rw [if_pos a2]
    rw [hl, p2] at h ⊢
    refine seg_none _ (fun j h1 h2 => desc_none ?_)
    rw [p2, ← a2]; congr 3; omega
  · by_cases a1 : entAt m (efr (entAt m root ((k / 1024 % 32 : Nat) : Int))) ((k / 32 % 32 : Nat) : Int) = 0
    · have hl : lvF m root k = 1 := by unfold lvF; rw [if_neg a2, if_pos a1]
      rw [hl, p1] at h ⊢
      refine seg_none _ (fun j h1 h2 => ?_)
      have e1 : j / 1024 = k / 1024 := by omega
      have e2 : j / 32 = k / 32 := by omega
      rw [desc_sub (by show entAt m root ((j / 1024 % 32 : Nat) : Int) ≠ 0; rw [e1]; exact a2)]
      refine desc_none ?_
      show entAt m (efr (entAt m root ((j / 1024 % 32 : Nat) : Int))) ((j / 32 % 32 : Nat) : Int) = 0
      rw [e1, e2]; exact a1
    · have hl : lvF m root k = 0 := by unfold lvF; rw [if_neg a2, if_neg a1]
      rw [hl, p0]
      refine seg_none _ (fun j h1 h2 => ?_)
      obtain rfl : j = k := by omega
      rcases hz with hz | hz
      · omega
      · exact hz
end Go.Proofs.YtkgoanjemhbjgaaGreat

/- The pages of a space, the reference's way: by levels. Conditions: none. -/
set_option linter.unusedVariables false
set_option linter.unusedSimpArgs false
namespace Go.Proofs.YtkgoanjemhbjgaaGreat
open Go Go.Den
abbrev rowL (s : Sl) (l : List Leaf) : Asr := aRow s 3 (recs Leaf.cells l)
theorem pgs_pow {n : Nat} (h : n ≤ 2) : pgs (n : Int) = ((32 ^ n : Nat) : Int) := by
  have : n = 0 ∨ n = 1 ∨ n = 2 := by omega
  rcases this with rfl | rfl | rfl <;> rfl
theorem pow_le_1024 {n : Nat} (h : n ≤ 2) : 1 ≤ 32 ^ n ∧ 32 ^ n ≤ 1024 := by
  have : n = 0 ∨ n = 1 ∨ n = 2 := by omega
  rcases this with rfl | rfl | rfl <;> decide
theorem plain_leaf (l : Leaf) : ∀ v, v ∈ l.cells → plainB v = true := fun v hv => by
  simp [Leaf.cells] at hv
  rcases hv with rfl | rfl | rfl <;> rfl
theorem plain_leafs (l : List Leaf) : ∀ e, e ∈ recs Leaf.cells l → ∀ x, Ce.v x ∈ e → plainB x = true := fun e he x hx => by
  obtain ⟨y, _, rfl⟩ := List.mem_map.1 he
  obtain ⟨v, hv, hh⟩ := List.mem_map.1 hx
  injection hh with hh
  subst hh
  exact plain_leaf y v hv
theorem kind0 {lvl : Int} : kindS 0 lvl = -4 := by unfold kindS; rw [if_pos (by rfl)]
set_option maxHeartbeats 1000000 in
theorem s79 {n : Nat} (hn : n ≤ 2) {sm : Sl} {m : List Int} {free : List Bool}
    (hrec : ∀ k, n = k + 1 → ∀ {w : World} {t : Int} {S : List Int} {b : Nat}, Bytes w sm m → Tab m free k t S → b % 32 ^ (k + 1) = 0 → b + 32 ^ (k + 1) ≤ 32768 → CallW Tryz.prog 79 #[.slice sm.a sm.len sm.cap, .int .i64 t, .int .i64 (k : Int), .int .i64 ((256 * b : Nat) : Int)] w (fun v w' => ∃ l : Sl, v = .slice l.a l.len l.cap ∧ SH w w' [rowL l (seg (desc m k t) b (32 ^ (k + 1)))]))
    {w : World} {t : Int} {S : List Int} {b : Nat} (hm : Bytes w sm m) (hT : Tab m free n t S) (hml : m.length = 256 * free.length) (hs : m.length ≤ 262144) (hb : b % 32 ^ (n + 1) = 0) (hb2 : b + 32 ^ (n + 1) ≤ 32768) :
    CallW Tryz.prog 79 #[.slice sm.a sm.len sm.cap, .int .i64 t, .int .i64 (n : Int), .int .i64 ((256 * b : Nat) : Int)] w (fun v w' => ∃ l : Sl, v = .slice l.a l.len l.cap ∧ SH w w' [rowL l (seg (desc m n t) b (32 ^ (n + 1)))]) := by
  refine go79 ?_
  unfold W79
  refine (SH.start w).alloc (fun w1 h1 e1 n1 => ?_)
  have h1 := h1.drop
  have hl := hm.len
  have hcap := hm.cap
  have hr := hm.rng
  have hrg := hT.rng
  have hpw := pow_le_1024 hn
  have hps : 32 ^ (n + 1) = 32 ^ n * 32 := Nat.pow_succ ..
  refine JoinW.cut1 (fun (c : Bool) w' => c = false ∧ w' = w1) ?_ ?_
  · refine BIf.f (decide_eq_false (by omega)) ⟨by omega, ?_, rfl⟩
    rw [Int.tdiv_eq_ediv_of_nonneg (by omega), w64 (by omega) (by omega)]
    exact decide_eq_false (by omega)
  rintro (c : Bool) w' ⟨rfl, rfl⟩
  refine BIf.f rfl ?_
  refine LoopW.m2 (fun (l : Sl) (i : Int) w' => ∃ k : Nat, i = k ∧ k ≤ 32 ∧ SH w w' [rowL l (seg (desc m n t) b (k * 32 ^ n))]) (fun (l : Sl) (i : Int) _ => (32 - i).toNat) ⟨0, rfl, by omega, by rw [Nat.zero_mul]; exact h1.nil _ 3⟩ ?_
  rintro (l5 : Sl) (i : Int) w8 ⟨k, rfl, hk, h8⟩ J hJ
  have hm8 := hm.ext h8.ext
  refine BIf.dec (fun hlt => ?_) (fun hge => ?_)
  rotate_left
  · have hk32 : k = 32 := by omega
    refine ⟨l5, rfl, ?_⟩
    have h32 : k * 32 ^ n = 32 ^ n * 32 := by rw [hk32, Nat.mul_comm]
    rw [hps, ← h32]; exact h8
  have hk31 : k < 32 := by omega
  have hroom := tab_room hT hml
  rw [w64 (n := t * 256) (by omega) (by omega), w64 (n := 8 * (k : Int)) (by omega) (by omega), w64 (n := t * 256 + 8 * (k : Int)) (by omega) (by omega), w64 (n := t * 256 + 8 * (k : Int) + 8) (by omega) (by omega)]
  refine ⟨by omega, by omega, by omega, by omega, ?_⟩
  obtain ⟨a, ha⟩ := Int.eq_ofNat_of_zero_le (show 0 ≤ t * 256 + 8 * (k : Int) by omega)
  rw [ha, Int.toNat_natCast, show ((a : Int) + 8).toNat - a = 8 by omega]
  refine (c114 (hm8.cut (a := a) (by omega)) (by omega) (by simp; omega)).mono ?_
  rintro _ w10 ⟨rfl, rfl⟩
  refine ⟨_, _, rfl, ?_⟩
  rw [word_cut, ← ha]
  have hxe : word m (t * 256 + 8 * (k : Int)) = entAt m t (k : Int) := rfl
  rw [hxe]
  have hxr : 0 ≤ entAt m t (k : Int) ∧ entAt m t (k : Int) < 18446744073709551616 := word_rng hr _
  refine (c110 (by omega) (by omega)).mono ?_
  rintro _ w14 ⟨rfl, rfl⟩
  refine ⟨_, rfl, ?_⟩
  rw [pgs_pow hn]
  refine (c113 hxr.1 hxr.2 (by omega) (by omega)).mono ?_
  rintro _ w17 ⟨rfl, e17⟩
  have h17 := h8.to e17
  refine ⟨_, rfl, ?_⟩
  have hkp : k * 32 ^ n + 32 ^ n ≤ 32 ^ (n + 1) := by
    rw [hps, ← Nat.succ_mul, Nat.mul_comm (32 ^ n)]
    exact Nat.mul_le_mul_right _ (by omega)
  have hadd : seg (desc m n t) b ((k + 1) * 32 ^ n) = seg (desc m n t) b (k * 32 ^ n) ++ seg (desc m n t) (b + k * 32 ^ n) (32 ^ n) := by rw [Nat.succ_mul, seg_add]
  have hidx : ∀ j, b + k * 32 ^ n ≤ j → j < b + k * 32 ^ n + 32 ^ n → j / 32 ^ n % 32 = k := fun j g1 g2 => grp_idx hb hk31 g1 g2
  have hva : IntKind.i64.wrap (((256 * b : Nat) : Int) + IntKind.i64.wrap (IntKind.i64.wrap ((k : Int) * 256) * ((32 ^ n : Nat) : Int))) = ((256 * (b + k * 32 ^ n) : Nat) : Int) := by
    have g1 : IntKind.i64.wrap ((k : Int) * 256) = ((k * 256 : Nat) : Int) := by rw [w64 (by omega) (by omega)]; omega
    have g2 : k * 256 * 32 ^ n = 256 * (k * 32 ^ n) := by rw [Nat.mul_comm k 256, Nat.mul_assoc]
    rw [g1, ← Int.natCast_mul, g2, w64 (n := ((256 * (k * 32 ^ n) : Nat) : Int)) (by omega) (by omega), w64 (by omega) (by omega)]
    omega
  have hsl := seg_len (desc m n t) b (k * 32 ^ n)
  by_cases hx0 : entAt m t (k : Int) = 0
  · rw [hx0, kind0]
    refine BIf.f rfl (BIf.f rfl ?_)
    rw [w64 (by omega) (by omega)]
    refine hJ _ _ _ ⟨k + 1, by omega, by omega, ?_⟩ (by omega)
    rw [hadd, seg_none (f := desc m n t) (b := b + k * 32 ^ n) (32 ^ n) (fun j g1 g2 => desc_none (by rw [hidx j g1 g2]; exact hx0)), List.append_nil]
    exact h17
  cases n with
  | zero =>
    have hkd := hT.leaf (i := (k : Int)) (by omega) (by omega) hx0
    refine BIf.f (by show (kindS _ 0 == 0) = false; rw [hkd]; rfl) (BIf.t (by show (kindS _ 0 == 1) = true; rw [hkd]; rfl) ?_)
    rw [hva]
    refine LetW_iff.2 (SH.appendR1 (x := (⟨((256 * (b + k * 32 ^ 0) : Nat) : Int), 0, entAt m t (k : Int)⟩ : Leaf)) h17 rfl rfl rfl (by decide) (by show (_ + 1) * 24 ≤ _; omega) (plain_leaf _) (fun s' w41 h41 g1 g2 => ?_))
    rw [w64 (by omega) (by omega)]
    refine hJ _ _ _ ⟨k + 1, by omega, by omega, ?_⟩ (by omega)
    have hd : desc m 0 t (b + k * 32 ^ 0) = some (entAt m t (k : Int)) := by
      have := hidx (b + k * 32 ^ 0) (by omega) (by omega)
      rw [Nat.pow_zero, Nat.div_one] at this
      rw [Nat.pow_zero, desc_leaf (by rw [this]; exact hx0), this]
    rw [hadd, show (32 : Nat) ^ 0 = 1 from rfl] at *
    rw [seg_some hd]
    exact h41
  | succ j =>
    obtain ⟨hkd, S1, hT1, _⟩ := hT.sub (i := (k : Int)) (by omega) (by omega) hx0
    refine BIf.t (by rw [hkd]; rfl) ?_
    have hsm := hT.ent (i := (k : Int)) (by omega) (by omega) hx0
    refine (c28 hxr.1 hsm).mono ?_
    rintro _ w20 ⟨rfl, e20⟩
    have h20 := h17.to e20
    refine ⟨_, _, _, _, _, _, _, _, _, _, rfl, h20.alloc (fun w31 h31 e31 n31 => h31.put 0 rfl rfl rfl (fun w32 h32 n32 => ?_))⟩
    refine ⟨_, h32.cell 0 (i := 8) rfl rfl, ?_⟩
    rw [hva]
    have hl1 : IntKind.i64.wrap (((j + 1 : Nat) : Int) - 1) = (j : Int) := by rw [w64 (by omega) (by omega)]; omega
    rw [hl1]
    have hbm : (b + k * 32 ^ (j + 1)) % 32 ^ (j + 1) = 0 := by
      rw [Nat.add_mul_mod_self_right]
      exact Nat.mod_eq_zero_of_dvd (Nat.dvd_trans ⟨32, hps⟩ (Nat.dvd_of_mod_eq_zero hb))
    refine (hrec j rfl (hm.ext h32.ext) hT1 hbm (by omega)).mono ?_
    rintro _ w35 ⟨l36, rfl, g35⟩
    have h35 := h32.seq g35
    refine ⟨l36, rfl, ?_⟩
    have hsl2 := seg_len (desc m j (efr (entAt m t (k : Int)))) (b + k * 32 ^ (j + 1)) (32 ^ (j + 1))
    refine SH.appendRow ((h35.front (n := 2) rfl)) rfl rfl (by decide) (by rw [recs_len, recs_len]; show (_ + _) * 24 ≤ _; omega) (plain_leafs _) (fun s' w38 h38 g1 g2 => ?_)
    rw [w64 (by omega) (by omega)]
    refine hJ _ _ _ ⟨k + 1, by omega, by omega, ?_⟩ (by omega)
    have hc : seg (desc m (j + 1) t) (b + k * 32 ^ (j + 1)) (32 ^ (j + 1)) = seg (desc m j (efr (entAt m t (k : Int)))) (b + k * 32 ^ (j + 1)) (32 ^ (j + 1)) :=
      seg_congr _ (fun i g1 g2 => by
        have := hidx i g1 g2
        rw [desc_sub (by rw [this]; exact hx0), this])
    rw [hadd, hc]
    have h39 := h38.one
    rw [← recs_app] at h39
    exact h39
theorem spec_below {sm : Sl} {m : List Int} {free : List Bool} {w : World} {t : Int} {S : List Int} (hm : Bytes w sm m) (hT : Tab m free 2 t S) (hml : m.length = 256 * free.length) (hs : m.length ≤ 262144) :
    CallW Tryz.prog 79 #[.slice sm.a sm.len sm.cap, .int .i64 t, .int .i64 2, .int .i64 0] w (fun v w' => ∃ l : Sl, v = .slice l.a l.len l.cap ∧ SH w w' [rowL l (seg (desc m 2 t) 0 32768)]) := by
  refine s79 (n := 2) (b := 0) (by omega) ?_ hm hT hml hs (by omega) (by decide)
  intro k hk w t S b hm hT hb hb2
  obtain rfl : k = 1 := by omega
  refine s79 (n := 1) (by omega) ?_ hm hT hml hs hb hb2
  intro k hk w t S b hm hT hb hb2
  obtain rfl : k = 0 := by omega
  exact s79 (n := 0) (by omega) (fun k hk => by omega) hm hT hml hs hb hb2
theorem s27 {sm : Sl} {m : List Int} {free : List Bool} {w : World} {t : Int} {S : List Int} (hm : Bytes w sm m) (hok : mOk m = true) (hT : Tab m free 2 t S) (hml : m.length = 256 * free.length) (hs : m.length ≤ 262144) :
    CallW Tryz.prog 27 #[.slice sm.a sm.len sm.cap, .int .i64 t] w (fun v w' => ∃ l : Sl, v = .slice l.a l.len l.cap ∧ SH w w' [rowL l (seg (desc m 2 t) 0 32768)]) := by
  refine go27 ?_
  unfold W27
  refine (c78 hm.len).mono ?_
  rintro _ w ⟨rfl, rfl⟩
  refine ⟨_, rfl, BIf.not (BIf.t hok ?_)⟩
  refine (spec_below hm hT hml hs).mono ?_
  rintro _ w6 ⟨l, rfl, h6⟩
  exact ⟨l, rfl, l, rfl, h6⟩
end Go.Proofs.YtkgoanjemhbjgaaGreat

/- The pages of a space, the program's way: address by address. Conditions: none. -/
set_option linter.unusedVariables false
set_option linter.unusedSimpArgs false
namespace Go.Proofs.YtkgoanjemhbjgaaGreat
open Go Go.Den
def tz5 : List Value := [.int .i64 0, .int .i64 0, .int .i64 0, .int .i64 0, .int .u64 0]
theorem s117 {w0 w : World} {As : List Asr} {i j b1 b2 : Nat} {c n2 n3 : Int} (h : SH w0 w As) (hi : As[i]? = some (aB b1 [.v (.int .i64 n2)])) (hj : As[j]? = some (aB b2 [.v (.int .i64 n3)])) : CallW Tryz.prog 117 #[.int .i64 c, .pointer (some ⟨b1, 0, none⟩), .pointer (some ⟨b2, 0, none⟩)] w (fun v w' => v = .agg #[.int .i64 c, .int .i64 n2, .int .i64 n3, .int .i64 0, .int .u64 0] ∧ SH w0 w' As) := by
  refine go117 ?_
  unfold W117
  refine h.alloc (fun w1 h1 e1 n1 => ?_)
  refine ⟨n2, h1.cell (i + 1) (by simpa using hi) rfl, n3, h1.cell (j + 1) (by simpa using hj) rfl, h1.put 0 rfl rfl rfl (fun w4 h4 n4 => ?_)⟩
  exact ⟨_, h4.cell 0 rfl rfl, _, h4.cell 0 rfl rfl, _, h4.cell 0 rfl rfl, _, h4.cell 0 rfl rfl, _, h4.cell 0 rfl rfl, rfl, h4.drop⟩
/-- What a leaf's and a pointer's bits are. -/
theorem kind_leaf {x lvl : Int} (h : kindS x lvl = 1) : ebit x 0 = true ∧ x < 1048576 ∧ (ebit x 2 = true → ebit x 1 = true) ∧ (ebit x 1 || ebit x 2 || ebit x 3) = true := by
  unfold kindS at h
  split at h
  · omega
  · rename_i h0
    split at h
    · omega
    · split at h
      · omega
      · rename_i h2
        split at h
        · split at h <;> omega
        · rename_i h3
          refine ⟨by simpa using h0, by omega, ?_⟩
          clear h h0
          revert h2 h3
          generalize ebit x 1 = a
          generalize ebit x 2 = b
          generalize ebit x 3 = c
          intro h2 h3
          cases a <;> cases b <;> cases c <;> simp_all
theorem kind_ptr {x lvl : Int} (h : kindS x lvl = 0) : ebit x 0 = true ∧ x < 1048576 ∧ ebit x 1 = false ∧ ebit x 2 = false ∧ ebit x 3 = false ∧ ebit x 4 = false ∧ ebit x 5 = false ∧ ebit x 6 = false := by
  unfold kindS at h
  split at h
  · omega
  · rename_i h0
    split at h
    · omega
    · split at h
      · omega
      · split at h
        · rename_i h3
          split at h
          · omega
          · rename_i h4
            have g0 : ebit x 0 = true := by simpa using h0
            refine ⟨g0, by omega, ?_⟩
            clear h h0 g0
            revert h3 h4
            generalize ebit x 1 = a
            generalize ebit x 2 = b
            generalize ebit x 3 = c
            generalize ebit x 4 = d
            generalize ebit x 5 = e
            generalize ebit x 6 = f
            intro h3 h4
            cases a <;> cases b <;> cases c <;> cases d <;> cases e <;> cases f <;> simp_all
        · split at h <;> omega
theorem shr_20 {x : Int} (h0 : 0 ≤ x) (h1 : x < 1048576) : (shrI .u64 x 20 != 0) = false := by
  have : shrI .u64 x ((20 : Nat) : Int) = x / ((2 ^ 20 : Nat) : Int) := shrI_u64 (by omega)
  have h2 : shrI .u64 x 20 = 0 := by
    show shrI .u64 x ((20 : Nat) : Int) = 0
    rw [this]; omega
  rw [h2]; rfl
def E2 (m : List Int) (root : Int) (k : Nat) : Int := entAt m root ((k / 1024 % 32 : Nat) : Int)
def E1 (m : List Int) (root : Int) (k : Nat) : Int := entAt m (efr (E2 m root k)) ((k / 32 % 32 : Nat) : Int)
def Lk (m : List Int) (root : Int) (k n : Nat) (t : Int) : Prop := (n = 2 ∧ t = root) ∨ (n = 1 ∧ E2 m root k ≠ 0 ∧ t = efr (E2 m root k)) ∨ (n = 0 ∧ E2 m root k ≠ 0 ∧ E1 m root k ≠ 0 ∧ t = efr (E1 m root k))
theorem lk_lv {m : List Int} {root t : Int} {k n : Nat} (h : Lk m root k n t) (hz : entAt m t ((k / 32 ^ n % 32 : Nat) : Int) = 0 ∨ n = 0) : lvF m root k = n := by
  rcases h with ⟨rfl, rfl⟩ | ⟨rfl, h2, rfl⟩ | ⟨rfl, h2, h1, rfl⟩
  · rcases hz with hz | hz
    · unfold lvF; rw [if_pos hz]
    · omega
  · rcases hz with hz | hz
    · have h2' : entAt m root ((k / 1024 % 32 : Nat) : Int) ≠ 0 := h2
      unfold lvF
      rw [if_neg h2']
      exact if_pos hz
    · omega
  · have h2' : entAt m root ((k / 1024 % 32 : Nat) : Int) ≠ 0 := h2
    unfold lvF
    rw [if_neg h2']
    exact if_neg h1
theorem lk_next {m : List Int} {root t : Int} {k n : Nat} (h : Lk m root k (n + 1) t) (hx : entAt m t ((k / 32 ^ (n + 1) % 32 : Nat) : Int) ≠ 0) : Lk m root k n (efr (entAt m t ((k / 32 ^ (n + 1) % 32 : Nat) : Int))) := by
  rcases h with ⟨hn, rfl⟩ | ⟨hn, h2, rfl⟩ | ⟨hn, _⟩
  · obtain rfl : n = 1 := by omega
    exact .inr (.inl ⟨rfl, hx, rfl⟩)
  · obtain rfl : n = 0 := by omega
    exact .inr (.inr ⟨rfl, h2, hx, rfl⟩)
  · omega
def TrP (m : List Int) (root : Int) (k : Nat) (w : World) (v : Value) (w' : World) : Prop := ∃ code lvl at_ pa wd : Int, v = .agg #[.int .i64 code, .int .i64 lvl, .int .i64 at_, .int .i64 pa, .int .u64 wd] ∧ Ext w w' ∧ lvl = (lvF m root k : Int) ∧
  ((code = 4 ∧ (0 < lvF m root k ∨ desc m 2 root k = none)) ∨ ((code = 0 ∨ code = 7 ∨ code = 8) ∧ lvF m root k = 0 ∧ 0 ≤ at_ ∧ at_ + 8 ≤ m.length ∧ desc m 2 root k = some (word m at_)))
set_option maxRecDepth 8000 in
set_option maxHeartbeats 2000000 in
theorem s88 {w : World} {sm : Sl} {m : List Int} {free : List Bool} {root : Int} {S0 : List Int} {k : Nat} (hm : Bytes w sm m) (hT : Tab m free 2 root S0) (hml : m.length = 256 * free.length) (hs : m.length ≤ 262144) (hk : k < 32768) :
    CallW Tryz.prog 88 #[.slice sm.a sm.len sm.cap, .int .i64 root, .int .u64 ((256 * k : Nat) : Int), .int .i64 0, .bool true] w (TrP m root k w) := by
  refine go88 ?_
  unfold W88
  have hr := hm.rng
  have hl := hm.len
  refine (SH.start w).alloc (fun w1 h1 e1 n1 => h1.alloc (fun w2 h2 e2 n2 => ?_))
  refine h2.setV 0 (vs := [.int .i64 0]) rfl rfl (fun w3 h3 n3 => ?_)
  refine LoopW.m2 (fun (t : Int) (p : Option Addr) w' => ∃ (n bl : Nat) (S : List Int), p = some ⟨bl, 0, none⟩ ∧ n ≤ 2 ∧ Tab m free n t S ∧ Lk m root k n t ∧ desc m 2 root k = desc m n t k ∧ SH w w' [aB bl ([Value.int .i64 (n : Int)].map Ce.v), aB w.heap.size (tz5.map Ce.v)]) (fun (t : Int) (p : Option Addr) w' => match p with | some q => (match w'.cell? q with | some (.int _ n) => n.toNat | _ => 0) | none => 0) ⟨2, w1.heap.size, S0, rfl, by omega, hT, .inl ⟨rfl, rfl⟩, rfl, h3⟩ ?_
  rintro (t : Int) (p : Option Addr) w7 ⟨n, bl, S, rfl, hn, hTt, hLk, hd, h7⟩ J hJ
  have hroom := tab_room hTt hml
  have hrg := hTt.rng
  refine JoinW.cut1 (fun (c : Bool) w' => c = false ∧ w' = w7) ?_ ?_
  · refine BIf.f (decide_eq_false (by omega)) ⟨by omega, ?_, rfl⟩
    rw [Int.tdiv_eq_ediv_of_nonneg (by omega), w64 (by omega) (by omega)]
    exact decide_eq_false (by omega)
  rintro (c : Bool) wq ⟨rfl, rfl⟩
  refine BIf.f rfl (addrOf_mk ?_)
  refine ⟨(n : Int), h7.cell 0 rfl rfl, ?_⟩
  have hsh : IntKind.i64.wrap (8 + IntKind.i64.wrap (5 * (n : Int))) = ((8 + 5 * n : Nat) : Int) := by rw [w64 (n := 5 * (n : Int)) (by omega) (by omega), w64 (by omega) (by omega)]; omega
  have hidx : IntKind.i64.wrap (andI .u64 (shrI .u64 ((256 * k : Nat) : Int) (IntKind.i64.wrap (8 + IntKind.i64.wrap (5 * (n : Int))))) 31) = ((k / 32 ^ n % 32 : Nat) : Int) := by
    rw [hsh, shrI_u64 (by omega)]
    have h31 : (31 : Int) = ((2 ^ 5 - 1 : Nat) : Int) := rfl
    have hp5 : ((2 ^ 5 : Nat) : Int) = 32 := rfl
    have hq : ((256 * k : Nat) : Int) / ((2 ^ (8 + 5 * n) : Nat) : Int) = ((k / 32 ^ n : Nat) : Int) := by
      have : n = 0 ∨ n = 1 ∨ n = 2 := by omega
      rcases this with rfl | rfl | rfl
      · show ((256 * k : Nat) : Int) / 256 = ((k / 1 : Nat) : Int); omega
      · show ((256 * k : Nat) : Int) / 8192 = ((k / 32 : Nat) : Int); omega
      · show ((256 * k : Nat) : Int) / 262144 = ((k / 1024 : Nat) : Int); omega
    have hle : k / 32 ^ n ≤ k := Nat.div_le_self _ _
    obtain ⟨q, hqe⟩ : ∃ q, q = k / 32 ^ n := ⟨_, rfl⟩
    rw [← hqe] at hle hq ⊢
    rw [hq, h31, andI_mask 5 (by omega) (by omega) (by omega), hp5, w64 (by omega) (by omega)]
    omega
  have hix : k / 32 ^ n % 32 < 32 := Nat.mod_lt _ (by omega)
  obtain ⟨i, hi⟩ : ∃ i, i = k / 32 ^ n % 32 := ⟨_, rfl⟩
  rw [← hi] at hidx hix
  refine ⟨by rw [hsh]; omega, h7.alloc (fun w21 h21 e21 n21 => ?_)⟩
  rw [hidx, w64 (n := t * 256) (by omega) (by omega), w64 (n := (i : Int) * 8) (by omega) (by omega), w64 (n := t * 256 + (i : Int) * 8) (by omega) (by omega)]
  refine h21.setV 0 (vs := [.int .i64 0]) rfl rfl (fun w22 h22 n22 => ?_)
  refine ⟨_, h22.cell 0 rfl rfl, (c89 (hm.ext h22.ext) (by omega) (by omega)).mono ?_⟩
  rintro _ w25 ⟨rfl, rfl⟩
  refine ⟨_, _, rfl, ?_⟩
  obtain ⟨x, hx⟩ : ∃ x, x = word m (t * 256 + (i : Int) * 8) := ⟨_, rfl⟩
  have hxe : x = entAt m t (i : Int) := by rw [hx]; unfold entAt; rw [Int.mul_comm (i : Int)]
  have hxr : 0 ≤ x ∧ x < 18446744073709551616 := by rw [hx]; exact word_rng hr _
  rw [← hx]
  refine (c38 hxr.1 hxr.2).mono ?_
  rintro _ w29 ⟨rfl, e29⟩
  have h29 := h22.to e29
  refine ⟨_, _, _, _, _, _, _, _, _, rfl, h29.alloc (fun w39 h39 e39 n39 => h39.put 0 rfl rfl rfl (fun w40 h40 n40 => ?_))⟩
  have h40 : SH w w40 [aB w29.heap.size ((eCells x).map Ce.v), aB wq.heap.size ([Value.int .i64 (t * 256 + (i : Int) * 8)].map Ce.v), aB bl ([Value.int .i64 (n : Int)].map Ce.v), aB w.heap.size (tz5.map Ce.v)] := h40
  have hhd : ∀ (w9 : World) (c0 a1 b1 c1 d1 : Int), SH w w9 [aB w.heap.size (tz5.map Ce.v)] → TrP m root k w (.agg #[.int .i64 c0, .int .i64 a1, .int .i64 b1, .int .i64 c1, .int .u64 d1]) w9 → MayN w9 ⟨w.heap.size, 0, none⟩ 5 ∧ LetW (Den.puts w9 ⟨w.heap.size, 0, none⟩ 0 [.int .i64 c0, .int .i64 a1, .int .i64 b1, .int .i64 c1, .int .u64 d1]) fun w10 => ∃ x1 : Int, w10.cell? ⟨w.heap.size, 0, none⟩ = some (.int .i64 x1) ∧ ∃ x2 : Int, w10.cell? ⟨w.heap.size, 1, none⟩ = some (.int .i64 x2) ∧ ∃ x3 : Int, w10.cell? ⟨w.heap.size, 2, none⟩ = some (.int .i64 x3) ∧ ∃ x4 : Int, w10.cell? ⟨w.heap.size, 3, none⟩ = some (.int .i64 x4) ∧ ∃ x5 : Int, w10.cell? ⟨w.heap.size, 4, none⟩ = some (.int .u64 x5) ∧ TrP m root k w (.agg #[.int .i64 x1, .int .i64 x2, .int .i64 x3, .int .i64 x4, .int .u64 x5]) w10 := by
    intro w9 c0 a1 b1 c1 d1 h9 hp
    refine h9.put 0 rfl rfl rfl (fun w10 h10 n10 => ?_)
    refine ⟨_, h10.cell 0 rfl rfl, _, h10.cell 0 rfl rfl, _, h10.cell 0 rfl rfl, _, h10.cell 0 rfl rfl, _, h10.cell 0 rfl rfl, ?_⟩
    obtain ⟨g1, g2, g3, g4, g5, hv, _, hq⟩ := hp
    exact ⟨g1, g2, g3, g4, g5, hv, h10.ext, hq⟩
  have c0 := h40.cell 0 (i := 0) rfl rfl
  have c1 := h40.cell 0 (i := 1) rfl rfl
  have c2 := h40.cell 0 (i := 2) rfl rfl
  have c3 := h40.cell 0 (i := 3) rfl rfl
  have c4 := h40.cell 0 (i := 4) rfl rfl
  have c5 := h40.cell 0 (i := 5) rfl rfl
  have c6 := h40.cell 0 (i := 6) rfl rfl
  have c8 := h40.cell 0 (i := 8) rfl rfl
  have cl := h40.cell 2 (i := 0) rfl rfl
  refine ⟨ebit x 0, c0, BIf.not ?_⟩
  by_cases hz : x = 0
  · -- no entry
    refine BIf.f (by rw [hz]; rfl) ?_
    refine (s117 (i := 2) (j := 1) (b1 := bl) (b2 := wq.heap.size) h40 rfl rfl).mono ?_
    rintro _ w43 ⟨rfl, h43⟩
    refine ⟨_, _, _, _, _, rfl, hhd w43 _ _ _ _ _ (h43.front (n := 3) rfl).one ?_⟩
    have hlv := lk_lv hLk (.inl (by rw [← hi, ← hxe]; exact hz))
    refine ⟨_, _, _, _, _, rfl, h43.ext, by rw [hlv], .inl ⟨rfl, .inr ?_⟩⟩
    rw [hd]
    exact desc_none (by rw [← hi, ← hxe]; exact hz)
  have hnz : entAt m t (i : Int) ≠ 0 := by rw [← hxe]; exact hz
  cases n with
  | succ j =>
    obtain ⟨hkd, S1, hT1, _⟩ := hTt.sub (i := (i : Int)) (by omega) (by omega) hnz
    rw [← hxe] at hkd hT1
    obtain ⟨b0, hxs, b1, b2, b3, b4, b5, b6⟩ := kind_ptr hkd
    refine BIf.t b0 ⟨by omega, ?_⟩
    refine JoinW.cut1 (fun (c : Bool) w' => c = false ∧ w' = w40) ?_ ?_
    · exact BIf.f (shr_20 hxr.1 hxs) ⟨_, c2, BIf.f b2 ⟨rfl, rfl⟩⟩
    rintro (c : Bool) w' ⟨rfl, rfl⟩
    refine BIf.f rfl ⟨_, c1, ?_⟩
    refine JoinW.cut1 (fun (c : Bool) w'' => c = true ∧ w'' = w') ?_ ?_
    · exact BIf.t (by rw [b1]; rfl) ⟨_, c2, by rw [b2]; rfl, rfl⟩
    rintro (c : Bool) w' ⟨rfl, rfl⟩
    refine JoinW.cut1 (fun (c : Bool) w'' => c = true ∧ w'' = w') ?_ ?_
    · exact BIf.t rfl ⟨_, c3, by rw [b3]; rfl, rfl⟩
    rintro (c : Bool) w' ⟨rfl, rfl⟩
    refine BIf.t rfl ⟨_, c4, ?_⟩
    refine JoinW.cut1 (fun (c : Bool) w'' => c = false ∧ w'' = w') ?_ ?_
    · exact BIf.f b4 ⟨_, c5, b5, rfl⟩
    rintro (c : Bool) w' ⟨rfl, rfl⟩
    refine JoinW.cut1 (fun (c : Bool) w'' => c = false ∧ w'' = w') ?_ ?_
    · exact BIf.f rfl ⟨_, c6, b6, rfl⟩
    rintro (c : Bool) w' ⟨rfl, rfl⟩
    refine JoinW.cut1 (fun (c : Bool) w'' => c = false ∧ w'' = w') ?_ ?_
    · refine BIf.f rfl (addrOf_mk ⟨_, cl, ?_, rfl⟩)
      show ((((j + 1 : Nat) : Int)) == 0) = false
      rw [beq_eq_false_iff_ne]; omega
    rintro (c : Bool) w' ⟨rfl, rfl⟩
    refine BIf.f rfl ⟨_, c8, addrOf_mk ⟨_, cl, ?_⟩⟩
    refine h40.alloc (fun w104 h104 e104 n104 => h104.setV 0 (vs := [.int .i64 0]) rfl rfl (fun w105 h105 n105 => ?_))
    refine ⟨_, h105.cell 0 rfl rfl, h105.setV 0 (vs := [.int .i64 (((j + 1 : Nat) : Int))]) rfl rfl (fun w107 h107 n107 => ?_)⟩
    have hl1 : IntKind.i64.wrap (((j + 1 : Nat) : Int) - 1) = (j : Int) := by rw [w64 (by omega) (by omega)]; omega
    rw [hl1] at h107
    have hLk2 := lk_next hLk (by rw [← hi]; exact hnz)
    rw [← hi, ← hxe] at hLk2
    have h108 : SH w w107 [aB w'.heap.size ([Value.int .i64 (j : Int)].map Ce.v), aB w.heap.size (tz5.map Ce.v)] := ((((h107.front (n := 3) rfl).drop).front (n := 2) rfl).drop.front (n := 1) rfl).drop
    refine hJ _ _ _ ⟨j, w'.heap.size, S1, rfl, by omega, hT1, hLk2, ?_, h108⟩ ?_
    · rw [hd, desc_sub (by rw [← hi]; exact hnz), ← hi, ← hxe]
    · have g1 := h108.cell 0 (i := 0) rfl rfl
      have g2 := h7.cell 0 (i := 0) rfl rfl
      simp only [g1, g2]
      omega
  | zero =>
    have hkd := hTt.leaf (i := (i : Int)) (by omega) (by omega) hnz
    rw [← hxe] at hkd
    obtain ⟨b0, hxs, b12, b123⟩ := kind_leaf hkd
    have hlv := lk_lv hLk (.inr rfl)
    have hi0 : i = k % 32 := by rw [hi, Nat.pow_zero, Nat.div_one]
    have hdx : desc m 2 root k = some x := by
      rw [hd, desc_leaf (by rw [← hi0]; exact hnz), ← hi0, ← hxe]
    have hok : ∀ (w9 : World) (c9 pa wd : Int), Ext w w9 → (c9 = 0 ∨ c9 = 7 ∨ c9 = 8) → TrP m root k w (.agg #[.int .i64 c9, .int .i64 ((0 : Nat) : Int), .int .i64 (t * 256 + (i : Int) * 8), .int .i64 pa, .int .u64 wd]) w9 := by
      intro w9 c9 pa wd e9 h9
      exact ⟨_, _, _, _, _, rfl, e9, by rw [hlv], .inr ⟨h9, hlv, by omega, by omega, by rw [hdx, hx]⟩⟩
    refine BIf.t b0 ⟨by omega, ?_⟩
    refine JoinW.cut1 (fun (c : Bool) w' => c = false ∧ w' = w40) ?_ ?_
    · refine BIf.f (shr_20 hxr.1 hxs) ⟨_, c2, BIf.of (fun h2 => ⟨_, c1, by rw [b12 h2]; rfl, rfl⟩) (fun _ => ⟨rfl, rfl⟩)⟩
    rintro (c : Bool) w' ⟨rfl, rfl⟩
    refine BIf.f rfl ⟨_, c1, ?_⟩
    refine JoinW.cut1 (fun (c : Bool) w'' => c = (!ebit x 1 && !ebit x 2) ∧ w'' = w') ?_ ?_
    · refine BIf.not (BIf.of (fun h1 => ⟨by rw [h1]; rfl, rfl⟩) (fun h1 => ⟨_, c2, by rw [h1]; rfl, rfl⟩))
    rintro (c : Bool) w' ⟨rfl, rfl⟩
    refine JoinW.cut1 (fun (c : Bool) w'' => c = false ∧ w'' = w') ?_ ?_
    · refine BIf.of (fun h1 => ⟨_, c3, ?_, rfl⟩) (fun h1 => ⟨rfl, rfl⟩)
      clear hkd b12 c0 c1 c2 c3
      revert h1 b123
      generalize ebit x 1 = a
      generalize ebit x 2 = b
      generalize ebit x 3 = d
      intro h1 b123
      cases a <;> cases b <;> cases d <;> simp_all
    rintro (c : Bool) w' ⟨rfl, rfl⟩
    have h41 := h40.drew
    have d1 := h41.cell 0 (i := 1) rfl rfl
    have d2 := h41.cell 0 (i := 2) rfl rfl
    have d3 := h41.cell 0 (i := 3) rfl rfl
    have d4 := h41.cell 0 (i := 4) rfl rfl
    have d8 := h41.cell 0 (i := 8) rfl rfl
    have dl := h41.cell 2 (i := 0) rfl rfl
    refine BIf.f rfl ⟨_, d8, addrOf_mk ⟨_, dl, ?_⟩⟩
    have h50 : IntKind.i64.wrap (5 * ((0 : Nat) : Int)) = 0 := rfl
    have hs1 : shlI .i64 1 0 = 1 := rfl
    rw [h50, hs1]
    refine ⟨by omega, by omega, BIf.f (by rw [Int.tmod_one]; rfl) ?_⟩
    refine JoinW.cut1 (fun (c : Bool) w'' => c = (!ebit x 4) ∧ w'' = w'.drew) ?_ ?_
    · exact BIf.t rfl ⟨_, d4, rfl, rfl⟩
    rintro (c : Bool) w'' ⟨rfl, rfl⟩
    refine BIf.of (fun hu => ?_) (fun hu => ?_)
    · refine (s117 (i := 2) (j := 1) (b1 := bl) (b2 := wq.heap.size) h41 rfl rfl).mono ?_
      rintro _ w132 ⟨rfl, h132⟩
      exact ⟨_, _, _, _, _, rfl, hhd _ _ _ _ _ _ (h132.front (n := 3) rfl).one (hok _ _ _ _ h132.ext (.inr (.inl rfl)))⟩
    refine JoinW.cut1 (fun (c : Bool) w'' => c = ebit x 1 ∧ w'' = w'.drew) ?_ ?_
    · exact BIf.t rfl ⟨_, d1, rfl, rfl⟩
    rintro (c : Bool) w'' ⟨rfl, rfl⟩
    refine JoinW.cut1 (fun (c : Bool) w'' => c = ebit x 1 ∧ w'' = w'.drew) ?_ ?_
    · refine BIf.of (fun h1 => ⟨h1.symm, rfl⟩) (fun h1 => BIf.f rfl ⟨h1.symm, rfl⟩)
    rintro (c : Bool) w'' ⟨rfl, rfl⟩
    refine JoinW.cut1 (fun (c : Bool) w'' => c = ebit x 1 ∧ w'' = w'.drew) ?_ ?_
    · refine BIf.of (fun h1 => ⟨h1.symm, rfl⟩) (fun h1 => BIf.f rfl ⟨h1.symm, rfl⟩)
    rintro (c : Bool) w'' ⟨rfl, rfl⟩
    refine BIf.not (BIf.of (fun hb => ?_) (fun hb => ?_))
    rotate_left
    · refine (s117 (i := 2) (j := 1) (b1 := bl) (b2 := wq.heap.size) h41 rfl rfl).mono ?_
      rintro _ w132 ⟨rfl, h132⟩
      exact ⟨_, _, _, _, _, rfl, hhd _ _ _ _ _ _ (h132.front (n := 3) rfl).one (hok _ _ _ _ h132.ext (.inr (.inr rfl)))⟩
    refine h41.setV 0 (vs := eCells x) rfl rfl (fun w166 h166 n166 => ?_)
    refine JoinW.cut0 (fun w'' => w'' = w166) ?_ ?_
    · exact BIf.f rfl rfl
    rintro w'' rfl
    refine ⟨_, h166.cell 0 rfl rfl, _, h166.cell 0 rfl rfl, _, h166.cell 0 rfl rfl, _, h166.cell 0 rfl rfl, _, h166.cell 0 rfl rfl, _, h166.cell 0 rfl rfl, _, h166.cell 0 rfl rfl, _, h166.cell 0 rfl rfl, _, h166.cell 0 rfl rfl, ?_⟩
    refine (c18 (e := ⟨ebit x 0, ebit x 1, ebit x 2, ebit x 3, ebit x 4, true, ebit x 6, ebit x 7, efr x⟩)).mono ?_
    rintro _ w179 ⟨rfl, e179⟩
    have h179 := (h166.to e179).drew
    refine ⟨_, _, rfl, addrOf_mk ⟨_, h179.cell 2 rfl rfl, _, h179.cell 1 rfl rfl, _, h179.cell 0 (i := 8) rfl rfl, by decide, ?_⟩⟩
    exact hhd _ _ _ _ _ _ (h179.front (n := 3) rfl).one (hok _ _ _ _ h179.ext (.inl rfl))
end Go.Proofs.YtkgoanjemhbjgaaGreat

/- SpacePages, both sides. Conditions: none. -/
set_option linter.unusedVariables false
set_option linter.unusedSimpArgs false
namespace Go.Proofs.YtkgoanjemhbjgaaGreat
open Go Go.Den
noncomputable def pgN : Nat := Classical.choose (⟨32768, rfl⟩ : ∃ z, z = 32768)
theorem pgN_eq : pgN = 32768 := Classical.choose_spec (⟨32768, rfl⟩ : ∃ z, z = 32768)
theorem lv_le (m : List Int) (root : Int) (k : Nat) : lvF m root k ≤ 2 := by unfold lvF; split; omega; split <;> omega
theorem lv_room {k n : Nat} (hn : n ≤ 2) (hk : k < 32768) (h : k % 32 ^ n = 0) : k + 32 ^ n ≤ 32768 := by
  have : n = 0 ∨ n = 1 ∨ n = 2 := by omega
  rcases this with rfl | rfl | rfl
  · show k + 1 ≤ _; omega
  · have h : k % 32 = 0 := h
    show k + 32 ≤ _; omega
  · have h : k % 1024 = 0 := h
    show k + 1024 ≤ _; omega
theorem shl_lv {n : Nat} (hn : n ≤ 2) : shlI .u64 1 (IntKind.i64.wrap (8 + IntKind.i64.wrap (5 * (n : Int)))) = ((256 * 32 ^ n : Nat) : Int) := by
  have : n = 0 ∨ n = 1 ∨ n = 2 := by omega
  rcases this with rfl | rfl | rfl <;> decide
set_option maxRecDepth 8000 in
set_option maxHeartbeats 1000000 in
theorem s37 {sm : Sl} {m : List Int} {free : List Bool} {w : World} {t : Int} {S : List Int} (hm : Bytes w sm m) (hok : mOk m = true) (hT : Tab m free 2 t S) (hml : m.length = 256 * free.length) (hs : m.length ≤ 262144) :
    CallW Tryz.prog 37 #[.slice sm.a sm.len sm.cap, .int .i64 t] w (fun v w' => ∃ l : Sl, v = .slice l.a l.len l.cap ∧ SH w w' [rowL l (seg (desc m 2 t) 0 pgN)]) := by
  have hN := pgN_eq
  refine go37 ?_
  unfold W37
  refine (c83 hm.len).mono ?_
  rintro _ w ⟨rfl, rfl⟩
  refine ⟨_, rfl, BIf.not (BIf.t hok ?_)⟩
  refine LoopW.m2 (fun (l : Sl) (va : Int) w' => ∃ k : Nat, va = ((256 * k : Nat) : Int) ∧ k ≤ 32768 ∧ (k < 32768 → k % 32 ^ lvF m t k = 0) ∧ SH w w' [rowL l (seg (desc m 2 t) 0 k)]) (fun (l : Sl) (va : Int) _ => (8388608 - va).toNat) ⟨0, rfl, by omega, fun _ => Nat.zero_mod _, (SH.start w).nil none 3⟩ ?_
  rintro (l : Sl) (va : Int) w7 ⟨k, hva, hk, hal, h7⟩ J hJ
  refine BIf.of (fun hlt => ?_) (fun hge => ?_)
  rotate_left
  · have hge := of_decide_eq_false hge
    have hk2 : k = pgN := by omega
    subst hk2
    exact ⟨l, rfl, h7⟩
  have hlt := of_decide_eq_true hlt
  subst hva
  have hk1 : k < 32768 := by omega
  have halk := hal hk1
  refine (s88 (hm.ext h7.ext) hT hml hs hk1).mono ?_
  rintro _ w9 ⟨code, lvl, at_, pa, wd, rfl, e9, rfl, hcase⟩
  have h9 := h7.to e9
  have hlv := lv_le m t k
  obtain ⟨n, hn⟩ : ∃ n, n = lvF m t k := ⟨_, rfl⟩
  rw [← hn] at hlv halk hcase ⊢
  have hroom := lv_room hlv hk1 halk
  have hpow := pow_le_1024 hlv
  refine ⟨code, _, at_, pa, wd, rfl, h9.alloc (fun w15 h15 e15 n15 => h15.put 0 rfl rfl rfl (fun w16 h16 n16 => ?_))⟩
  refine ⟨_, h16.cell 0 (i := 1) rfl rfl, by rw [w64 (n := 5 * (n : Int)) (by omega) (by omega), w64 (by omega) (by omega)]; omega, ?_⟩
  have hnext : seg (desc m 2 t) 0 (k + 32 ^ n) = seg (desc m 2 t) 0 k ++ seg (desc m 2 t) k (32 ^ n) := by
    have := seg_add (desc m 2 t) 0 k (32 ^ n)
    rwa [Nat.zero_add] at this
  have hsl := seg_len (desc m 2 t) 0 k
  refine JoinW.cut1 (fun (l' : Sl) w'' => SH w w'' [rowL l' (seg (desc m 2 t) 0 (k + 32 ^ n)), aB w9.heap.size ([Value.int .i64 code, .int .i64 (n : Int), .int .i64 at_, .int .i64 pa, .int .u64 wd].map Ce.v)]) ?_ ?_
  · refine ⟨code, h16.cell 0 rfl rfl, ?_⟩
    refine JoinW.cut1 (fun (c : Bool) w'' => (c = true ↔ code = 0 ∨ code = 7) ∧ w'' = w16) ?_ ?_
    · refine BIf.eq (fun h0 => ⟨⟨fun _ => .inl h0, fun _ => rfl⟩, rfl⟩) (fun h0 => ⟨code, h16.cell 0 rfl rfl, ?_, rfl⟩)
      rw [beq_iff_eq]
      exact ⟨fun hh => .inr hh, fun hh => by rcases hh with hh | hh; exact absurd hh h0; exact hh⟩
    rintro (c : Bool) w'' ⟨hc, rfl⟩
    refine JoinW.cut1 (fun (c : Bool) w3 => (c = true ↔ code = 0 ∨ code = 7 ∨ code = 8) ∧ w3 = w'') ?_ ?_
    · refine BIf.of (fun h1 => ⟨⟨fun _ => by rcases hc.1 h1 with h | h; exact .inl h; exact .inr (.inl h), fun _ => rfl⟩, rfl⟩) (fun h1 => ⟨code, h16.cell 0 rfl rfl, ?_, rfl⟩)
      rw [beq_iff_eq]
      have hn2 : ¬ (code = 0 ∨ code = 7) := fun hh => by rw [hc.2 hh] at h1; cases h1
      exact ⟨fun hh => .inr (.inr hh), fun hh => by rcases hh with hh | hh | hh; exact absurd (.inl hh) hn2; exact absurd (.inr hh) hn2; exact hh⟩
    rintro (c2 : Bool) w3 ⟨hc2, rfl⟩
    rcases hcase with ⟨h4, hnone⟩ | ⟨h078, hl0, ha0, ha1, hd⟩
    · have hcf : c2 = false := by
        cases c2
        · rfl
        · have := hc2.1 rfl; omega
      refine BIf.f hcf ?_
      show SH w w3 _
      rw [hnext, hn, lv_none (by rw [← hn]; exact halk) (by rw [← hn]; exact hnone), List.append_nil, ← hn]
      exact h16.p1
    · have hct : c2 = true := hc2.2 h078
      refine BIf.t hct ⟨at_, h16.cell 0 rfl rfl, ?_⟩
      refine (c89 (hm.ext h16.ext) ha0 ha1).mono ?_
      rintro _ w32 ⟨rfl, rfl⟩
      refine ⟨_, _, rfl, _, h16.cell 0 rfl rfl, ?_⟩
      rw [w64 (n := ((256 * k : Nat) : Int)) (by omega) (by omega)]
      have hn0 : n = 0 := hl0
      subst hn0
      refine LetW_iff.2 (SH.appendR1 (x := (⟨((256 * k : Nat) : Int), 0, word m at_⟩ : Leaf)) h16.p1 rfl rfl rfl (by decide) (by show (_ + 1) * 24 ≤ _; omega) (plain_leaf _) (fun s' w38 h38 g1 g2 => ?_))
      rw [hnext, show (32 : Nat) ^ 0 = 1 from rfl, seg_some hd]
      exact h38
  rintro (l' : Sl) w20 h20
  refine ⟨code, h20.cell 1 rfl rfl, ?_⟩
  refine BIf.f (by rw [beq_eq_false_iff_ne]; rcases hcase with h | h <;> omega) ?_
  rw [shl_lv hlv, wu64 (by omega) (by omega)]
  refine hJ _ _ _ ⟨k + 32 ^ n, by omega, hroom, ?_, h20.one⟩ (by omega)
  intro _
  have := lv_next (by rw [← hn]; exact halk)
  rwa [← hn] at this
/-! ## SpacePages -/
theorem mOk_of {m : List Int} {T : Int} {fr : List DBlock} (h : POk m T fr) : mOk m = true := by
  unfold mOk
  rw [Bool.and_eq_true, decide_eq_true_eq, decide_eq_true_eq]
  exact ⟨h.1, h.2.1⟩
end Go.Proofs.YtkgoanjemhbjgaaGreat

/- SpacePages as the law asks it. Conditions: none. -/
set_option linter.unusedVariables false
set_option linter.unusedSimpArgs false
namespace Go.Proofs.YtkgoanjemhbjgaaGreat
open Go Go.Den
theorem desc_rng {m : List Int} (hr : ∀ x, x ∈ m → 0 ≤ x ∧ x ≤ 255) : ∀ {n : Nat} {t : Int} {j : Nat} {x : Int}, desc m n t j = some x → 0 ≤ x ∧ x < 18446744073709551616
  | 0, t, j, x, h => by
    unfold desc at h
    split at h
    · cases h
    · injection h with h; subst h; exact word_rng hr _
  | n + 1, t, j, x, h => by
    unfold desc at h
    split at h
    · cases h
    · exact desc_rng hr h
theorem seg_mem {f : Nat → Option Int} {b : Nat} : ∀ {k : Nat} {l : Leaf}, l ∈ seg f b k → ∃ j x, j < b + k ∧ f j = some x ∧ l = ⟨((256 * j : Nat) : Int), 0, x⟩
  | 0, l, h => by simp [seg] at h
  | k + 1, l, h => by
    rw [seg] at h
    rcases List.mem_append.1 h with h | h
    · obtain ⟨j, x, h1, h2, h3⟩ := seg_mem h
      exact ⟨j, x, by omega, h2, h3⟩
    · cases hf : f (b + k) with
      | none => rw [hf] at h; simp at h
      | some x => rw [hf] at h; exact ⟨b + k, x, by omega, hf, List.mem_singleton.1 h⟩
end Go.Proofs.YtkgoanjemhbjgaaGreat

/- The tables of a space as a tree: visited in order. Conditions: none. -/
set_option linter.unusedVariables false
set_option linter.unusedSimpArgs false
namespace Go.Proofs.YtkgoanjemhbjgaaGreat
open Go Go.Den
def subV (lvl : Int) (rec : Int → Option (List Int)) (v : Int) : Option (List Int) :=
  if v = 0 then some [] else match cls v lvl with
    | none => none
    | some true => some []
    | some false => rec (efr v)
def scanW (lvl : Int) (rec : Int → Option (List Int)) : List Int → Option (List Int)
  | [] => some []
  | v :: r => match subV lvl rec v with
    | none => none
    | some A => match scanW lvl rec r with
      | none => none
      | some B => some (A ++ B)
def wds (x : Int → Int) : Nat → List Int
  | 0 => []
  | k + 1 => x (31 - (k : Int)) :: wds x k
open Classical in
noncomputable def visStep (m : List Int) (free : List Bool) (lvl : Nat) (rec : Int → Option (List Int)) (t : Int) : Option (List Int) :=
  if t < 0 ∨ (free.length : Int) ≤ t ∨ free.getD t.toNat false = true then none
  else match scanW lvl rec (wds (entAt m t) 32) with
    | none => none
    | some B => if lvl = 2 ∨ ∃ v, v ∈ wds (entAt m t) 32 ∧ v ≠ 0 then some (t :: B) else none
noncomputable def visF (m : List Int) (free : List Bool) : Nat → Int → Option (List Int)
  | 0 => visStep m free 0 (fun _ => none)
  | n + 1 => visStep m free (n + 1) (visF m free n)
def TV (S : List Int) (o : Option (List Int)) (S' : List Int) : Prop := ∃ A, o = some A ∧ A.Nodup ∧ (∀ y, y ∈ A → y ∉ S) ∧ S' = S ++ A
theorem scanW_cons {lvl : Int} {rec : Int → Option (List Int)} {v : Int} {r B : List Int} : scanW lvl rec (v :: r) = some B ↔ ∃ A C, subV lvl rec v = some A ∧ scanW lvl rec r = some C ∧ B = A ++ C := by
  constructor
  · intro h
    unfold scanW at h
    split at h
    · cases h
    · rename_i A hA
      split at h
      · cases h
      · rename_i C hC
        injection h with h
        exact ⟨A, C, hA, hC, h.symm⟩
  · rintro ⟨A, C, hA, hC, rfl⟩
    unfold scanW; rw [hA, hC]
theorem scanW_app {lvl : Int} {rec : Int → Option (List Int)} : ∀ {a b B : List Int}, scanW lvl rec (a ++ b) = some B ↔ ∃ A C, scanW lvl rec a = some A ∧ scanW lvl rec b = some C ∧ B = A ++ C
  | [], b, B => by
    constructor
    · intro h; exact ⟨[], B, rfl, h, rfl⟩
    · rintro ⟨A, C, hA, hC, rfl⟩
      injection hA with hA; subst hA; exact hC
  | v :: r, b, B => by
    rw [List.cons_append, scanW_cons]
    constructor
    · rintro ⟨A, C, hA, hC, rfl⟩
      obtain ⟨D, E, hD, hE, rfl⟩ := scanW_app.1 hC
      exact ⟨A ++ D, E, scanW_cons.2 ⟨A, D, hA, hD, rfl⟩, hE, by rw [List.append_assoc]⟩
    · rintro ⟨A, C, hA, hC, rfl⟩
      obtain ⟨D, E, hD, hE, rfl⟩ := scanW_cons.1 hA
      exact ⟨D, E ++ C, hD, scanW_app.2 ⟨E, C, hE, hC, rfl⟩, by rw [List.append_assoc]⟩
theorem scan_iff {x : Int → Int} {lvl : Int} {rec : Int → List Int → Option (List Int)} {recV : Int → Option (List Int)} (hr : ∀ t S S', rec t S = some S' ↔ TV S (recV t) S') : ∀ (k : Nat) (S : List Int) (any : Bool) (S' : List Int) (any' : Bool),
    scanT x lvl rec k S any = some (S', any') ↔ (TV S (scanW lvl recV (wds x k)) S' ∧ (any' = true ↔ any = true ∨ ∃ v, v ∈ wds x k ∧ v ≠ 0))
  | 0, S, any, S', any' => by
    unfold scanT wds
    constructor
    · intro h
      injection h with h; injection h with h1 h2
      subst h1; subst h2
      exact ⟨⟨[], rfl, List.nodup_nil, (fun y hy => by cases hy), (List.append_nil _).symm⟩, ⟨fun h => .inl h, fun h => by rcases h with h | ⟨v, hv, _⟩; exact h; cases hv⟩⟩
    · rintro ⟨⟨A, hA, _, _, rfl⟩, h2⟩
      injection hA with hA; subst hA
      have : any' = any := by
        cases any <;> cases any' <;> simp_all
      rw [this, List.append_nil]
  | k + 1, S, any, S', any' => by
    unfold scanT wds
    obtain ⟨v, hv⟩ : ∃ v, v = x (31 - (k : Int)) := ⟨_, rfl⟩
    rw [← hv]
    by_cases h0 : v = 0
    · rw [if_pos h0, scan_iff hr k]
      have hs : scanW lvl recV (v :: wds x k) = scanW lvl recV (wds x k) := by
        unfold scanW
        rw [show subV lvl recV v = some [] by unfold subV; rw [if_pos h0]]
        simp only [List.nil_append]
        cases h : scanW lvl recV (wds x k) <;> (unfold scanW at h; first | rw [h] | skip) <;> simp_all
      rw [hs]
      have he : (∃ y, y ∈ v :: wds x k ∧ y ≠ 0) ↔ ∃ y, y ∈ wds x k ∧ y ≠ 0 := by
        constructor
        · rintro ⟨y, hy, hn⟩
          rcases List.mem_cons.1 hy with rfl | hy
          · exact absurd h0 hn
          · exact ⟨y, hy, hn⟩
        · rintro ⟨y, hy, hn⟩; exact ⟨y, List.mem_cons_of_mem _ hy, hn⟩
      rw [he]
    · rw [if_neg h0]
      have hany : (∃ y, y ∈ v :: wds x k ∧ y ≠ 0) := ⟨v, List.mem_cons_self .., h0⟩
      split
      · rename_i hc
        constructor
        · intro h; cases h
        · rintro ⟨⟨A, hA, _⟩, _⟩
          obtain ⟨D, E, hD, _⟩ := scanW_cons.1 hA
          unfold subV at hD; rw [if_neg h0, hc] at hD; cases hD
      · rename_i hc
        have hsub : subV lvl recV v = some [] := by unfold subV; rw [if_neg h0, hc]
        rw [scan_iff hr k]
        constructor
        · rintro ⟨⟨A, hA, h2, h3, h4⟩, h5⟩
          exact ⟨⟨A, scanW_cons.2 ⟨[], A, hsub, hA, rfl⟩, h2, h3, h4⟩, ⟨fun _ => .inr hany, fun _ => h5.2 (.inl rfl)⟩⟩
        · rintro ⟨⟨A, hA, h2, h3, h4⟩, h5⟩
          obtain ⟨D, E, hD, hE, rfl⟩ := scanW_cons.1 hA
          rw [hsub] at hD; injection hD with hD; subst hD
          exact ⟨⟨E, hE, h2, h3, h4⟩, ⟨fun _ => .inl rfl, fun _ => h5.2 (.inr hany)⟩⟩
      · rename_i hc
        have hsub : subV lvl recV v = recV (efr v) := by unfold subV; rw [if_neg h0, hc]
        constructor
        · intro h
          split at h
          · cases h
          · rename_i S2 h2
            obtain ⟨A, hA, n1, d1, rfl⟩ := (hr _ _ _).1 h2
            obtain ⟨⟨B, hB, n2, d2, rfl⟩, h5⟩ := (scan_iff hr k _ _ _ _).1 h
            refine ⟨⟨A ++ B, scanW_cons.2 ⟨A, B, by rw [hsub]; exact hA, hB, rfl⟩, ?_, ?_, by rw [List.append_assoc]⟩, ⟨fun _ => .inr hany, fun _ => h5.2 (.inl rfl)⟩⟩
            · exact List.nodup_append.2 ⟨n1, n2, fun a ha b hb hab => d2 b hb (by rw [← hab]; simp [ha])⟩
            · intro y hy
              rcases List.mem_append.1 hy with hy | hy
              · exact d1 y hy
              · exact fun hh => d2 y hy (by simp [hh])
        · rintro ⟨⟨A, hA, n1, d1, rfl⟩, h5⟩
          obtain ⟨D, E, hD, hE, rfl⟩ := scanW_cons.1 hA
          rw [hsub] at hD
          obtain ⟨n2, n3, n4⟩ := List.nodup_append.1 n1
          have hrec : rec (efr v) S = some (S ++ D) := (hr _ _ _).2 ⟨D, hD, n2, fun y hy => d1 y (by simp [hy]), rfl⟩
          rw [hrec]
          refine (scan_iff hr k _ _ _ _).2 ⟨⟨E, hE, n3, ?_, by rw [List.append_assoc]⟩, ⟨fun _ => .inl rfl, fun _ => h5.2 (.inr hany)⟩⟩
          intro y hy hh
          rcases List.mem_append.1 hh with hh | hh
          · exact d1 y (by simp [hy]) hh
          · exact n4 y hh y hy rfl
theorem step_iff {m : List Int} {free : List Bool} {lvl : Nat} {rec : Int → List Int → Option (List Int)} {recV : Int → Option (List Int)} (hr : ∀ t S S', rec t S = some S' ↔ TV S (recV t) S') (t : Int) (S S' : List Int) : tblStep m free lvl rec t S = some S' ↔ TV S (visStep m free lvl recV t) S' := by
  unfold tblStep visStep
  by_cases hb : t < 0 ∨ (free.length : Int) ≤ t ∨ free.getD t.toNat false = true
  · rw [if_pos hb, if_pos (by rcases hb with h | h | h; exact .inl h; exact .inr (.inl h); exact .inr (.inr (.inl h)))]
    constructor
    · intro h; cases h
    · rintro ⟨A, hA, _⟩; cases hA
  rw [if_neg hb]
  by_cases ht : t ∈ S
  · rw [if_pos (.inr (.inr (.inr ht)))]
    constructor
    · intro h; cases h
    · rintro ⟨A, hA, _, hd, _⟩
      split at hA
      · cases hA
      · split at hA
        · injection hA with hA; subst hA; exact absurd ht (hd t (by simp))
        · cases hA
  rw [if_neg (fun h => by rcases h with h | h | h | h; exact hb (.inl h); exact hb (.inr (.inl h)); exact hb (.inr (.inr h)); exact ht h)]
  constructor
  · intro h
    split at h
    · rename_i S2 h2
      injection h with h; subst h
      obtain ⟨⟨B, hB, n1, d1, rfl⟩, h5⟩ := (scan_iff hr 32 _ _ _ _).1 h2
      rw [hB]
      have hany : lvl = 2 ∨ ∃ v, v ∈ wds (entAt m t) 32 ∧ v ≠ 0 := by
        rcases h5.1 rfl with h | h
        · exact .inl (of_decide_eq_true h)
        · exact .inr h
      refine ⟨t :: B, by simp only; rw [if_pos hany], List.nodup_cons.2 ⟨fun hh => d1 t hh (by simp), n1⟩, ?_, by simp⟩
      intro y hy hh
      rcases List.mem_cons.1 hy with rfl | hy
      · exact ht hh
      · exact d1 y hy (by simp [hh])
    · cases h
  · rintro ⟨A, hA, n1, d1, rfl⟩
    split at hA
    · cases hA
    · rename_i B hB
      split at hA
      · rename_i hany
        injection hA with hA; subst hA
        obtain ⟨n2, n3⟩ := List.nodup_cons.1 n1
        have : scanT (entAt m t) lvl rec 32 (S ++ [t]) (decide (lvl = 2)) = some (S ++ [t] ++ B, true) := by
          refine (scan_iff hr 32 _ _ _ _).2 ⟨⟨B, hB, n3, ?_, rfl⟩, ⟨fun _ => ?_, fun _ => rfl⟩⟩
          · intro y hy hh
            rcases List.mem_append.1 hh with hh | hh
            · exact d1 y (by simp [hy]) hh
            · exact n2 (by rw [← List.mem_singleton.1 hh]; exact hy)
          · rcases hany with h | h
            · exact .inl (decide_eq_true h)
            · exact .inr h
        rw [this]
        simp
      · cases hA
theorem tbl_iff {m : List Int} {free : List Bool} : ∀ (n : Nat) (t : Int) (S S' : List Int), tblF m free n t S = some S' ↔ TV S (visF m free n t) S'
  | 0, t, S, S' => step_iff (fun t S S' => ⟨(fun h => by cases h), (fun h => by obtain ⟨A, hA, _⟩ := h; cases hA)⟩) t S S'
  | n + 1, t, S, S' => step_iff (tbl_iff n) t S S'
end Go.Proofs.YtkgoanjemhbjgaaGreat

/- A page put in or turned: the tables of the space behind it. Conditions: none. -/
set_option linter.unusedVariables false
set_option linter.unusedSimpArgs false
namespace Go.Proofs.YtkgoanjemhbjgaaGreat
open Go Go.Den
theorem wds_congr {x x' : Int → Int} : ∀ k : Nat, k ≤ 32 → (∀ j : Int, 32 - (k : Int) ≤ j → j < 32 → x j = x' j) → wds x k = wds x' k
  | 0, _, h => rfl
  | k + 1, hk, h => by
    unfold wds
    rw [h (31 - (k : Int)) (by omega) (by omega), wds_congr k (by omega) (fun j h1 h2 => h j (by omega) h2)]
theorem wds_split {x x' : Int → Int} {i : Int} (h : ∀ j : Int, 0 ≤ j → j < 32 → j ≠ i → x j = x' j) : ∀ k : Nat, k ≤ 32 → 32 - (k : Int) ≤ i → i < 32 → ∃ pre post, wds x k = pre ++ x i :: post ∧ wds x' k = pre ++ x' i :: post
  | 0, _, h1, h2 => by omega
  | k + 1, hk, h1, h2 => by
    by_cases hi : i = 31 - (k : Int)
    · refine ⟨[], wds x k, by subst hi; rfl, ?_⟩
      have := wds_congr (x := x) (x' := x') k (by omega) (fun j g1 g2 => h j (by omega) g2 (by omega))
      rw [this]; subst hi; rfl
    · obtain ⟨pre, post, e1, e2⟩ := wds_split h k (by omega) (by omega) h2
      refine ⟨x (31 - (k : Int)) :: pre, post, by unfold wds; rw [e1]; rfl, ?_⟩
      unfold wds
      rw [e2, h (31 - (k : Int)) (by omega) (by omega) (by omega)]; rfl
theorem visStep_iff {m : List Int} {free : List Bool} {lvl : Nat} {rec : Int → Option (List Int)} {t : Int} {A : List Int} : visStep m free lvl rec t = some A ↔ 0 ≤ t ∧ t < (free.length : Int) ∧ free.getD t.toNat false = false ∧ ∃ B, scanW lvl rec (wds (entAt m t) 32) = some B ∧ (lvl = 2 ∨ ∃ v, v ∈ wds (entAt m t) 32 ∧ v ≠ 0) ∧ A = t :: B := by
  unfold visStep
  by_cases hb : t < 0 ∨ (free.length : Int) ≤ t ∨ free.getD t.toNat false = true
  · rw [if_pos hb]
    constructor
    · intro h; cases h
    · rintro ⟨h1, h2, h3, _⟩
      rcases hb with h | h | h
      · omega
      · omega
      · rw [h3] at h; cases h
  · rw [if_neg hb]
    have h1 : 0 ≤ t := by by_cases hh : t < 0; exact absurd (.inl hh) hb; omega
    have h2 : t < (free.length : Int) := by by_cases hh : (free.length : Int) ≤ t; exact absurd (.inr (.inl hh)) hb; omega
    have h3 : free.getD t.toNat false = false := by cases hh : free.getD t.toNat false; rfl; exact absurd (.inr (.inr hh)) hb
    constructor
    · intro h
      split at h
      · cases h
      · rename_i B hB
        split at h
        · rename_i ha
          injection h with h
          exact ⟨h1, h2, h3, B, hB, ha, h.symm⟩
        · cases h
    · rintro ⟨_, _, _, B, hB, ha, rfl⟩
      rw [hB]; simp only; rw [if_pos ha]
theorem scanW_trans {lvl : Int} {rec rec' : Int → Option (List Int)} : ∀ {ws B : List Int}, scanW lvl rec ws = some B → (∀ v A, subV lvl rec v = some A → (∀ y, y ∈ A → y ∈ B) → subV lvl rec' v = some A) → scanW lvl rec' ws = some B
  | [], B, h, hs => h
  | v :: r, B, h, hs => by
    obtain ⟨A, C, hA, hC, rfl⟩ := scanW_cons.1 h
    exact scanW_cons.2 ⟨A, C, hs v A hA (fun y hy => by simp [hy]), scanW_trans hC (fun u D hD hd => hs u D hD (fun y hy => by simp [hd y hy])), rfl⟩
theorem scanW_mem {lvl : Int} {rec : Int → Option (List Int)} {Q : Int → Prop} (hq : ∀ v A, rec v = some A → ∀ y, y ∈ A → Q y) : ∀ {ws B : List Int}, scanW lvl rec ws = some B → ∀ y, y ∈ B → Q y
  | [], B, h, y, hy => by injection h with h; subst h; cases hy
  | v :: r, B, h, y, hy => by
    obtain ⟨A, C, hA, hC, rfl⟩ := scanW_cons.1 h
    rcases List.mem_append.1 hy with hy | hy
    · unfold subV at hA
      split at hA
      · injection hA with hA; subst hA; cases hy
      · split at hA
        · cases hA
        · injection hA with hA; subst hA; cases hy
        · exact hq _ _ hA y hy
    · exact scanW_mem hq hC y hy
theorem vis_free {m : List Int} {free : List Bool} : ∀ {n : Nat} {t : Int} {A : List Int}, visF m free n t = some A → ∀ y, y ∈ A → 0 ≤ y ∧ y < (free.length : Int) ∧ free.getD y.toNat false = false
  | 0, t, A, h, y, hy => by
    obtain ⟨h1, h2, h3, B, hB, _, rfl⟩ := visStep_iff.1 h
    rcases List.mem_cons.1 hy with rfl | hy
    · exact ⟨h1, h2, h3⟩
    · exact scanW_mem (Q := fun y => 0 ≤ y ∧ y < (free.length : Int) ∧ free.getD y.toNat false = false) (fun v A hA => by cases hA) hB y hy
  | n + 1, t, A, h, y, hy => by
    obtain ⟨h1, h2, h3, B, hB, _, rfl⟩ := visStep_iff.1 h
    rcases List.mem_cons.1 hy with rfl | hy
    · exact ⟨h1, h2, h3⟩
    · exact scanW_mem (Q := fun y => 0 ≤ y ∧ y < (free.length : Int) ∧ free.getD y.toNat false = false) (fun v A hA => vis_free hA) hB y hy
/-- Memory that turned but in a table c and in fresh frames. -/
structure Chg (m m' : List Int) (free free' : List Bool) (c : Int) (news : List Int) : Prop where
  ent : ∀ t i : Int, 0 ≤ i → i < 32 → 0 ≤ t → t < (free.length : Int) → t ≠ c → t ∉ news → entAt m' t i = entAt m t i
  len : free'.length = free.length
  fr : ∀ t : Int, 0 ≤ t → t < (free.length : Int) → free.getD t.toNat false = false → free'.getD t.toNat false = false
  nw : ∀ f, f ∈ news → free.getD f.toNat false = true
theorem Chg.not_new {m m' : List Int} {free free' : List Bool} {c : Int} {news : List Int} (h : Chg m m' free free' c news) {y : Int} (hy : free.getD y.toNat false = false) : y ∉ news := fun hh => by rw [h.nw y hh] at hy; cases hy
theorem Chg.words {m m' : List Int} {free free' : List Bool} {c : Int} {news : List Int} (h : Chg m m' free free' c news) {t : Int} (h0 : 0 ≤ t) (h1 : t < (free.length : Int)) (h2 : free.getD t.toNat false = false) (hc : t ≠ c) : wds (entAt m' t) 32 = wds (entAt m t) 32 :=
  wds_congr 32 (by omega) (fun j g1 g2 => h.ent t j (by omega) g2 h0 h1 hc (h.not_new h2))
theorem sub_trans {lvl : Int} {rec rec' : Int → Option (List Int)} {v : Int} {A : List Int} (h : subV lvl rec v = some A) (hr : rec (efr v) = some A → rec' (efr v) = some A) : subV lvl rec' v = some A := by
  unfold subV at h ⊢
  split
  · rename_i h0; rw [if_pos h0] at h; exact h
  · rename_i h0
    rw [if_neg h0] at h
    cases hc : cls v lvl with
    | none => rw [hc] at h; cases h
    | some b =>
      rw [hc] at h
      cases b
      · exact hr h
      · exact h
theorem vis_same {m m' : List Int} {free free' : List Bool} {c : Int} {news : List Int} (hC : Chg m m' free free' c news) : ∀ {n : Nat} {t : Int} {A : List Int}, visF m free n t = some A → c ∉ A → visF m' free' n t = some A
  | 0, t, A, h, hc => by
    obtain ⟨h1, h2, h3, B, hB, ha, rfl⟩ := visStep_iff.1 h
    have hw := hC.words h1 h2 h3 (fun hh => hc (by rw [hh]; simp))
    refine visStep_iff.2 ⟨h1, by rw [hC.len]; exact h2, hC.fr t h1 h2 h3, B, ?_, ?_, rfl⟩
    · rw [hw]; exact hB
    · rw [hw]; exact ha
  | n + 1, t, A, h, hc => by
    obtain ⟨h1, h2, h3, B, hB, ha, rfl⟩ := visStep_iff.1 h
    have hw := hC.words h1 h2 h3 (fun hh => hc (by rw [hh]; simp))
    refine visStep_iff.2 ⟨h1, by rw [hC.len]; exact h2, hC.fr t h1 h2 h3, B, ?_, ?_, rfl⟩
    · rw [hw]
      exact scanW_trans hB (fun v D hD hd => sub_trans hD (fun hv => vis_same hC hv (fun hh => hc (by simp [hd c hh]))))
    · rw [hw]; exact ha
/-- The way from a table to the entry that turned. -/
def Pth (m m' : List Int) (free' : List Bool) (c : Int) (news : List Int) (ix : Nat → Int) : Nat → Int → Prop
  | 0, t => t = c ∧ (∀ j : Int, 0 ≤ j → j < 32 → j ≠ ix 0 → entAt m c j = entAt m' c j) ∧ (entAt m c (ix 0) = 0 ∨ cls (entAt m c (ix 0)) 0 = some true) ∧ cls (entAt m' c (ix 0)) 0 = some true ∧ entAt m' c (ix 0) ≠ 0
  | n + 1, t => (t = c ∧ (∀ j : Int, 0 ≤ j → j < 32 → j ≠ ix (n + 1) → entAt m c j = entAt m' c j) ∧ entAt m c (ix (n + 1)) = 0 ∧ entAt m' c (ix (n + 1)) ≠ 0 ∧ cls (entAt m' c (ix (n + 1))) ((n + 1 : Nat) : Int) = some false ∧ ∃ B, visF m' free' n (efr (entAt m' c (ix (n + 1)))) = some B ∧ B.Nodup ∧ ∀ y, y ∈ B → y ∈ news)
      ∨ (t ≠ c ∧ entAt m t (ix (n + 1)) ≠ 0 ∧ Pth m m' free' c news ix n (efr (entAt m t (ix (n + 1)))))
theorem nodup_ins {t : Int} {A0 A1 A1' A2 news : List Int} (h : (t :: (A0 ++ (A1 ++ A2))).Nodup) (h1 : A1'.Nodup) (hs : ∀ y, y ∈ A1' → y ∈ A1 ∨ y ∈ news) (hn : ∀ y, y ∈ news → y ∉ t :: (A0 ++ (A1 ++ A2))) : (t :: (A0 ++ (A1' ++ A2))).Nodup := by
  obtain ⟨ht, h2⟩ := List.nodup_cons.1 h
  obtain ⟨h3, h4, h5⟩ := List.nodup_append.1 h2
  obtain ⟨h6, h7, h8⟩ := List.nodup_append.1 h4
  refine List.nodup_cons.2 ⟨?_, List.nodup_append.2 ⟨h3, List.nodup_append.2 ⟨h1, h7, ?_⟩, ?_⟩⟩
  · intro hh
    rcases List.mem_append.1 hh with hh | hh
    · exact ht (by simp [hh])
    · rcases List.mem_append.1 hh with hh | hh
      · rcases hs t hh with g | g
        · exact ht (by simp [g])
        · exact hn t g (by simp)
      · exact ht (by simp [hh])
  · intro a ha b hb hab
    rcases hs a ha with g | g
    · exact h8 a g b hb hab
    · exact hn a g (by simp [hab, hb])
  · intro a ha b hb hab
    rcases List.mem_append.1 hb with hb | hb
    · rcases hs b hb with g | g
      · exact h5 a ha b (by simp [g]) hab
      · exact hn b g (by simp [← hab, ha])
    · exact h5 a ha b (by simp [hb]) hab
theorem ins {m m' : List Int} {free free' : List Bool} {c : Int} {news : List Int} {ix : Nat → Int} (hC : Chg m m' free free' c news) (hix : ∀ n, 0 ≤ ix n ∧ ix n < 32) : ∀ {n : Nat} {t : Int} {A : List Int}, visF m free n t = some A → A.Nodup → Pth m m' free' c news ix n t → c ∈ A ∧ ∃ A', visF m' free' n t = some A' ∧ A'.Nodup ∧ ∀ y, y ∈ A' → y ∈ A ∨ y ∈ news
  | 0, t, A, h, hnd, hp => by
    obtain ⟨rfl, hoth, hold, hnew, hne⟩ := hp
    obtain ⟨h1, h2, h3, B, hB, ha, rfl⟩ := visStep_iff.1 h
    refine ⟨by simp, t :: B, visStep_iff.2 ⟨h1, by rw [hC.len]; exact h2, hC.fr t h1 h2 h3, B, ?_, ?_, rfl⟩, hnd, fun y hy => .inl hy⟩
    · obtain ⟨pre, post, e1, e2⟩ := wds_split hoth 32 (by omega) (by have := (hix 0).1; omega) (hix 0).2
      rw [e1] at hB
      rw [e2]
      obtain ⟨A0, C, hA0, hC2, rfl⟩ := scanW_app.1 hB
      obtain ⟨A1, A2, hA1, hA2, rfl⟩ := scanW_cons.1 hC2
      have h10 : A1 = [] := by
        unfold subV at hA1
        rcases hold with h0 | h0
        · rw [if_pos h0] at hA1; injection hA1 with hA1; exact hA1.symm
        · split at hA1
          · injection hA1 with hA1; exact hA1.symm
          · have h0 : cls (entAt m t (ix 0)) ((0 : Nat) : Int) = some true := h0
            rw [h0] at hA1; injection hA1 with hA1; exact hA1.symm
      subst h10
      refine scanW_app.2 ⟨A0, [] ++ A2, hA0, scanW_cons.2 ⟨[], A2, ?_, hA2, rfl⟩, rfl⟩
      unfold subV
      rw [if_neg hne, show cls (entAt m' t (ix 0)) ((0 : Nat) : Int) = some true from hnew]
    · right
      obtain ⟨pre, post, e1, e2⟩ := wds_split hoth 32 (by omega) (by have := (hix 0).1; omega) (hix 0).2
      exact ⟨_, by rw [e2]; simp, hne⟩
  | n + 1, t, A, h, hnd, hp => by
    obtain ⟨h1, h2, h3, B, hB, ha, rfl⟩ := visStep_iff.1 h
    have hnews : ∀ y, y ∈ news → y ∉ t :: B := fun y hy hh => by
      have := (vis_free h y hh).2.2
      rw [hC.nw y hy] at this; cases this
    rcases hp with ⟨rfl, hoth, hold, hne, hcl, D, hD, hDn, hDs⟩ | ⟨hct, hne, hp⟩
    · obtain ⟨pre, post, e1, e2⟩ := wds_split hoth 32 (by omega) (by have := (hix (n + 1)).1; omega) (hix (n + 1)).2
      rw [e1] at hB
      obtain ⟨A0, C, hA0, hC2, rfl⟩ := scanW_app.1 hB
      obtain ⟨A1, A2, hA1, hA2, rfl⟩ := scanW_cons.1 hC2
      have h10 : A1 = [] := by
        unfold subV at hA1
        rw [if_pos hold] at hA1; injection hA1 with hA1; exact hA1.symm
      subst h10
      obtain ⟨hn1, hn2⟩ := List.nodup_cons.1 hnd
      refine ⟨by simp, t :: (A0 ++ (D ++ A2)), visStep_iff.2 ⟨h1, by rw [hC.len]; exact h2, hC.fr t h1 h2 h3, _, ?_, .inr ⟨_, by rw [e2]; simp, hne⟩, rfl⟩, ?_, ?_⟩
      · rw [e2]
        refine scanW_app.2 ⟨A0, D ++ A2, ?_, scanW_cons.2 ⟨D, A2, ?_, ?_, rfl⟩, rfl⟩
        · exact scanW_trans hA0 (fun v E hE hd => sub_trans hE (fun hv => vis_same hC hv (fun hh => hn1 (by simp [hd t hh]))))
        · unfold subV
          rw [if_neg hne, hcl]; exact hD
        · exact scanW_trans hA2 (fun v E hE hd => sub_trans hE (fun hv => vis_same hC hv (fun hh => hn1 (by simp [hd t hh]))))
      · exact nodup_ins hnd hDn (fun y hy => .inr (hDs y hy)) hnews
      · intro y hy
        rcases List.mem_cons.1 hy with rfl | hy
        · exact .inl (by simp)
        · rcases List.mem_append.1 hy with hy | hy
          · exact .inl (by simp [hy])
          · rcases List.mem_append.1 hy with hy | hy
            · exact .inr (hDs y hy)
            · exact .inl (by simp [hy])
    · have hwd := hC.words h1 h2 h3 hct
      obtain ⟨pre, post, e1, e2⟩ := wds_split (x := entAt m t) (x' := entAt m t) (i := ix (n + 1)) (fun j _ _ _ => rfl) 32 (by omega) (by have := (hix (n + 1)).1; omega) (hix (n + 1)).2
      have hB0 := hB
      rw [e1] at hB
      obtain ⟨A0, C, hA0, hC2, rfl⟩ := scanW_app.1 hB
      obtain ⟨A1, A2, hA1, hA2, rfl⟩ := scanW_cons.1 hC2
      have hcl : cls (entAt m t (ix (n + 1))) ((n + 1 : Nat) : Int) = some false := by
        unfold subV at hA1
        rw [if_neg hne] at hA1
        cases hc : cls (entAt m t (ix (n + 1))) ((n + 1 : Nat) : Int) with
        | none => rw [hc] at hA1; cases hA1
        | some b =>
          cases b
          · rfl
          · have := (cls_true hc).2; omega
      have hrec : visF m free n (efr (entAt m t (ix (n + 1)))) = some A1 := by
        unfold subV at hA1
        rw [if_neg hne, hcl] at hA1; exact hA1
      obtain ⟨hn1, hn2⟩ := List.nodup_cons.1 hnd
      obtain ⟨hn3, hn4, hn5⟩ := List.nodup_append.1 hn2
      obtain ⟨hn6, hn7, hn8⟩ := List.nodup_append.1 hn4
      obtain ⟨hcA, A1', hA1', hnd1, hsub⟩ := ins hC hix hrec hn6 hp
      refine ⟨by simp [hcA], t :: (A0 ++ (A1' ++ A2)), visStep_iff.2 ⟨h1, by rw [hC.len]; exact h2, hC.fr t h1 h2 h3, _, ?_, by rw [hwd]; exact ha, rfl⟩, nodup_ins hnd hnd1 hsub hnews, ?_⟩
      · rw [hwd, e1]
        refine scanW_app.2 ⟨A0, A1' ++ A2, ?_, scanW_cons.2 ⟨A1', A2, ?_, ?_, rfl⟩, rfl⟩
        · exact scanW_trans hA0 (fun v E hE hd => sub_trans hE (fun hv => vis_same hC hv (fun hh => hn5 c (hd c hh) c (by simp [hcA]) rfl)))
        · unfold subV
          rw [if_neg hne, hcl]; exact hA1'
        · exact scanW_trans hA2 (fun v E hE hd => sub_trans hE (fun hv => vis_same hC hv (fun hh => hn8 c hcA c (hd c hh) rfl)))
      · intro y hy
        rcases List.mem_cons.1 hy with rfl | hy
        · exact .inl (by simp)
        · rcases List.mem_append.1 hy with hy | hy
          · exact .inl (by simp [hy])
          · rcases List.mem_append.1 hy with hy | hy
            · rcases hsub y hy with g | g
              · exact .inl (by simp [g])
              · exact .inr g
            · exact .inl (by simp [hy])
end Go.Proofs.YtkgoanjemhbjgaaGreat

/- Words written and read again; entries and their words; pages behind a page turned. Conditions: none. -/
set_option linter.unusedVariables false
set_option linter.unusedSimpArgs false
namespace Go.Proofs.YtkgoanjemhbjgaaGreat
open Go Go.Den
theorem pk_get {m : List Int} {a : Nat} {x : Int} : ∀ {k j : Nat}, a + k ≤ m.length → j < k → (pk m a x k).getD (a + j) 0 = x / ((256 ^ j : Nat) : Int) % 256
  | 0, j, h, hj => by omega
  | k + 1, j, h, hj => by
    unfold pk
    by_cases hk : j = k
    · subst hk
      rw [List.getD_eq_getElem?_getD, List.getElem?_set_self (by rw [pk_len]; omega)]; rfl
    · rw [List.getD_eq_getElem?_getD, List.getElem?_set_ne (by omega), ← List.getD_eq_getElem?_getD]
      exact pk_get (by omega) (by omega)
theorem word_pk_at {m : List Int} {a : Nat} {x : Int} (ha : a + 8 ≤ m.length) (h0 : 0 ≤ x) (h1 : x < 18446744073709551616) : word (pk m a x 8) (a : Int) = x := by
  have hb : ∀ j : Nat, j < 8 → byt (pk m a x 8) ((a : Int) + (j : Int)) = x / ((256 ^ j : Nat) : Int) % 256 := fun j hj => by
    unfold byt
    rw [show ((a : Int) + (j : Int)).toNat = a + j by omega]
    exact pk_get (k := 8) ha hj
  have b0 := hb 0 (by omega); have b1 := hb 1 (by omega); have b2 := hb 2 (by omega); have b3 := hb 3 (by omega)
  have b4 := hb 4 (by omega); have b5 := hb 5 (by omega); have b6 := hb 6 (by omega); have b7 := hb 7 (by omega)
  unfold word
  simp only [hornr]
  rw [b0, b1, b2, b3, b4, b5, b6, b7]
  simp only [show ((256 ^ 0 : Nat) : Int) = 1 from rfl, show ((256 ^ 1 : Nat) : Int) = 256 from rfl, show ((256 ^ 2 : Nat) : Int) = 65536 from rfl, show ((256 ^ 3 : Nat) : Int) = 16777216 from rfl, show ((256 ^ 4 : Nat) : Int) = 4294967296 from rfl, show ((256 ^ 5 : Nat) : Int) = 1099511627776 from rfl, show ((256 ^ 6 : Nat) : Int) = 281474976710656 from rfl, show ((256 ^ 7 : Nat) : Int) = 72057594037927936 from rfl]
  omega
/-- An entry of memory behind a word written into a table's slot. -/
theorem ent_pk {m : List Int} {t i t' i' x : Int} (ht : 0 ≤ t) (hi : 0 ≤ i) (hi2 : i < 32) (hr : t * 256 + 256 ≤ m.length) (h0 : 0 ≤ x) (h1 : x < 18446744073709551616) (ht' : 0 ≤ t') (hi' : 0 ≤ i') (hi2' : i' < 32) :
    entAt (pk m (t * 256 + 8 * i).toNat x 8) t' i' = if t' = t ∧ i' = i then x else entAt m t' i' := by
  unfold entAt
  split
  · rename_i h
    obtain ⟨rfl, rfl⟩ := h
    have hn : t' * 256 + 8 * i' = (((t' * 256 + 8 * i').toNat : Nat) : Int) := by omega
    rw [hn, Int.toNat_natCast]
    exact word_pk_at (by omega) h0 h1
  · rename_i h
    refine word_pk (by omega) ?_
    by_cases htt : t' = t
    · have : i' ≠ i := fun hh => h ⟨htt, hh⟩
      subst htt; omega
    · omega
/-! ## Entries and words -/
theorem low_bits (e : DEntry) : (lowB e.flags 8 : Int) = (if e.Valid then 1 else 0) + (if e.Read then 2 else 0) + (if e.Write then 4 else 0) + (if e.Exec then 8 else 0) + (if e.User then 16 else 0) + (if e.Seen then 32 else 0) + (if e.Dirty then 64 else 0) + (if e.Soft then 128 else 0) := by
  have : lowB e.flags 8 = (if e.Soft then 2 ^ 7 else 0) + ((if e.Dirty then 2 ^ 6 else 0) + ((if e.Seen then 2 ^ 5 else 0) + ((if e.User then 2 ^ 4 else 0) + ((if e.Exec then 2 ^ 3 else 0) + ((if e.Write then 2 ^ 2 else 0) + ((if e.Read then 2 ^ 1 else 0) + ((if e.Valid then 2 ^ 0 else 0) + 0))))))) := rfl
  rw [this]
  cases e.Valid <;> cases e.Read <;> cases e.Write <;> cases e.Exec <;> cases e.User <;> cases e.Seen <;> cases e.Dirty <;> cases e.Soft <;> rfl
def entOf (x : Int) : DEntry := ⟨ebit x 0, ebit x 1, ebit x 2, ebit x 3, ebit x 4, ebit x 5, ebit x 6, ebit x 7, efr x⟩
theorem ebit_if (x : Int) (n : Nat) (v : Int) : (if ebit x n then v else 0) = (x / ((2 ^ n : Nat) : Int) % 2) * v := by
  unfold ebit
  have h2 : x / ((2 ^ n : Nat) : Int) % 2 = 0 ∨ x / ((2 ^ n : Nat) : Int) % 2 = 1 := by omega
  rcases h2 with h | h
  · rw [h]; simp
  · rw [h]; simp
theorem put_of {x : Int} (h0 : 0 ≤ x) (h1 : x < 1048576) : putX (entOf x) = x := by
  have hf : frOk (entOf x) = true := by
    unfold frOk
    have := efr_rng x
    rw [Bool.and_eq_true, decide_eq_true_eq, decide_eq_true_eq]
    show 0 ≤ efr x ∧ efr x ≤ 4095
    omega
  unfold putX
  rw [if_pos hf, low_bits]
  show efr x * 256 + ((if ebit x 0 then (1 : Int) else 0) + (if ebit x 1 then 2 else 0) + (if ebit x 2 then 4 else 0) + (if ebit x 3 then 8 else 0) + (if ebit x 4 then 16 else 0) + (if ebit x 5 then 32 else 0) + (if ebit x 6 then 64 else 0) + (if ebit x 7 then 128 else 0)) = x
  rw [ebit_if, ebit_if, ebit_if, ebit_if, ebit_if, ebit_if, ebit_if, ebit_if]
  unfold efr
  simp only [show ((2 ^ 0 : Nat) : Int) = 1 from rfl, show ((2 ^ 1 : Nat) : Int) = 2 from rfl, show ((2 ^ 2 : Nat) : Int) = 4 from rfl, show ((2 ^ 3 : Nat) : Int) = 8 from rfl, show ((2 ^ 4 : Nat) : Int) = 16 from rfl, show ((2 ^ 5 : Nat) : Int) = 32 from rfl, show ((2 ^ 6 : Nat) : Int) = 64 from rfl, show ((2 ^ 7 : Nat) : Int) = 128 from rfl]
  omega
theorem put_bits {e : DEntry} (hf : frOk e = true) : ebit (putX e) 0 = e.Valid ∧ ebit (putX e) 1 = e.Read ∧ ebit (putX e) 2 = e.Write ∧ ebit (putX e) 3 = e.Exec ∧ ebit (putX e) 4 = e.User ∧ ebit (putX e) 5 = e.Seen ∧ ebit (putX e) 6 = e.Dirty ∧ ebit (putX e) 7 = e.Soft ∧ efr (putX e) = e.Frame := by
  have hr : 0 ≤ e.Frame ∧ e.Frame ≤ 4095 := by unfold frOk at hf; simpa using hf
  have hp : putX e = e.Frame * 256 + (lowB e.flags 8 : Int) := by unfold putX; rw [if_pos hf]
  rw [low_bits] at hp
  obtain ⟨x, hx⟩ : ∃ x, x = putX e := ⟨_, rfl⟩
  rw [← hx] at hp ⊢
  unfold ebit efr
  simp only [show ((2 ^ 0 : Nat) : Int) = 1 from rfl, show ((2 ^ 1 : Nat) : Int) = 2 from rfl, show ((2 ^ 2 : Nat) : Int) = 4 from rfl, show ((2 ^ 3 : Nat) : Int) = 8 from rfl, show ((2 ^ 4 : Nat) : Int) = 16 from rfl, show ((2 ^ 5 : Nat) : Int) = 32 from rfl, show ((2 ^ 6 : Nat) : Int) = 64 from rfl, show ((2 ^ 7 : Nat) : Int) = 128 from rfl]
  obtain ⟨v, r, w, xx, u, s, d, o, f⟩ := e
  simp only at hp hr ⊢
  clear hx hf
  have hb : ∀ (b : Bool) (n : Int), (n = if b then 1 else 0) → (n == 1) = b := fun b n h => by cases b <;> simp at h <;> subst h <;> rfl
  have hg : ∀ (b : Bool) (v : Int), (if b = true then v else 0) = v * (if b = true then 1 else 0) := fun b v => by cases b <;> simp
  have hq : ∀ b : Bool, 0 ≤ (if b = true then (1 : Int) else 0) ∧ (if b = true then (1 : Int) else 0) ≤ 1 := fun b => by cases b <;> simp
  rw [hg r 2, hg w 4, hg xx 8, hg u 16, hg s 32, hg d 64, hg o 128] at hp
  have q0 := hq v; have q1 := hq r; have q2 := hq w; have q3 := hq xx; have q4 := hq u; have q5 := hq s; have q6 := hq d; have q7 := hq o
  refine ⟨hb v _ ?_, hb r _ ?_, hb w _ ?_, hb xx _ ?_, hb u _ ?_, hb s _ ?_, hb d _ ?_, hb o _ ?_, ?_⟩
  all_goals
    generalize (if v = true then (1 : Int) else 0) = a0 at *
    generalize (if r = true then (1 : Int) else 0) = a1 at *
    generalize (if w = true then (1 : Int) else 0) = a2 at *
    generalize (if xx = true then (1 : Int) else 0) = a3 at *
    generalize (if u = true then (1 : Int) else 0) = a4 at *
    generalize (if s = true then (1 : Int) else 0) = a5 at *
    generalize (if d = true then (1 : Int) else 0) = a6 at *
    generalize (if o = true then (1 : Int) else 0) = a7 at *
    omega
theorem leaf_kind {e : DEntry} (h : leafB e = true) : kindS (putX e) 0 = 1 ∧ putX e ≠ 0 := by
  unfold leafB at h
  simp only [Bool.and_eq_true] at h
  obtain ⟨⟨⟨hf, hv⟩, hany⟩, hwr⟩ := h
  obtain ⟨b0, b1, b2, b3, b4, b5, b6, b7, bf⟩ := put_bits hf
  have hr := putX_rng e
  refine ⟨?_, fun hz => by rw [hz, hv] at b0; cases b0⟩
  unfold kindS
  rw [b0, b1, b2, b3, hv, if_neg (by simp), if_neg (by omega)]
  have h1 : ¬ (e.Write && !e.Read) = true := by
    revert hwr; generalize e.Write = a; generalize e.Read = b; intro hwr; cases a <;> cases b <;> simp_all
  have h2 : ¬ (!e.Read && !e.Write && !e.Exec) = true := by
    revert hany; generalize e.Write = a; generalize e.Read = b; generalize e.Exec = c; intro hany; cases a <;> cases b <;> cases c <;> simp_all
  rw [if_neg h1, if_neg h2]
  have : efr (putX e) % pgs 0 = 0 := by show efr (putX e) % 1 = 0; omega
  rw [if_neg (by simp [this])]
theorem tab_kind {n : Int} (h0 : 0 ≤ n) (h1 : n ≤ 4095) {lvl : Int} (hl : lvl ≠ 0) : kindS (putX (tabE n)) lvl = 0 ∧ putX (tabE n) ≠ 0 ∧ efr (putX (tabE n)) = n := by
  have hf : frOk (tabE n) = true := by
    unfold frOk
    rw [Bool.and_eq_true, decide_eq_true_eq, decide_eq_true_eq]
    exact ⟨h0, h1⟩
  obtain ⟨b0, b1, b2, b3, b4, b5, b6, b7, bf⟩ := put_bits hf
  have hr := putX_rng (tabE n)
  have b0 : ebit (putX (tabE n)) 0 = true := b0
  have b1 : ebit (putX (tabE n)) 1 = false := b1
  have b2 : ebit (putX (tabE n)) 2 = false := b2
  have b3 : ebit (putX (tabE n)) 3 = false := b3
  have b4 : ebit (putX (tabE n)) 4 = false := b4
  have b5 : ebit (putX (tabE n)) 5 = false := b5
  have b6 : ebit (putX (tabE n)) 6 = false := b6
  refine ⟨?_, (fun hz => by rw [hz] at b0; cases b0), bf⟩
  unfold kindS
  rw [b0, b1, b2, b3, b4, b5, b6, if_neg (by simp), if_neg (by omega)]
  simp [hl]
end Go.Proofs.YtkgoanjemhbjgaaGreat

/- Free frames behind a taking; a space behind a page put in. Conditions: none. -/
set_option linter.unusedVariables false
set_option linter.unusedSimpArgs false
namespace Go.Proofs.YtkgoanjemhbjgaaGreat
open Go Go.Den
theorem setR_iff (l : List Bool) (a : Nat) : ∀ (k j : Nat), j < l.length → ((setR l a k).getD j false = true ↔ l.getD j false = true ∨ (a ≤ j ∧ j < a + k))
  | 0, j, h => ⟨fun h => .inl h, fun h => by rcases h with h | h; exact h; omega⟩
  | k + 1, j, h => by
    unfold setR
    by_cases hj : a + k = j
    · subst hj
      rw [List.getD_eq_getElem?_getD, List.getElem?_set_self (by rw [setR_len]; exact h)]
      exact ⟨fun _ => .inr ⟨by omega, by omega⟩, fun _ => rfl⟩
    · rw [List.getD_eq_getElem?_getD, List.getElem?_set_ne hj, ← List.getD_eq_getElem?_getD, setR_iff l a k j h]
      constructor
      · rintro (h | h)
        · exact .inl h
        · exact .inr ⟨h.1, by omega⟩
      · rintro (h | h)
        · exact .inl h
        · exact .inr ⟨h.1, by omega⟩
theorem fmap_iff : ∀ (bs : List DBlock) (l : List Bool) (j : Nat), j < l.length → ((fmapF bs l).getD j false = true ↔ l.getD j false = true ∨ ∃ b, b ∈ bs ∧ b.At.toNat ≤ j ∧ j < b.At.toNat + (pw b.Order).toNat)
  | [], l, j, h => ⟨fun h => .inl h, fun h => by rcases h with h | ⟨b, hb, _⟩; exact h; cases hb⟩
  | c :: r, l, j, h => by
    unfold fmapF
    rw [fmap_iff r _ j (by rw [setR_len]; exact h), setR_iff l _ _ j h]
    constructor
    · rintro ((h | h) | ⟨b, hb, h⟩)
      · exact .inl h
      · exact .inr ⟨c, by simp, h⟩
      · exact .inr ⟨b, by simp [hb], h⟩
    · rintro (h | ⟨b, hb, h⟩)
      · exact .inl (.inl h)
      · rcases List.mem_cons.1 hb with rfl | hb
        · exact .inl (.inr h)
        · exact .inr ⟨b, hb, h⟩
theorem free_iff {T : Int} {fr : List DBlock} {j : Nat} (hj : j < T.toNat) : (freeL T fr).getD j false = true ↔ ∃ b, b ∈ fr ∧ b.At.toNat ≤ j ∧ j < b.At.toNat + (pw b.Order).toNat := by
  unfold freeL
  rw [fmap_iff fr _ j (by rw [List.length_replicate]; exact hj)]
  constructor
  · rintro (h | h)
    · exfalso
      rw [List.getD_eq_getElem?_getD] at h
      rcases hq : (List.replicate T.toNat false)[j]? with _ | b
      · rw [hq] at h; cases h
      · have := (List.mem_replicate.1 (List.mem_of_getElem? hq)).2
        rw [hq, this] at h; cases h
    · exact h
  · exact fun h => .inr h
/-- No frame is free in the list of runs that is not free in the map. -/
theorem list_free {T : Int} {l : List Bool} (hl : l.length = T.toNat) {j : Nat} (hj : j < T.toNat) (h : (freeL T (listF l 0)).getD j false = true) : l.getD j false = true := by
  obtain ⟨b, hb, h1, h2⟩ := (free_iff hj).1 h
  obtain ⟨i, hi⟩ := List.mem_iff_getElem?.1 hb
  obtain ⟨⟨x, o, rfl, _, _, _, hw, _⟩, _⟩ := listF_run l 0 i b hi
  simp only [Int.toNat_natCast, pw_nat] at h1 h2
  have := hw.2 (j - x) (by omega)
  rwa [show x + (j - x) = j by omega] at this
/-- What a taking does to the free frames. -/
theorem take_free {T n : Int} {fr fr' : List DBlock} (h : FOk T fr) (ht : takeF T fr 0 = (T, fr', n)) (h0 : 0 ≤ n) (h1 : n < T) : (freeL T fr).getD n.toNat false = true ∧ (freeL T fr').getD n.toNat false = false ∧ ∀ j : Nat, j < T.toNat → (freeL T fr).getD j false = false → (freeL T fr').getD j false = false := by
  have hn : ¬ (¬ FOk T fr ∨ (0 : Int) < 0 ∨ (10 : Int) < 0) := fun h2 => by rcases h2 with h2 | h2 | h2; exact h2 h; omega; omega
  by_cases hb : bestF fr 0 fr.length < 0
  · rw [takeF_none hn hb] at ht; injection ht with _ ht; injection ht with _ ht; omega
  rcases bestF_ord fr 0 fr.length with hb2 | ⟨x, hx, _⟩
  · omega
  rw [takeF_some hn (by omega) hx] at ht
  injection ht with _ ht
  injection ht with hfr hat
  subst hat
  have hbo := blkOk_out (h.2.2 _ x hx).1
  have hpw : 1 ≤ pw x.Order := by unfold pw; have := Nat.one_le_two_pow (n := x.Order.toNat); omega
  have hset : setV false (freeL T fr) x.At.toNat (2 ^ (0 : Int).toNat) = (freeL T fr).set x.At.toNat false := rfl
  rw [hset] at hfr
  have hlen : ((freeL T fr).set x.At.toNat false).length = T.toNat := by rw [List.length_set, freeL_len]
  refine ⟨(free_iff (by omega)).2 ⟨x, List.mem_of_getElem? hx, Nat.le_refl _, by omega⟩, ?_, fun j hj hf => ?_⟩
  · cases hh : (freeL T fr').getD x.At.toNat false
    · rfl
    · rw [← hfr] at hh
      have := list_free hlen (by omega) hh
      rw [List.getD_eq_getElem?_getD, List.getElem?_set_self (by rw [freeL_len]; omega)] at this
      cases this
  · cases hh : (freeL T fr').getD j false
    · rfl
    · rw [← hfr] at hh
      have := list_free hlen hj hh
      by_cases hjx : x.At.toNat = j
      · subst hjx
        rw [List.getD_eq_getElem?_getD, List.getElem?_set_self (by rw [freeL_len]; omega)] at this
        cases this
      · rw [List.getD_eq_getElem?_getD, List.getElem?_set_ne hjx, ← List.getD_eq_getElem?_getD, hf] at this
        cases this
/-! ## A frame cleared -/
theorem zer_get (m : List Int) (a : Nat) : ∀ (k j : Nat), j < m.length → (zer m a k).getD j 0 = if a ≤ j ∧ j < a + k then 0 else m.getD j 0
  | 0, j, h => by rw [if_neg (by omega)]; rfl
  | k + 1, j, h => by
    unfold zer
    by_cases hj : a + k = j
    · subst hj
      rw [List.getD_eq_getElem?_getD, List.getElem?_set_self (by rw [zer_len]; exact h), if_pos (by omega)]; rfl
    · rw [List.getD_eq_getElem?_getD, List.getElem?_set_ne hj, ← List.getD_eq_getElem?_getD, zer_get m a k j h]
      by_cases h2 : a ≤ j ∧ j < a + k
      · rw [if_pos h2, if_pos (by omega)]
      · rw [if_neg h2, if_neg (by omega)]
theorem ent_zer {m : List Int} (hr : ∀ x, x ∈ m → 0 ≤ x ∧ x ≤ 255) {f t i : Int} (hf : 0 ≤ f) (ht : 0 ≤ t) (hi : 0 ≤ i) (hi2 : i < 32) (htr : t * 256 + 256 ≤ m.length) : entAt (zer m (f.toNat * 256) fz) t i = if t = f then 0 else entAt m t i := by
  unfold entAt word
  split
  · rename_i h
    subst h
    refine (horn_zero (zer_rng hr _ _) _ 8 0 (Int.le_refl _)).2 ⟨rfl, fun j hj => ?_⟩
    unfold byt
    rw [zer_get _ _ _ _ (by omega), if_pos (by rw [fz_eq]; omega)]
  · rename_i h
    refine hornr_congr 8 0 (fun j h0 h1 => ?_)
    unfold byt
    rw [zer_get _ _ _ _ (by omega), if_neg (by rw [fz_eq]; omega)]
/-! ## A leaf put in or turned -/
theorem way3_eq {m : List Int} {va t0 t1 t2 : Int} (h2 : entAt m t0 (ixV va 2) ≠ 0) (h1 : entAt m t1 (ixV va 1) ≠ 0) (hw : wayF m va 2 t0 = [t0, t1, t2]) : efr (entAt m t0 (ixV va 2)) = t1 ∧ efr (entAt m t1 (ixV va 1)) = t2 := by
  have e2 : wayF m va 2 t0 = t0 :: wayF m va 1 (efr (entAt m t0 (ixV va 2))) := wayF_s h2
  rw [e2] at hw
  injection hw with _ hw
  have g1 : ∀ t, wayF m va 1 t = t :: (if entAt m t (ixV va 1) = 0 then [] else wayF m va 0 (efr (entAt m t (ixV va 1)))) := fun t => rfl
  rw [g1] at hw
  injection hw with ha hw
  rw [ha, if_neg h1] at hw
  injection hw with hb _
  exact ⟨ha, hb⟩
def ixN (va : Int) (n : Nat) : Int := ixV va (n : Int)
theorem ixN_rng (va : Int) (n : Nat) : 0 ≤ ixN va n ∧ ixN va n < 32 := ixV_rng va n
theorem cls_leaf {x : Int} (h : kindS x 0 = 1) : cls x 0 = some true := by
  unfold cls
  rw [if_neg (by rw [h]; omega), if_neg (by rw [h]; omega)]
theorem cls_ptr {x lvl : Int} (h : kindS x lvl = 0) : cls x lvl = some false := by
  unfold cls
  rw [if_neg (by rw [h]; omega), if_pos h]
theorem vis_of {m : List Int} {T : Int} {fr : List DBlock} {root : Int} {S : List Int} (h : spaceT m T fr root = some S) : visF m (freeL T fr) 2 root = some S ∧ S.Nodup := by
  rw [spaceT_pos (spaceT_mem h).1] at h
  obtain ⟨A, hA, hn, _, rfl⟩ := (tbl_iff 2 root [] S).1 h
  exact ⟨hA, hn⟩
theorem of_vis {m : List Int} {T : Int} {fr : List DBlock} {root : Int} {A : List Int} (hok : POk m T fr) (h : visF m (freeL T fr) 2 root = some A) (hn : A.Nodup) : spaceT m T fr root = some A := by
  rw [spaceT_pos hok]
  exact (tbl_iff 2 root [] A).2 ⟨A, h, hn, (fun y _ hy => by cases hy), rfl⟩
theorem leaf_space {m : List Int} {T : Int} {fr : List DBlock} {root va t1 t2 x : Int} {S : List Int} (h : spaceT m T fr root = some S) (W : Way3 m T fr va root t1 t2) (hx0 : 0 ≤ x) (hx1 : x < 1048576) (hk : kindS x 0 = 1) (hxn : x ≠ 0) :
    ∃ S', spaceT (pk m (slotA va 0 t2).toNat x 8) T fr root = some S' := by
  obtain ⟨hv, hnd⟩ := vis_of h
  have hok := W.ok
  have hroom : 0 ≤ t2 ∧ t2 * 256 + 256 ≤ m.length ∧ m.length ≤ 262144 := W.room 0
  have hi0 := ixV_rng va 0
  have hent : ∀ t i : Int, 0 ≤ t → 0 ≤ i → i < 32 → entAt (pk m (slotA va 0 t2).toNat x 8) t i = if t = t2 ∧ i = ixV va 0 then x else entAt m t i := fun t i ht hi hi2 => ent_pk hroom.1 hi0.1 hi0.2 hroom.2.1 hx0 (by omega) ht hi hi2
  have hC : Chg m (pk m (slotA va 0 t2).toNat x 8) (freeL T fr) (freeL T fr) t2 [] := ⟨fun t i h0 h1 h2 h3 hc hn => by rw [hent t i h2 h0 h1, if_neg (fun hh => hc hh.1)], rfl, fun t _ _ hh => hh, fun f hf => by cases hf⟩
  obtain ⟨q1, q2⟩ := way3_eq W.e2 W.e1 W.hw
  have hT := tab_root h
  have hold : entAt m t2 (ixV va 0) = 0 ∨ cls (entAt m t2 (ixV va 0)) 0 = some true := by
    by_cases hz : entAt m t2 (ixV va 0) = 0
    · exact .inl hz
    · right
      obtain ⟨_, S1, hT1, _⟩ := hT.sub (i := ixV va 2) (ixV_rng va 2).1 (ixV_rng va 2).2 W.e2
      rw [q1] at hT1
      obtain ⟨_, S2, hT2, _⟩ := hT1.sub (i := ixV va 1) (ixV_rng va 1).1 (ixV_rng va 1).2 W.e1
      rw [q2] at hT2
      exact cls_leaf (hT2.leaf hi0.1 hi0.2 hz)
  have hnew : entAt (pk m (slotA va 0 t2).toNat x 8) t2 (ixV va 0) = x := by rw [hent t2 _ hroom.1 hi0.1 hi0.2, if_pos ⟨rfl, rfl⟩]
  have hP : Pth m (pk m (slotA va 0 t2).toNat x 8) (freeL T fr) t2 [] (ixN va) 2 root := by
    refine .inr ⟨W.d02, W.e2, ?_⟩
    show Pth _ _ _ _ _ _ 1 (efr (entAt m root (ixV va 2)))
    rw [q1]
    refine .inr ⟨W.d12, W.e1, ?_⟩
    show Pth _ _ _ _ _ _ 0 (efr (entAt m t1 (ixV va 1)))
    rw [q2]
    refine ⟨rfl, fun j h0 h1 hj => ?_, hold, ?_, ?_⟩
    · rw [hent t2 j hroom.1 h0 h1, if_neg (fun hh => hj hh.2)]
    · show cls (entAt _ t2 (ixV va 0)) 0 = some true
      rw [hnew]; exact cls_leaf hk
    · show entAt _ t2 (ixV va 0) ≠ 0
      rw [hnew]; exact hxn
  obtain ⟨_, A', hA', hnd', _⟩ := ins hC (ixN_rng va) hv hnd hP
  exact ⟨A', of_vis ⟨by rw [pk_len]; exact hok.1, by rw [pk_len]; exact hok.2.1, hok.2.2.1, by rw [pk_len]; exact hok.2.2.2⟩ hA' hnd'⟩
end Go.Proofs.YtkgoanjemhbjgaaGreat

/- A space behind MapPage is a space. Conditions: none. -/
set_option linter.unusedVariables false
set_option linter.unusedSimpArgs false
namespace Go.Proofs.YtkgoanjemhbjgaaGreat
open Go Go.Den
theorem sub_zero (lvl : Int) (rec : Int → Option (List Int)) : subV lvl rec 0 = some [] := by unfold subV; rw [if_pos rfl]
theorem scan_zero {x : Int → Int} {lvl : Int} {rec : Int → Option (List Int)} : ∀ k : Nat, k ≤ 32 → (∀ j : Int, 32 - (k : Int) ≤ j → j < 32 → x j = 0) → scanW lvl rec (wds x k) = some []
  | 0, _, h => rfl
  | k + 1, hk, h => by
    unfold wds
    rw [h (31 - (k : Int)) (by omega) (by omega)]
    exact scanW_cons.2 ⟨[], [], sub_zero _ _, scan_zero k (by omega) (fun j h1 h2 => h j (by omega) h2), rfl⟩
theorem scan_one {x : Int → Int} {lvl i : Int} {rec : Int → Option (List Int)} {A : List Int} (hi2 : i < 32) (h : ∀ j : Int, 0 ≤ j → j < 32 → j ≠ i → x j = 0) (hA : subV lvl rec (x i) = some A) : ∀ k : Nat, k ≤ 32 → 32 - (k : Int) ≤ i → scanW lvl rec (wds x k) = some A ∧ x i ∈ wds x k
  | 0, _, h1 => by omega
  | k + 1, hk, h1 => by
    unfold wds
    by_cases hik : i = 31 - (k : Int)
    · subst hik
      exact ⟨scanW_cons.2 ⟨A, [], hA, scan_zero k (by omega) (fun j g1 g2 => h j (by omega) g2 (by omega)), by simp⟩, by simp⟩
    · obtain ⟨g1, g2⟩ := scan_one hi2 h hA k (by omega) (by omega)
      rw [h (31 - (k : Int)) (by omega) (by omega) (by omega)]
      exact ⟨scanW_cons.2 ⟨[], A, sub_zero _ _, g1, rfl⟩, by simp [g2]⟩
/-- A fresh table with one leaf. -/
theorem vis_leaf {m : List Int} {free : List Bool} {f i : Int} (h0 : 0 ≤ f) (h1 : f < (free.length : Int)) (h2 : free.getD f.toNat false = false) (hi0 : 0 ≤ i) (hi : i < 32) (hz : ∀ j : Int, 0 ≤ j → j < 32 → j ≠ i → entAt m f j = 0) (hk : cls (entAt m f i) 0 = some true) (hne : entAt m f i ≠ 0) : visF m free 0 f = some [f] := by
  have hs : subV ((0 : Nat) : Int) (fun _ => none) (entAt m f i) = some [] := by
    unfold subV; rw [if_neg hne, show cls (entAt m f i) ((0 : Nat) : Int) = some true from hk]
  obtain ⟨g1, g2⟩ := scan_one (x := entAt m f) hi hz hs 32 (by omega) (by omega)
  exact visStep_iff.2 ⟨h0, h1, h2, [], g1, .inr ⟨_, g2, hne⟩, rfl⟩
/-- A fresh table with one table below. -/
theorem vis_ptr {m : List Int} {free : List Bool} {f g i : Int} (h0 : 0 ≤ f) (h1 : f < (free.length : Int)) (h2 : free.getD f.toNat false = false) (hi0 : 0 ≤ i) (hi : i < 32) (hz : ∀ j : Int, 0 ≤ j → j < 32 → j ≠ i → entAt m f j = 0) (hk : cls (entAt m f i) 1 = some false) (hne : entAt m f i ≠ 0) (he : efr (entAt m f i) = g) (hg : visF m free 0 g = some [g]) : visF m free 1 f = some [f, g] := by
  have hs : subV ((0 + 1 : Nat) : Int) (visF m free 0) (entAt m f i) = some [g] := by
    unfold subV; rw [if_neg hne, show cls (entAt m f i) ((0 + 1 : Nat) : Int) = some false from hk]; simp only; rw [he]; exact hg
  obtain ⟨g1, g2⟩ := scan_one (x := entAt m f) hi hz hs 32 (by omega) (by omega)
  exact visStep_iff.2 ⟨h0, h1, h2, [g], g1, .inr ⟨_, g2, hne⟩, rfl⟩
theorem GvOk.pok {n : Nat} {T : Int} {p : List Int × Int × List DBlock} (h : GvOk n T p) (h1 : n % 256 = 0) (h2 : n ≤ 262144) (h3 : T = ((n / 256 : Nat) : Int)) : POk p.1 T p.2.2 := ⟨by rw [h.len]; exact h1, by rw [h.len]; exact h2, h.ok, by rw [h.len]; exact h3⟩
theorem mpS_mem (va : Int) (s : (List Int × Int × List DBlock) × List Int) : (mpS va s).1.1 = pk (zer s.1.1 ((tkN s.1).toNat * 256) fz) (slotA va (3 - s.2.length) (s.2.getD (s.2.length - 1) 0)).toNat (putX (tabE (tkN s.1))) 8 := rfl
set_option maxHeartbeats 4000000 in
theorem map_space {m : List Int} {T : Int} {fr : List DBlock} {root va x : Int} {S : List Int} (h : spaceT m T fr root = some S) (hr : ∀ x, x ∈ m → 0 ≤ x ∧ x ≤ 255) (hf : fr.length ≤ 1048576) (hx0 : 0 ≤ x) (hx1 : x < 1048576) (hk : kindS x 0 = 1) (hxn : x ≠ 0) :
    (mapG m T fr root va x).1.2.1 = T ∧ GvOk m.length T (mapG m T fr root va x).1 ∧ ∃ S', spaceT (mapG m T fr root va x).1.1 T (mapG m T fr root va x).1.2.2 root = some S' := by
  have hok := (spaceT_mem h).1
  have hT := tab_root h
  have hgv := gvOk0 hok hr hf
  by_cases hp : pageX m va root = 0
  rotate_left
  · rw [mapG_there hp]; exact ⟨rfl, hgv, S, h⟩
  by_cases hs : sumO fr < 3 - ((wayF m va 2 root).length : Int)
  · rw [mapG_full hp hs]; exact ⟨rfl, hgv, S, h⟩
  have h0 := way_ok h hr hf hs
  have hfl : ((freeL T fr).length : Int) = T := by rw [freeL_len]; have := hok.2.2.1.1; omega
  have hml := hok.2.1
  have hm256 := hok.1
  have hTm := hok.2.2.2
  obtain ⟨hv, hnd⟩ := vis_of h
  have hi0 := ixV_rng va 0
  have hi1 := ixV_rng va 1
  have hi2 := ixV_rng va 2
  have g0 := hT.rng
  have hfree := vis_free hv
  rcases way_is (va := va) hT with ⟨he2, hw⟩ | ⟨t1, S1, he2, ht1, hT1, hr1, he1, hw⟩ | ⟨t1, t2, S1, S2, he2, ht1, hT1, hr1, he1, ht2, hT2, hr2, hr3, hw⟩
  · -- two tables are missing
    rw [hw] at h0
    rw [mapG_done hp hs rfl, hw]
    show _ ∧ _ ∧ ∃ S', spaceT (pk (mpS va (mpS va ((m, T, fr), [root]))).1.1 (slotA va 0 ((mpS va (mpS va ((m, T, fr), [root]))).2.getD 2 0)).toNat x 8) T (mpS va (mpS va ((m, T, fr), [root]))).1.2.2 root = some S'
    have h1 : MpOk m.length T (mpS va ((m, T, fr), [root])) 1 := MpOk.next (va := va) h0
    have h2 : MpOk m.length T (mpS va (mpS va ((m, T, fr), [root]))) 0 := MpOk.next (va := va) h1
    obtain ⟨fr1, ht1, hf0, hf1, hfine, _⟩ := MpOk.take (k := 1) h0
    obtain ⟨fr2, ht2, hg0, hg1, hfine2, _⟩ := MpOk.take (k := 0) h1
    obtain ⟨f, hfe⟩ : ∃ f, f = tkN (m, T, fr) := ⟨_, rfl⟩
    obtain ⟨g, hge⟩ : ∃ g, g = tkN (mpS va ((m, T, fr), [root])).1 := ⟨_, rfl⟩
    have ht1 : takeF T fr 0 = (T, fr1, f) := by rw [hfe]; exact ht1
    have hfr1 : (mpS va ((m, T, fr), [root])).1.2.2 = fr1 := by show (takeF T fr 0).2.1 = fr1; rw [ht1]
    rw [hfr1, ← hge] at ht2
    rw [← hge] at hg0 hg1
    have hf0 : 0 ≤ f := by rw [hfe]; exact hf0
    have hf1 : f < T := by rw [hfe]; exact hf1
    have htot1 : (mpS va ((m, T, fr), [root])).1.2.1 = T := h1.gv.tot
    have hfr2 : (mpS va (mpS va ((m, T, fr), [root]))).1.2.2 = fr2 := by
      show (takeF (mpS va ((m, T, fr), [root])).1.2.1 (mpS va ((m, T, fr), [root])).1.2.2 0).2.1 = fr2
      rw [htot1, hfr1, ht2]
    obtain ⟨a1, a2, a3⟩ := take_free hok.2.2.1 ht1 hf0 hf1
    obtain ⟨b1, b2, b3⟩ := take_free (by rw [← hfr1]; exact h1.gv.ok) ht2 hg0 hg1
    have hgf : g ≠ f := fun hh => by rw [hh, a2] at b1; cases b1
    have hrf := (hfree root (by
      obtain ⟨_, _, _, B, _, _, rfl⟩ := visStep_iff.1 hv; simp)).2.2
    have hroot : root ≠ f := fun hh => by rw [hh, a1] at hrf; cases hrf
    have hroot2 : root ≠ g := fun hh => by
      have := a3 root.toNat (by omega) hrf
      rw [hh, b1] at this; cases this
    have hpf := putX_rng (tabE f)
    have hpg := putX_rng (tabE g)
    -- the memory
    obtain ⟨m2, hm2⟩ : ∃ m2, m2 = (mpS va ((m, T, fr), [root])).1.1 := ⟨_, rfl⟩
    have hm2l : m2.length = m.length := by rw [hm2]; exact h1.gv.len
    have hm2r : ∀ y, y ∈ m2 → 0 ≤ y ∧ y ≤ 255 := by rw [hm2]; exact h1.gv.rng
    have e2 : ∀ t i : Int, 0 ≤ t → t < T → 0 ≤ i → i < 32 → entAt m2 t i = if t = root ∧ i = ixV va 2 then putX (tabE f) else if t = f then 0 else entAt m t i := by
      intro t i ht htT hi hi2'
      rw [hm2, mpS_mem]
      have hp := ent_pk (m := zer m (f.toNat * 256) fz) (t := root) (i := ixV va 2) (t' := t) (i' := i) (x := putX (tabE f)) g0.1 hi2.1 hi2.2 (by rw [zer_len]; omega) hpf.1 (by omega) ht hi hi2'
      rw [ent_zer hr hf0 ht hi hi2' (by omega)] at hp
      rw [← hp]
      show entAt (pk (zer m ((tkN (m, T, fr)).toNat * 256) fz) (slotA va 2 root).toNat (putX (tabE (tkN (m, T, fr)))) 8) t i = _
      rw [← hfe]; rfl
    obtain ⟨m4, hm4⟩ : ∃ m4, m4 = (mpS va (mpS va ((m, T, fr), [root]))).1.1 := ⟨_, rfl⟩
    have hm4l : m4.length = m.length := by rw [hm4]; exact h2.gv.len
    have e4 : ∀ t i : Int, 0 ≤ t → t < T → 0 ≤ i → i < 32 → entAt m4 t i = if t = f ∧ i = ixV va 1 then putX (tabE g) else if t = g then 0 else entAt m2 t i := by
      intro t i ht htT hi hi2'
      rw [hm4, mpS_mem]
      have hp := ent_pk (m := zer m2 (g.toNat * 256) fz) (t := f) (i := ixV va 1) (t' := t) (i' := i) (x := putX (tabE g)) hf0 hi1.1 hi1.2 (by rw [zer_len]; omega) hpg.1 (by omega) ht hi hi2'
      rw [ent_zer hm2r hg0 ht hi hi2' (by omega)] at hp
      rw [← hp]
      show entAt (pk (zer (mpS va ((m, T, fr), [root])).1.1 ((tkN (mpS va ((m, T, fr), [root])).1).toNat * 256) fz) (slotA va 1 (tkN (m, T, fr))).toNat (putX (tabE (tkN (mpS va ((m, T, fr), [root])).1))) 8) t i = _
      rw [← hge, ← hfe, ← hm2]; rfl
    have hlast : (mpS va (mpS va ((m, T, fr), [root]))).2.getD 2 0 = g := by
      show tkN (mpS va ((m, T, fr), [root])).1 = g
      exact hge.symm
    rw [hlast, hfr2, ← hm4]
    have e5 : ∀ t i : Int, 0 ≤ t → t < T → 0 ≤ i → i < 32 → entAt (pk m4 (slotA va 0 g).toNat x 8) t i = if t = g ∧ i = ixV va 0 then x else entAt m4 t i := by
      intro t i ht htT hi hi2'
      exact ent_pk hg0 hi0.1 hi0.2 (by omega) hx0 (by omega) ht hi hi2'
    have hgvE : GvOk m.length T (pkP (mpS va (mpS va ((m, T, fr), [root]))).1 (slotA va 0 g).toNat x) := h2.gv.pk _ _
    refine ⟨h2.gv.tot, by
      have := hgvE
      rw [← hlast] at this
      exact this, ?_⟩
    have hfl2 : ((freeL T fr2).length : Int) = T := by rw [freeL_len]; omega
    have hC : Chg m (pk m4 (slotA va 0 g).toNat x 8) (freeL T fr) (freeL T fr2) root [f, g] := by
      refine ⟨fun t i q0 q1 q2 q3 hc hn => ?_, by rw [freeL_len, freeL_len], fun t q0 q1 hh => b3 _ (by omega) (a3 _ (by omega) hh), fun y hy => ?_⟩
      · have n1 : t ≠ f := fun hh => hn (by simp [hh])
        have n2 : t ≠ g := fun hh => hn (by simp [hh])
        rw [e5 t i q2 (by omega) q0 q1, if_neg (fun hh => n2 hh.1), e4 t i q2 (by omega) q0 q1, if_neg (fun hh => n1 hh.1), if_neg n2, e2 t i q2 (by omega) q0 q1, if_neg (fun hh => hc hh.1), if_neg n1]
      · rcases List.mem_cons.1 hy with rfl | hy
        · exact a1
        · rw [List.mem_singleton.1 hy]
          cases hh : (freeL T fr).getD g.toNat false
          · have := a3 g.toNat (by omega) hh
            rw [b1] at this; cases this
          · rfl
    obtain ⟨kf1, kf2, kf3⟩ := tab_kind (n := f) hf0 (by omega) (lvl := 2) (by omega)
    obtain ⟨kg1, kg2, kg3⟩ := tab_kind (n := g) hg0 (by omega) (lvl := 1) (by omega)
    have w1 : ∀ i : Int, 0 ≤ i → i < 32 → entAt (pk m4 (slotA va 0 g).toNat x 8) root i = if i = ixV va 2 then putX (tabE f) else entAt m root i := by
      intro i q0 q1
      rw [e5 root i g0.1 (by omega) q0 q1, if_neg (fun hh => hroot2 hh.1), e4 root i g0.1 (by omega) q0 q1, if_neg (fun hh => hroot hh.1), if_neg hroot2, e2 root i g0.1 (by omega) q0 q1]
      by_cases hi : i = ixV va 2
      · rw [if_pos ⟨rfl, hi⟩, if_pos hi]
      · rw [if_neg (fun hh => hi hh.2), if_neg hroot, if_neg hi]
    have w2 : ∀ i : Int, 0 ≤ i → i < 32 → entAt (pk m4 (slotA va 0 g).toNat x 8) f i = if i = ixV va 1 then putX (tabE g) else 0 := by
      intro i q0 q1
      rw [e5 f i hf0 hf1 q0 q1, if_neg (fun hh => hgf hh.1.symm), e4 f i hf0 hf1 q0 q1]
      by_cases hi : i = ixV va 1
      · rw [if_pos ⟨rfl, hi⟩, if_pos hi]
      · rw [if_neg (fun hh => hi hh.2), if_neg (fun hh => hgf hh.symm), if_neg hi, e2 f i hf0 hf1 q0 q1, if_neg (fun hh => hroot hh.1.symm), if_pos rfl]
    have w3 : ∀ i : Int, 0 ≤ i → i < 32 → entAt (pk m4 (slotA va 0 g).toNat x 8) g i = if i = ixV va 0 then x else 0 := by
      intro i q0 q1
      rw [e5 g i hg0 hg1 q0 q1]
      by_cases hi : i = ixV va 0
      · rw [if_pos ⟨rfl, hi⟩, if_pos hi]
      · rw [if_neg (fun hh => hi hh.2), if_neg hi, e4 g i hg0 hg1 q0 q1, if_neg (fun hh => hgf hh.1), if_pos rfl]
    have hvg : visF (pk m4 (slotA va 0 g).toNat x 8) (freeL T fr2) 0 g = some [g] := by
      refine vis_leaf hg0 (by omega) b2 hi0.1 hi0.2 (fun j q0 q1 hj => by rw [w3 j q0 q1, if_neg hj]) ?_ ?_
      · rw [w3 _ hi0.1 hi0.2, if_pos rfl]; exact cls_leaf hk
      · rw [w3 _ hi0.1 hi0.2, if_pos rfl]; exact hxn
    have hvf : visF (pk m4 (slotA va 0 g).toNat x 8) (freeL T fr2) 1 f = some [f, g] := by
      refine vis_ptr hf0 (by omega) (b3 _ (by omega) a2) hi1.1 hi1.2 (fun j q0 q1 hj => by rw [w2 j q0 q1, if_neg hj]) ?_ ?_ ?_ hvg
      · rw [w2 _ hi1.1 hi1.2, if_pos rfl]; exact cls_ptr kg1
      · rw [w2 _ hi1.1 hi1.2, if_pos rfl]; exact kg2
      · rw [w2 _ hi1.1 hi1.2, if_pos rfl]; exact kg3
    have hP : Pth m (pk m4 (slotA va 0 g).toNat x 8) (freeL T fr2) root [f, g] (ixN va) 2 root := by
      have hnew : entAt (pk m4 (slotA va 0 g).toNat x 8) root (ixV va 2) = putX (tabE f) := by rw [w1 _ hi2.1 hi2.2, if_pos rfl]
      refine .inl ⟨rfl, fun j q0 q1 hj => ?_, he2, ?_, ?_, [f, g], ?_, ?_, fun y hy => hy⟩
      · have hj : j ≠ ixV va 2 := hj
        rw [w1 j q0 q1, if_neg hj]
      · show entAt _ root (ixV va 2) ≠ 0
        rw [hnew]; exact kf2
      · show cls (entAt _ root (ixV va 2)) 2 = some false
        rw [hnew]; exact cls_ptr kf1
      · show visF _ _ 1 (efr (entAt _ root (ixV va 2))) = _
        rw [hnew, kf3]; exact hvf
      · exact List.nodup_cons.2 ⟨by simp; exact fun hh => hgf hh.symm, by simp⟩
    obtain ⟨_, A', hA', hnd', _⟩ := ins hC (ixN_rng va) hv hnd hP
    have hpk := hgvE.pok hm256 hml hTm
    have hfr2' : (pkP (mpS va (mpS va ((m, T, fr), [root]))).1 (slotA va 0 g).toNat x).2.2 = fr2 := hfr2
    rw [hfr2'] at hpk
    have hme : (pkP (mpS va (mpS va ((m, T, fr), [root]))).1 (slotA va 0 g).toNat x).1 = pk m4 (slotA va 0 g).toNat x 8 := by rw [hm4]; rfl
    rw [hme] at hpk
    exact ⟨A', of_vis hpk hA' hnd'⟩
  · -- one table is missing
    rw [hw] at h0
    rw [mapG_done hp hs rfl, hw]
    show _ ∧ _ ∧ ∃ S', spaceT (pk (mpS va ((m, T, fr), [root, t1])).1.1 (slotA va 0 ((mpS va ((m, T, fr), [root, t1])).2.getD 2 0)).toNat x 8) T (mpS va ((m, T, fr), [root, t1])).1.2.2 root = some S'
    have h1 : MpOk m.length T (mpS va ((m, T, fr), [root, t1])) 0 := MpOk.next (va := va) h0
    obtain ⟨fr1, htk, hf0, hf1, hfine, _⟩ := MpOk.take (k := 0) h0
    obtain ⟨f, hfe⟩ : ∃ f, f = tkN (m, T, fr) := ⟨_, rfl⟩
    have htk : takeF T fr 0 = (T, fr1, f) := by rw [hfe]; exact htk
    have hfr1 : (mpS va ((m, T, fr), [root, t1])).1.2.2 = fr1 := by show (takeF T fr 0).2.1 = fr1; rw [htk]
    have hf0 : 0 ≤ f := by rw [hfe]; exact hf0
    have hf1 : f < T := by rw [hfe]; exact hf1
    obtain ⟨a1, a2, a3⟩ := take_free hok.2.2.1 htk hf0 hf1
    have g1 := hT1.rng
    have htf : (freeL T fr).getD t1.toNat false = false := by
      obtain ⟨A1, hA1⟩ := hT1
      obtain ⟨B1, hB1, _⟩ := (tbl_iff 1 t1 S1 A1).1 hA1
      obtain ⟨_, _, q, _⟩ := visStep_iff.1 hB1
      exact q
    have ht1f : t1 ≠ f := fun hh => by rw [hh, a1] at htf; cases htf
    have hpf := putX_rng (tabE f)
    obtain ⟨m2, hm2⟩ : ∃ m2, m2 = (mpS va ((m, T, fr), [root, t1])).1.1 := ⟨_, rfl⟩
    have hm2l : m2.length = m.length := by rw [hm2]; exact h1.gv.len
    have e2 : ∀ t i : Int, 0 ≤ t → t < T → 0 ≤ i → i < 32 → entAt m2 t i = if t = t1 ∧ i = ixV va 1 then putX (tabE f) else if t = f then 0 else entAt m t i := by
      intro t i ht htT hi hi2'
      rw [hm2, mpS_mem]
      have hp := ent_pk (m := zer m (f.toNat * 256) fz) (t := t1) (i := ixV va 1) (t' := t) (i' := i) (x := putX (tabE f)) g1.1 hi1.1 hi1.2 (by rw [zer_len]; omega) hpf.1 (by omega) ht hi hi2'
      rw [ent_zer hr hf0 ht hi hi2' (by omega)] at hp
      rw [← hp]
      show entAt (pk (zer m ((tkN (m, T, fr)).toNat * 256) fz) (slotA va 1 t1).toNat (putX (tabE (tkN (m, T, fr)))) 8) t i = _
      rw [← hfe]; rfl
    have hlast : (mpS va ((m, T, fr), [root, t1])).2.getD 2 0 = f := by
      show tkN (m, T, fr) = f
      exact hfe.symm
    rw [hlast, hfr1, ← hm2]
    have e5 : ∀ t i : Int, 0 ≤ t → t < T → 0 ≤ i → i < 32 → entAt (pk m2 (slotA va 0 f).toNat x 8) t i = if t = f ∧ i = ixV va 0 then x else entAt m2 t i := by
      intro t i ht htT hi hi2'
      exact ent_pk hf0 hi0.1 hi0.2 (by omega) hx0 (by omega) ht hi hi2'
    have hgvE : GvOk m.length T (pkP (mpS va ((m, T, fr), [root, t1])).1 (slotA va 0 f).toNat x) := h1.gv.pk _ _
    refine ⟨h1.gv.tot, by
      have := hgvE
      rw [← hlast] at this
      exact this, ?_⟩
    have hfl2 : ((freeL T fr1).length : Int) = T := by rw [freeL_len]; omega
    have hC : Chg m (pk m2 (slotA va 0 f).toNat x 8) (freeL T fr) (freeL T fr1) t1 [f] := by
      refine ⟨fun t i q0 q1 q2 q3 hc hn => ?_, by rw [freeL_len, freeL_len], fun t q0 q1 hh => a3 _ (by omega) hh, fun y hy => ?_⟩
      · have n1 : t ≠ f := fun hh => hn (by simp [hh])
        rw [e5 t i q2 (by omega) q0 q1, if_neg (fun hh => n1 hh.1), e2 t i q2 (by omega) q0 q1, if_neg (fun hh => hc hh.1), if_neg n1]
      · rw [List.mem_singleton.1 hy]; exact a1
    obtain ⟨kf1, kf2, kf3⟩ := tab_kind (n := f) hf0 (by omega) (lvl := 1) (by omega)
    have w1 : ∀ i : Int, 0 ≤ i → i < 32 → entAt (pk m2 (slotA va 0 f).toNat x 8) t1 i = if i = ixV va 1 then putX (tabE f) else entAt m t1 i := by
      intro i q0 q1
      rw [e5 t1 i g1.1 (by omega) q0 q1, if_neg (fun hh => ht1f hh.1), e2 t1 i g1.1 (by omega) q0 q1]
      by_cases hi : i = ixV va 1
      · rw [if_pos ⟨rfl, hi⟩, if_pos hi]
      · rw [if_neg (fun hh => hi hh.2), if_neg ht1f, if_neg hi]
    have w3 : ∀ i : Int, 0 ≤ i → i < 32 → entAt (pk m2 (slotA va 0 f).toNat x 8) f i = if i = ixV va 0 then x else 0 := by
      intro i q0 q1
      rw [e5 f i hf0 hf1 q0 q1]
      by_cases hi : i = ixV va 0
      · rw [if_pos ⟨rfl, hi⟩, if_pos hi]
      · rw [if_neg (fun hh => hi hh.2), if_neg hi, e2 f i hf0 hf1 q0 q1, if_neg (fun hh => ht1f hh.1.symm), if_pos rfl]
    have hvf : visF (pk m2 (slotA va 0 f).toNat x 8) (freeL T fr1) 0 f = some [f] := by
      refine vis_leaf hf0 (by omega) a2 hi0.1 hi0.2 (fun j q0 q1 hj => by rw [w3 j q0 q1, if_neg hj]) ?_ ?_
      · rw [w3 _ hi0.1 hi0.2, if_pos rfl]; exact cls_leaf hk
      · rw [w3 _ hi0.1 hi0.2, if_pos rfl]; exact hxn
    have hnew : entAt (pk m2 (slotA va 0 f).toNat x 8) t1 (ixV va 1) = putX (tabE f) := by rw [w1 _ hi1.1 hi1.2, if_pos rfl]
    have hP : Pth m (pk m2 (slotA va 0 f).toNat x 8) (freeL T fr1) t1 [f] (ixN va) 2 root := by
      refine .inr ⟨hr1, he2, ?_⟩
      show Pth _ _ _ _ _ _ 1 (efr (entAt m root (ixV va 2)))
      rw [← ht1]
      refine .inl ⟨rfl, fun j q0 q1 hj => ?_, he1, ?_, ?_, [f], ?_, by simp, fun y hy => hy⟩
      · have hj : j ≠ ixV va 1 := hj
        rw [w1 j q0 q1, if_neg hj]
      · show entAt _ t1 (ixV va 1) ≠ 0
        rw [hnew]; exact kf2
      · show cls (entAt _ t1 (ixV va 1)) 1 = some false
        rw [hnew]; exact cls_ptr kf1
      · show visF _ _ 0 (efr (entAt _ t1 (ixV va 1))) = _
        rw [hnew, kf3]; exact hvf
    obtain ⟨_, A', hA', hnd', _⟩ := ins hC (ixN_rng va) hv hnd hP
    have hpk := hgvE.pok hm256 hml hTm
    have hfr2' : (pkP (mpS va ((m, T, fr), [root, t1])).1 (slotA va 0 f).toNat x).2.2 = fr1 := hfr1
    rw [hfr2'] at hpk
    have hme : (pkP (mpS va ((m, T, fr), [root, t1])).1 (slotA va 0 f).toNat x).1 = pk m2 (slotA va 0 f).toNat x 8 := by rw [hm2]; rfl
    rw [hme] at hpk
    exact ⟨A', of_vis hpk hA' hnd'⟩
  · -- no table is missing
    rw [mapG_done hp hs rfl, hw]
    have hpx : pageX m va root = entAt m t2 (ixV va 0) := by unfold pageX; rw [hw]; rfl
    have g1 := hT1.rng; have g2 := hT2.rng
    have W : Way3 m T fr va root t1 t2 := ⟨hok, hw, ⟨g0.1, by omega⟩, ⟨g1.1, by omega⟩, ⟨g2.1, by omega⟩, hr1, hr2, hr3, he2, he1, fun hh => hT2.ent (ixV_rng va 0).1 (ixV_rng va 0).2 hh⟩
    obtain ⟨S', hS'⟩ := leaf_space h W hx0 hx1 hk hxn
    exact ⟨rfl, hgv.pk _ _, S', hS'⟩
end Go.Proofs.YtkgoanjemhbjgaaGreat

/- The pages of a space behind a leaf that turned. Conditions: none. -/
set_option linter.unusedVariables false
set_option linter.unusedSimpArgs false
namespace Go.Proofs.YtkgoanjemhbjgaaGreat
open Go Go.Den
theorem wds_mem {x : Int → Int} {i : Int} : ∀ k : Nat, k ≤ 32 → 32 - (k : Int) ≤ i → i < 32 → x i ∈ wds x k
  | 0, _, h1, h2 => by omega
  | k + 1, hk, h1, h2 => by
    unfold wds
    by_cases hi : i = 31 - (k : Int)
    · subst hi; simp
    · exact List.mem_cons_of_mem _ (wds_mem k (by omega) (by omega) h2)
theorem wds_two {x : Int → Int} {i i' : Int} (hne : i' ≠ i) : ∀ k : Nat, k ≤ 32 → 32 - (k : Int) ≤ i → i < 32 → 32 - (k : Int) ≤ i' → i' < 32 → ∃ pre post, wds x k = pre ++ x i :: post ∧ (x i' ∈ pre ∨ x i' ∈ post)
  | 0, _, h1, h2, _, _ => by omega
  | k + 1, hk, h1, h2, h3, h4 => by
    by_cases hi : i = 31 - (k : Int)
    · refine ⟨[], wds x k, by subst hi; rfl, .inr (wds_mem k (by omega) (by omega) h4)⟩
    · by_cases hi' : i' = 31 - (k : Int)
      · obtain ⟨pre, post, e1, _⟩ := wds_split (x := x) (x' := x) (i := i) (fun j _ _ _ => rfl) k (by omega) (by omega) h2
        exact ⟨x (31 - (k : Int)) :: pre, post, by unfold wds; rw [e1]; rfl, .inl (by subst hi'; simp)⟩
      · obtain ⟨pre, post, e1, e2⟩ := wds_two hne k (by omega) (by omega) h2 (by omega) h4
        refine ⟨x (31 - (k : Int)) :: pre, post, by unfold wds; rw [e1]; rfl, ?_⟩
        rcases e2 with e2 | e2
        · exact .inl (List.mem_cons_of_mem _ e2)
        · exact .inr e2
theorem scan_sub {lvl : Int} {rec : Int → Option (List Int)} {v : Int} (h0 : v ≠ 0) (hl : 0 < lvl) : ∀ {ws B : List Int}, scanW lvl rec ws = some B → v ∈ ws → ∃ D, rec (efr v) = some D ∧ ∀ y, y ∈ D → y ∈ B
  | [], B, h, hv => by cases hv
  | u :: r, B, h, hv => by
    obtain ⟨A, C, hA, hC, rfl⟩ := scanW_cons.1 h
    rcases List.mem_cons.1 hv with rfl | hv
    · unfold subV at hA
      rw [if_neg h0] at hA
      split at hA
      · cases hA
      · rename_i hc; exact absurd hl (cls_true hc).2
      · exact ⟨A, hA, fun y hy => by simp [hy]⟩
    · obtain ⟨D, h1, h2⟩ := scan_sub h0 hl hC hv
      exact ⟨D, h1, fun y hy => by simp [h2 y hy]⟩
theorem nat_idx (j n : Nat) : 0 ≤ ((j / 32 ^ n % 32 : Nat) : Int) ∧ ((j / 32 ^ n % 32 : Nat) : Int) < 32 := by
  have : j / 32 ^ n % 32 < 32 := Nat.mod_lt _ (by omega)
  omega
theorem desc_same {m m' : List Int} {free free' : List Bool} {c : Int} {news : List Int} (hC : Chg m m' free free' c news) : ∀ {n : Nat} {t : Int} {A : List Int}, visF m free n t = some A → c ∉ A → ∀ j, desc m' n t j = desc m n t j
  | 0, t, A, h, hc, j => by
    obtain ⟨h1, h2, h3, B, hB, ha, rfl⟩ := visStep_iff.1 h
    have hi := nat_idx j 0
    rw [Nat.pow_zero, Nat.div_one] at hi
    unfold desc
    rw [hC.ent t _ hi.1 hi.2 h1 h2 (fun hh => hc (by rw [hh]; simp)) (hC.not_new h3)]
  | n + 1, t, A, h, hc, j => by
    obtain ⟨h1, h2, h3, B, hB, ha, rfl⟩ := visStep_iff.1 h
    have hi := nat_idx j (n + 1)
    unfold desc
    rw [hC.ent t _ hi.1 hi.2 h1 h2 (fun hh => hc (by rw [hh]; simp)) (hC.not_new h3)]
    split
    · rfl
    · rename_i hz
      obtain ⟨D, hD, hs⟩ := scan_sub hz (by omega) hB (wds_mem 32 (by omega) (by omega) hi.2)
      exact desc_same hC hD (fun hh => hc (by simp [hs c hh])) j
def PL (m : List Int) (c : Int) (j0 : Nat) : Nat → Int → Prop
  | 0, t => t = c
  | n + 1, t => t ≠ c ∧ entAt m t ((j0 / 32 ^ (n + 1) % 32 : Nat) : Int) ≠ 0 ∧ PL m c j0 n (efr (entAt m t ((j0 / 32 ^ (n + 1) % 32 : Nat) : Int)))
theorem pl_mem {m : List Int} {free : List Bool} {c : Int} {j0 : Nat} : ∀ {n : Nat} {t : Int} {A : List Int}, visF m free n t = some A → PL m c j0 n t → c ∈ A
  | 0, t, A, h, hp => by
    obtain ⟨h1, h2, h3, B, hB, ha, rfl⟩ := visStep_iff.1 h
    have hp : t = c := hp
    rw [hp]; simp
  | n + 1, t, A, h, ⟨_, hz, hp⟩ => by
    obtain ⟨h1, h2, h3, B, hB, ha, rfl⟩ := visStep_iff.1 h
    have hi := nat_idx j0 (n + 1)
    obtain ⟨D, hD, hs⟩ := scan_sub hz (by omega) hB (wds_mem 32 (by omega) (by omega) hi.2)
    simp [hs c (pl_mem hD hp)]
theorem desc_chg {m m' : List Int} {free free' : List Bool} {c x : Int} {j0 : Nat} (hC : Chg m m' free free' c []) (hx : x ≠ 0) (hent : ∀ i : Int, 0 ≤ i → i < 32 → entAt m' c i = if i = ((j0 % 32 : Nat) : Int) then x else entAt m c i) :
    ∀ {n : Nat} {t : Int} {A : List Int}, visF m free n t = some A → A.Nodup → PL m c j0 n t → ∀ j, ((∀ l, l ≤ n → j / 32 ^ l % 32 = j0 / 32 ^ l % 32) → desc m' n t j = some x) ∧ ((∃ l, l ≤ n ∧ j / 32 ^ l % 32 ≠ j0 / 32 ^ l % 32) → desc m' n t j = desc m n t j)
  | 0, t, A, h, hnd, hp, j => by
    have hp : t = c := hp
    subst hp
    have hi := nat_idx j 0
    rw [Nat.pow_zero, Nat.div_one] at hi
    constructor
    · intro hl
      have := hl 0 (Nat.le_refl _)
      rw [Nat.pow_zero, Nat.div_one, Nat.div_one] at this
      have he : entAt m' t ((j % 32 : Nat) : Int) = x := by rw [hent _ hi.1 hi.2, this, if_pos rfl]
      unfold desc
      rw [he, if_neg hx]
    · rintro ⟨l, hl, hne⟩
      obtain rfl : l = 0 := by omega
      rw [Nat.pow_zero, Nat.div_one, Nat.div_one] at hne
      have he : entAt m' t ((j % 32 : Nat) : Int) = entAt m t ((j % 32 : Nat) : Int) := by rw [hent _ hi.1 hi.2, if_neg (by omega)]
      unfold desc
      rw [he]
  | n + 1, t, A, h, hnd, ⟨hct, hz, hp⟩, j => by
    obtain ⟨h1, h2, h3, B, hB, ha, rfl⟩ := visStep_iff.1 h
    have hi := nat_idx j (n + 1)
    have hi0 := nat_idx j0 (n + 1)
    have hEj : entAt m' t ((j / 32 ^ (n + 1) % 32 : Nat) : Int) = entAt m t ((j / 32 ^ (n + 1) % 32 : Nat) : Int) := hC.ent t _ hi.1 hi.2 h1 h2 hct (by simp)
    obtain ⟨hn1, hn2⟩ := List.nodup_cons.1 hnd
    by_cases hidx : j / 32 ^ (n + 1) % 32 = j0 / 32 ^ (n + 1) % 32
    · obtain ⟨pre, post, e1, _⟩ := wds_split (x := entAt m t) (x' := entAt m t) (i := ((j0 / 32 ^ (n + 1) % 32 : Nat) : Int)) (fun j _ _ _ => rfl) 32 (by omega) (by omega) hi0.2
      rw [e1] at hB
      obtain ⟨A0, C, hA0, hC2, rfl⟩ := scanW_app.1 hB
      obtain ⟨A1, A2, hA1, hA2, rfl⟩ := scanW_cons.1 hC2
      obtain ⟨hn3, hn4, hn5⟩ := List.nodup_append.1 hn2
      obtain ⟨hn6, hn7, hn8⟩ := List.nodup_append.1 hn4
      have hrec : visF m free n (efr (entAt m t ((j0 / 32 ^ (n + 1) % 32 : Nat) : Int))) = some A1 := by
        unfold subV at hA1
        rw [if_neg hz] at hA1
        split at hA1
        · cases hA1
        · rename_i hc; have := (cls_true hc).2; omega
        · exact hA1
      obtain ⟨g1, g2⟩ := desc_chg hC hx hent hrec hn6 hp j
      rw [← hidx] at hz g1 g2
      have hd : desc m' (n + 1) t j = desc m' n (efr (entAt m t ((j / 32 ^ (n + 1) % 32 : Nat) : Int))) j := by
        rw [desc_sub (by rw [hEj]; exact hz), hEj]
      have hd2 : desc m (n + 1) t j = desc m n (efr (entAt m t ((j / 32 ^ (n + 1) % 32 : Nat) : Int))) j := desc_sub hz
      rw [hd, hd2]
      refine ⟨fun hl => g1 (fun l hl2 => hl l (by omega)), ?_⟩
      rintro ⟨l, hl, hne⟩
      exact g2 ⟨l, by
        by_cases hh : l = n + 1
        · subst hh; exact absurd hidx hne
        · omega, hne⟩
    · refine ⟨fun hl => absurd (hl (n + 1) (Nat.le_refl _)) hidx, fun _ => ?_⟩
      by_cases hzj : entAt m t ((j / 32 ^ (n + 1) % 32 : Nat) : Int) = 0
      · rw [desc_none (by rw [hEj]; exact hzj), desc_none hzj]
      · rw [desc_sub (by rw [hEj]; exact hzj), hEj, desc_sub hzj]
        obtain ⟨pre, post, e1, e2⟩ := wds_two (x := entAt m t) (i := ((j0 / 32 ^ (n + 1) % 32 : Nat) : Int)) (i' := ((j / 32 ^ (n + 1) % 32 : Nat) : Int)) (by omega) 32 (by omega) (by omega) hi0.2 (by omega) hi.2
        rw [e1] at hB
        obtain ⟨A0, C, hA0, hC2, rfl⟩ := scanW_app.1 hB
        obtain ⟨A1, A2, hA1, hA2, rfl⟩ := scanW_cons.1 hC2
        obtain ⟨hn3, hn4, hn5⟩ := List.nodup_append.1 hn2
        obtain ⟨hn6, hn7, hn8⟩ := List.nodup_append.1 hn4
        have hrec : visF m free n (efr (entAt m t ((j0 / 32 ^ (n + 1) % 32 : Nat) : Int))) = some A1 := by
          unfold subV at hA1
          rw [if_neg hz] at hA1
          split at hA1
          · cases hA1
          · rename_i hc; have := (cls_true hc).2; omega
          · exact hA1
        have hcA := pl_mem hrec hp
        rcases e2 with e2 | e2
        · obtain ⟨D, hD, hs⟩ := scan_sub hzj (by omega) hA0 e2
          exact desc_same hC hD (fun hh => hn5 c (hs c hh) c (by simp [hcA]) rfl) j
        · obtain ⟨D, hD, hs⟩ := scan_sub hzj (by omega) hA2 e2
          exact desc_same hC hD (fun hh => hn8 c hcA c (hs c hh) rfl) j
theorem ixV_page {j : Nat} {n : Nat} (hn : n ≤ 2) : ixV ((256 * j : Nat) : Int) (n : Int) = ((j / 32 ^ n % 32 : Nat) : Int) := by
  unfold ixV
  have : n = 0 ∨ n = 1 ∨ n = 2 := by omega
  rcases this with rfl | rfl | rfl
  · show ((256 * j : Nat) : Int) / (256 * 1) % 32 = ((j / 1 % 32 : Nat) : Int); omega
  · show ((256 * j : Nat) : Int) / (256 * 32) % 32 = ((j / 32 % 32 : Nat) : Int); omega
  · show ((256 * j : Nat) : Int) / (256 * 1024) % 32 = ((j / 1024 % 32 : Nat) : Int); omega
/-- The pages behind a leaf that turned. -/
theorem leaf_desc {m : List Int} {T : Int} {fr : List DBlock} {root t1 t2 x : Int} {S : List Int} {j0 : Nat} (hj : j0 < 32768) (h : spaceT m T fr root = some S) (W : Way3 m T fr ((256 * j0 : Nat) : Int) root t1 t2) (hx0 : 0 ≤ x) (hx1 : x < 1048576) (hxn : x ≠ 0) :
    ∀ j, j < 32768 → desc (pk m (slotA ((256 * j0 : Nat) : Int) 0 t2).toNat x 8) 2 root j = if j = j0 then some x else desc m 2 root j := by
  obtain ⟨hv, hnd⟩ := vis_of h
  have hroom : 0 ≤ t2 ∧ t2 * 256 + 256 ≤ m.length ∧ m.length ≤ 262144 := W.room 0
  have hi0 := ixV_rng ((256 * j0 : Nat) : Int) 0
  have i0 : ixV ((256 * j0 : Nat) : Int) 0 = ((j0 % 32 : Nat) : Int) := by have := ixV_page (j := j0) (n := 0) (by omega); rw [Nat.pow_zero, Nat.div_one] at this; exact this
  have i1 : ixV ((256 * j0 : Nat) : Int) 1 = ((j0 / 32 ^ 1 % 32 : Nat) : Int) := ixV_page (n := 1) (by omega)
  have i2 : ixV ((256 * j0 : Nat) : Int) 2 = ((j0 / 32 ^ 2 % 32 : Nat) : Int) := ixV_page (n := 2) (by omega)
  have hent : ∀ t i : Int, 0 ≤ t → 0 ≤ i → i < 32 → entAt (pk m (slotA ((256 * j0 : Nat) : Int) 0 t2).toNat x 8) t i = if t = t2 ∧ i = ixV ((256 * j0 : Nat) : Int) 0 then x else entAt m t i := fun t i ht hi hi2 => ent_pk hroom.1 hi0.1 hi0.2 hroom.2.1 hx0 (by omega) ht hi hi2
  have hC : Chg m (pk m (slotA ((256 * j0 : Nat) : Int) 0 t2).toNat x 8) (freeL T fr) (freeL T fr) t2 [] := ⟨fun t i h0 h1 h2 h3 hc hn => by rw [hent t i h2 h0 h1, if_neg (fun hh => hc hh.1)], rfl, fun t _ _ hh => hh, fun f hf => by cases hf⟩
  obtain ⟨q1, q2⟩ := way3_eq W.e2 W.e1 W.hw
  have e2 := W.e2
  have e1 := W.e1
  rw [i2] at e2 q1
  rw [i1] at e1 q2
  have hP : PL m t2 j0 2 root := by
    refine ⟨W.d02, e2, ?_⟩
    show PL m t2 j0 1 (efr (entAt m root ((j0 / 32 ^ 2 % 32 : Nat) : Int)))
    rw [q1]
    refine ⟨W.d12, e1, ?_⟩
    exact q2
  intro j hj2
  obtain ⟨g1, g2⟩ := desc_chg hC hxn (fun i h0 h1 => by rw [hent t2 i hroom.1 h0 h1, i0]; by_cases hi : i = ((j0 % 32 : Nat) : Int); rw [if_pos ⟨rfl, hi⟩, if_pos hi]; rw [if_neg (fun hh => hi hh.2), if_neg hi]) hv hnd hP j
  by_cases hjj : j = j0
  · rw [if_pos hjj]
    exact g1 (fun l _ => by rw [hjj])
  · rw [if_neg hjj]
    refine g2 ?_
    by_cases a0 : j / 32 ^ 0 % 32 = j0 / 32 ^ 0 % 32
    · by_cases a1 : j / 32 ^ 1 % 32 = j0 / 32 ^ 1 % 32
      · refine ⟨2, Nat.le_refl _, fun a2 => hjj ?_⟩
        have p0 : (32 : Nat) ^ 0 = 1 := rfl
        have p1 : (32 : Nat) ^ 1 = 32 := rfl
        have p2 : (32 : Nat) ^ 2 = 1024 := rfl
        rw [p0] at a0; rw [p1] at a1; rw [p2] at a2
        omega
      · exact ⟨1, by omega, a1⟩
    · exact ⟨0, by omega, a0⟩
end Go.Proofs.YtkgoanjemhbjgaaGreat

/- SpaceFork: what it comes to. Conditions: none. -/
set_option linter.unusedVariables false
set_option linter.unusedSimpArgs false
namespace Go.Proofs.YtkgoanjemhbjgaaGreat
open Go Go.Den
/-! ## Pages and the way to them -/
theorem desc_page {m : List Int} {root x : Int} {j : Nat} (h : desc m 2 root j = some x) : x ≠ 0 ∧ pageX m ((256 * j : Nat) : Int) root = x := by
  have i0 : ixV ((256 * j : Nat) : Int) 0 = ((j % 32 : Nat) : Int) := by have := ixV_page (j := j) (n := 0) (by omega); rw [Nat.pow_zero, Nat.div_one] at this; exact this
  have i1 : ixV ((256 * j : Nat) : Int) ((0 + 1 : Nat) : Int) = ((j / 32 ^ (0 + 1) % 32 : Nat) : Int) := ixV_page (n := 1) (by omega)
  have i2 : ixV ((256 * j : Nat) : Int) ((1 + 1 : Nat) : Int) = ((j / 32 ^ (1 + 1) % 32 : Nat) : Int) := ixV_page (n := 2) (by omega)
  rw [desc] at h
  split at h
  · cases h
  rename_i h2
  rw [desc] at h
  split at h
  · cases h
  rename_i h1
  rw [desc] at h
  split at h
  · cases h
  rename_i h0
  injection h with h
  have w2 := wayF_s (m := m) (va := ((256 * j : Nat) : Int)) (n := 1) (t := root) (by rw [i2]; exact h2)
  rw [i2] at w2
  have w1 := wayF_s (m := m) (va := ((256 * j : Nat) : Int)) (n := 0) (t := efr (entAt m root ((j / 32 ^ (1 + 1) % 32 : Nat) : Int))) (by rw [i1]; exact h1)
  rw [i1] at w1
  have hw : wayF m ((256 * j : Nat) : Int) 2 root = [root, efr (entAt m root ((j / 32 ^ (1 + 1) % 32 : Nat) : Int)), efr (entAt m (efr (entAt m root ((j / 32 ^ (1 + 1) % 32 : Nat) : Int))) ((j / 32 ^ (0 + 1) % 32 : Nat) : Int))] := by
    show wayF m _ (1 + 1) root = _
    rw [w2]
    show root :: wayF m _ (0 + 1) _ = _
    rw [w1]; rfl
  refine ⟨by rw [← h]; exact h0, ?_⟩
  unfold pageX
  rw [hw, i0]
  exact h
/-! ## A page made for reading only -/
def roE (x : Int) : DEntry := ⟨ebit x 0, ebit x 1, false, ebit x 3, ebit x 4, ebit x 5, ebit x 6, true, efr x⟩
def roX (x : Int) : Int := if ebit x 2 then putX (roE x) else x
theorem leaf_of {x : Int} (h0 : 0 ≤ x) (h : kindS x 0 = 1) : x < 1048576 ∧ leafB (entOf x) = true ∧ (ebit x 2 = true → leafB (roE x) = true) := by
  obtain ⟨b0, hx, b12, b123⟩ := kind_leaf h
  have hf : ∀ e : DEntry, e.Frame = efr x → frOk e = true := fun e he => by
    unfold frOk
    rw [he]
    have := efr_rng x
    rw [Bool.and_eq_true, decide_eq_true_eq, decide_eq_true_eq]; omega
  refine ⟨hx, ?_, fun h2 => ?_⟩
  · unfold leafB
    rw [hf _ rfl]
    show (true && ebit x 0 && (ebit x 1 || ebit x 2 || ebit x 3) && !(ebit x 2 && !ebit x 1)) = true
    rw [b0, b123]
    revert b12; generalize ebit x 1 = a; generalize ebit x 2 = b; intro b12; cases a <;> cases b <;> simp_all
  · unfold leafB
    rw [hf _ rfl]
    show (true && ebit x 0 && (ebit x 1 || false || ebit x 3) && !(false && !ebit x 1)) = true
    rw [b0, b12 h2]; rfl
theorem ro_kind {x : Int} (h0 : 0 ≤ x) (h : kindS x 0 = 1) : 0 ≤ roX x ∧ roX x < 1048576 ∧ kindS (roX x) 0 = 1 ∧ roX x ≠ 0 := by
  obtain ⟨h1, h2, h3⟩ := leaf_of h0 h
  unfold roX
  split
  · rename_i hb
    have := leaf_kind (h3 hb)
    have hr := putX_rng (roE x)
    exact ⟨hr.1, hr.2, this.1, this.2⟩
  · exact ⟨h0, h1, h, fun hz => by rw [hz, kind0] at h; omega⟩
noncomputable def roS (root : Int) (p : List Int × Int × List DBlock) (l : Leaf) : List Int × Int × List DBlock :=
  if ebit l.x 2 then pkP p (slotA l.va 0 ((wayF p.1 l.va 2 root).getD 2 0)).toNat (putX (roE l.x)) else p
def roL (l : Leaf) : Leaf := ⟨l.va, l.lvl, roX l.x⟩
noncomputable def mpL (root : Int) (p : List Int × Int × List DBlock) (l : Leaf) : List Int × Int × List DBlock := (mapG p.1 p.2.1 p.2.2 root l.va l.x).1
noncomputable def forkG (m : List Int) (T : Int) (fr : List DBlock) (root : Int) (L : List Leaf) : (List Int × Int × List DBlock) × Int :=
  ((L.map roL).foldl (mpL (tkN (L.foldl (roS root) (m, T, fr)))) (tkP (L.foldl (roS root) (m, T, fr))), tkN (L.foldl (roS root) (m, T, fr)))
noncomputable def forkF (m : List Int) (T : Int) (fr : List DBlock) (root : Int) : (List Int × Int × List DBlock) × Int :=
  match spaceT m T fr root with
  | none => (([], 0, []), -1)
  | some S => if sumO fr < (S.length : Int) then ((m, T, fr), -1) else forkG m T fr root (seg (desc m 2 root) 0 pgN)
/-! ## The list of pages -/
theorem seg_lt {f : Nat → Option Int} {b : Nat} : ∀ {k : Nat} {l : Leaf}, l ∈ seg f b k → l.va < ((256 * (b + k) : Nat) : Int)
  | k, l, h => by
    obtain ⟨j, x, h1, _, rfl⟩ := seg_mem h
    show ((256 * j : Nat) : Int) < _
    omega
theorem seg_pair (f : Nat → Option Int) (b : Nat) : ∀ k, (seg f b k).Pairwise (fun a c => a.va < c.va)
  | 0 => List.Pairwise.nil
  | k + 1 => by
    rw [seg]
    refine List.pairwise_append.2 ⟨seg_pair f b k, ?_, fun a ha c hc => ?_⟩
    · split <;> simp
    · cases hf : f (b + k) with
      | none => rw [hf] at hc; simp at hc
      | some x =>
        rw [hf] at hc
        rw [List.mem_singleton.1 hc]
        exact seg_lt ha
theorem seg_map (f : Nat → Option Int) (g : Int → Int) (b : Nat) : ∀ k, seg (fun j => (f j).map g) b k = (seg f b k).map (fun l => ⟨l.va, l.lvl, g l.x⟩)
  | 0 => rfl
  | k + 1 => by
    rw [seg, seg, seg_map f g b k, List.map_append]
    cases f (b + k) <;> simp
/-- A state of the first pass: the pages done are the first k. -/
structure RoOk (m : List Int) (T : Int) (fr : List DBlock) (root : Int) (L : List Leaf) (k : Nat) (p : List Int × Int × List DBlock) : Prop where
  frs : p.2 = (T, fr)
  gv : GvOk m.length T p
  sp : ∃ S, spaceT p.1 T fr root = some S
  ds : ∀ j, j < 32768 → desc p.1 2 root j = if ∃ l, l ∈ L.take k ∧ l.va = ((256 * j : Nat) : Int) then (desc m 2 root j).map roX else desc m 2 root j
theorem desc_kind {m : List Int} {free : List Bool} {j : Nat} : ∀ {n : Nat} {t x : Int} {S : List Int}, Tab m free n t S → desc m n t j = some x → kindS x 0 = 1
  | 0, t, x, S, hT, h => by
    have hi := nat_idx j 0
    rw [Nat.pow_zero, Nat.div_one] at hi
    unfold desc at h
    split at h
    · cases h
    · rename_i hz
      injection h with h; subst h
      exact hT.leaf hi.1 hi.2 hz
  | n + 1, t, x, S, hT, h => by
    have hi := nat_idx j (n + 1)
    unfold desc at h
    split at h
    · cases h
    · rename_i hz
      obtain ⟨_, S1, hT1, _⟩ := hT.sub hi.1 hi.2 hz
      exact desc_kind hT1 h
/-- One step of the first pass: where the page is, and the state behind it. -/
theorem ro_step {m : List Int} {T : Int} {fr : List DBlock} {root : Int} {k : Nat} {p : List Int × Int × List DBlock} {l : Leaf} (hr : ∀ x, x ∈ m → 0 ≤ x ∧ x ≤ 255) (hk : (seg (desc m 2 root) 0 pgN)[k]? = some l) (h : RoOk m T fr root (seg (desc m 2 root) 0 pgN) k p) :
    RoOk m T fr root (seg (desc m 2 root) 0 pgN) (k + 1) (roS root p l) ∧ l.lvl = 0 ∧ 0 ≤ l.va ∧ l.va < 8388608 ∧ kindS l.x 0 = 1 ∧ 0 ≤ l.x ∧ ∃ S t1 t2, spaceT p.1 T fr root = some S ∧ Way3 p.1 T fr l.va root t1 t2 ∧ pageX p.1 l.va root = l.x ∧ l.x ≠ 0 := by
  have hN := pgN_eq
  obtain ⟨hfrs, hgv, ⟨S, hS⟩, hds⟩ := h
  obtain ⟨j0, x, hj, hx, rfl⟩ := seg_mem (List.mem_of_getElem? hk)
  rw [Nat.zero_add] at hj
  have hj : j0 < 32768 := by omega
  have hnot : ¬ ∃ l, l ∈ (seg (desc m 2 root) 0 pgN).take k ∧ l.va = ((256 * j0 : Nat) : Int) := by
    rintro ⟨l, hl, hva⟩
    obtain ⟨i, hi⟩ := List.mem_iff_getElem?.1 hl
    have hik : i < k := by
      rcases Nat.lt_or_ge i k with hh | hh
      · exact hh
      · rw [List.getElem?_take, if_neg (by omega)] at hi; cases hi
    rw [List.getElem?_take, if_pos hik] at hi
    obtain ⟨hi1, hi2⟩ := List.getElem?_eq_some_iff.1 hi
    obtain ⟨hk1, hk2⟩ := List.getElem?_eq_some_iff.1 hk
    have := List.pairwise_iff_getElem.1 (seg_pair (desc m 2 root) 0 pgN) i k hi1 hk1 hik
    rw [hi2, hk2, hva] at this
    exact absurd this (Int.lt_irrefl _)
  have hdp : desc p.1 2 root j0 = some x := by rw [hds j0 hj, if_neg hnot]; exact hx
  obtain ⟨hxn, hpx⟩ := desc_page hdp
  have hT := tab_root hS
  have hkd := desc_kind hT hdp
  have hx0 := (desc_rng hr hx).1
  obtain ⟨t1, t2, W, _⟩ := way3 hS (by rw [hpx]; exact hxn)
  refine ⟨?_, rfl, by show 0 ≤ ((256 * j0 : Nat) : Int); omega, by show ((256 * j0 : Nat) : Int) < _; omega, hkd, hx0, S, t1, t2, hS, W, hpx, hxn⟩
  have htake : (seg (desc m 2 root) 0 pgN).take (k + 1) = (seg (desc m 2 root) 0 pgN).take k ++ [⟨((256 * j0 : Nat) : Int), 0, x⟩] := by rw [List.take_add_one, hk]; rfl
  have hmem : ∀ j : Nat, (∃ l, l ∈ (seg (desc m 2 root) 0 pgN).take (k + 1) ∧ l.va = ((256 * j : Nat) : Int)) ↔ (∃ l, l ∈ (seg (desc m 2 root) 0 pgN).take k ∧ l.va = ((256 * j : Nat) : Int)) ∨ j = j0 := by
    intro j
    rw [htake]
    constructor
    · rintro ⟨l, hl, hva⟩
      rcases List.mem_append.1 hl with hl | hl
      · exact .inl ⟨l, hl, hva⟩
      · rw [List.mem_singleton.1 hl] at hva
        have hva : ((256 * j0 : Nat) : Int) = ((256 * j : Nat) : Int) := hva
        exact .inr (by omega)
    · rintro (⟨l, hl, hva⟩ | rfl)
      · exact ⟨l, by simp [hl], hva⟩
      · exact ⟨_, List.mem_append_right _ (List.mem_singleton.2 rfl), rfl⟩
  obtain ⟨r0, r1, r2, r3⟩ := ro_kind hx0 hkd
  unfold roS
  by_cases hb : ebit x 2 = true
  · have hro : roX x = putX (roE x) := by unfold roX; rw [if_pos hb]
    rw [if_pos hb, W.hw]
    rw [hro] at r0 r1 r2 r3
    obtain ⟨S', hS'⟩ := leaf_space hS W r0 r1 r2 r3
    refine ⟨hfrs, hgv.pk _ _, ⟨S', hS'⟩, fun j hj2 => ?_⟩
    have := leaf_desc hj hS W r0 r1 r3 j hj2
    show desc (pk p.1 (slotA ((256 * j0 : Nat) : Int) 0 t2).toNat (putX (roE x)) 8) 2 root j = _
    rw [this]
    by_cases hjj : j = j0
    · rw [if_pos hjj, if_pos ((hmem j).2 (.inr hjj)), hjj, hx, Option.map_some, hro]
    · rw [if_neg hjj, hds j hj2]
      by_cases hq : ∃ l, l ∈ (seg (desc m 2 root) 0 pgN).take k ∧ l.va = ((256 * j : Nat) : Int)
      · rw [if_pos hq, if_pos ((hmem j).2 (.inl hq))]
      · rw [if_neg hq, if_neg (fun hh => by rcases (hmem j).1 hh with hh | hh; exact hq hh; exact hjj hh)]
  · rw [if_neg hb]
    refine ⟨hfrs, hgv, ⟨S, hS⟩, fun j hj2 => ?_⟩
    rw [hds j hj2]
    by_cases hjj : j = j0
    · rw [hjj, if_neg hnot, if_pos ((hmem j0).2 (.inr rfl)), hx, Option.map_some]
      unfold roX; rw [if_neg hb]
    · by_cases hq : ∃ l, l ∈ (seg (desc m 2 root) 0 pgN).take k ∧ l.va = ((256 * j : Nat) : Int)
      · rw [if_pos hq, if_pos ((hmem j).2 (.inl hq))]
      · rw [if_neg hq, if_neg (fun hh => by rcases (hmem j).1 hh with hh | hh; exact hq hh; exact hjj hh)]
end Go.Proofs.YtkgoanjemhbjgaaGreat

/- SpaceFork: the second pass. Conditions: none. -/
set_option linter.unusedVariables false
set_option linter.unusedSimpArgs false
namespace Go.Proofs.YtkgoanjemhbjgaaGreat
open Go Go.Den
theorem ro_all {m : List Int} {T : Int} {fr : List DBlock} {root : Int} {S : List Int} (hr : ∀ x, x ∈ m → 0 ≤ x ∧ x ≤ 255) (hf : fr.length ≤ 1048576) (h : spaceT m T fr root = some S) : ∀ k, k ≤ (seg (desc m 2 root) 0 pgN).length → RoOk m T fr root (seg (desc m 2 root) 0 pgN) k (((seg (desc m 2 root) 0 pgN).take k).foldl (roS root) (m, T, fr))
  | 0, _ => by
    refine ⟨rfl, gvOk0 (spaceT_mem h).1 hr hf, ⟨S, h⟩, fun j hj => ?_⟩
    rw [if_neg (by rintro ⟨l, hl, _⟩; simp at hl)]
    rfl
  | k + 1, hk => by
    have hx : (seg (desc m 2 root) 0 pgN)[k]? = some ((seg (desc m 2 root) 0 pgN)[k]'(by omega)) := List.getElem?_eq_getElem (by omega)
    have := (ro_step hr hx (ro_all hr hf h k (by omega))).1
    rw [List.take_add_one, hx, List.foldl_append]
    exact this
theorem ro_take {m : List Int} {T : Int} {fr : List DBlock} {root : Int} {k : Nat} {l : Leaf} {L : List Leaf} (hk : L[k]? = some l) : (L.take (k + 1)).foldl (roS root) (m, T, fr) = roS root ((L.take k).foldl (roS root) (m, T, fr)) l := by
  rw [List.take_add_one, hk, List.foldl_append]; rfl
/-- The pages behind the first pass. -/
theorem ro_leaves {m : List Int} {T : Int} {fr : List DBlock} {root : Int} {p : List Int × Int × List DBlock} (h : RoOk m T fr root (seg (desc m 2 root) 0 pgN) (seg (desc m 2 root) 0 pgN).length p) : seg (desc p.1 2 root) 0 pgN = (seg (desc m 2 root) 0 pgN).map roL := by
  have hN := pgN_eq
  have h1 : seg (desc p.1 2 root) 0 pgN = seg (fun j => (desc m 2 root j).map roX) 0 pgN := by
    refine seg_congr _ (fun j _ hj => ?_)
    rw [h.ds j (by omega), List.take_length]
    by_cases hq : ∃ l, l ∈ seg (desc m 2 root) 0 pgN ∧ l.va = ((256 * j : Nat) : Int)
    · rw [if_pos hq]
    · rw [if_neg hq]
      cases hd : desc m 2 root j with
      | none => rfl
      | some x =>
        exfalso
        refine hq ⟨⟨((256 * j : Nat) : Int), 0, x⟩, ?_, rfl⟩
        have hs : seg (desc m 2 root) 0 pgN = seg (desc m 2 root) 0 (j + (1 + (pgN - j - 1))) := by rw [show j + (1 + (pgN - j - 1)) = pgN by omega]
        rw [hs, seg_add, seg_add, Nat.zero_add, seg_some hd]
        simp
  rw [h1, seg_map]
  rfl
/-- A new root: a space without pages. -/
theorem new_root {m : List Int} {T n : Int} {fr fr' : List DBlock} (hok : POk m T fr) (hr : ∀ x, x ∈ m → 0 ≤ x ∧ x ≤ 255) (ht : takeF T fr 0 = (T, fr', n)) (h0 : 0 ≤ n) (h1 : n < T) (hfine : Fine T fr') : spaceT (zer m (n.toNat * 256) fz) T fr' n = some [n] := by
  have hml := hok.1; have hml2 := hok.2.1; have hmt := hok.2.2.2
  obtain ⟨a1, a2, a3⟩ := take_free hok.2.2.1 ht h0 h1
  refine of_vis ⟨by rw [zer_len]; exact hml, by rw [zer_len]; exact hml2, hfine.1, by rw [zer_len]; exact hmt⟩ ?_ (by simp)
  refine visStep_iff.2 ⟨h0, by rw [freeL_len]; omega, a2, [], ?_, .inl rfl, rfl⟩
  exact scan_zero 32 (by omega) (fun j g1 g2 => by rw [ent_zer hr h0 h0 (by omega) g2 (by omega), if_pos rfl])
/-- A state of the second pass. -/
structure MqOk (n : Nat) (T f : Int) (p : List Int × Int × List DBlock) : Prop where
  tot : p.2.1 = T
  gv : GvOk n T p
  sp : ∃ S, spaceT p.1 T p.2.2 f = some S
theorem mq_step {n : Nat} {T f : Int} {p : List Int × Int × List DBlock} {l : Leaf} (h : MqOk n T f p) (hx0 : 0 ≤ l.x) (hx1 : l.x < 1048576) (hk : kindS l.x 0 = 1) (hxn : l.x ≠ 0) : MqOk n T f (mpL f p l) := by
  obtain ⟨S, hS⟩ := h.sp
  obtain ⟨g1, g2, S', g3⟩ := map_space (va := l.va) hS h.gv.rng h.gv.few hx0 hx1 hk hxn
  have ht := h.tot
  unfold mpL
  rw [ht]
  refine ⟨g1, by rw [← h.gv.len]; exact g2, S', g3⟩
theorem fork_take {m : List Int} {T : Int} {fr : List DBlock} {root : Int} {S : List Int} {p : List Int × Int × List DBlock} (hp : RoOk m T fr root (seg (desc m 2 root) 0 pgN) (seg (desc m 2 root) 0 pgN).length p) (hS : spaceT m T fr root = some S) (hs : ¬ sumO fr < (S.length : Int)) :
    ∃ fr', takeF T fr 0 = (T, fr', tkN p) ∧ 0 ≤ tkN p ∧ tkN p < T ∧ MqOk m.length T (tkN p) (tkP p) ∧ tkP p = (zer p.1 ((tkN p).toNat * 256) fz, T, fr') := by
  obtain ⟨hfrs, hgv, ⟨S1, hS1⟩, _⟩ := hp
  have hne : 1 ≤ (S.length : Int) := by
    obtain ⟨hv, _⟩ := vis_of hS
    obtain ⟨_, _, _, B, _, _, rfl⟩ := visStep_iff.1 hv
    rw [List.length_cons]; omega
  have hok := (spaceT_mem hS1).1
  have hpT : p.2.1 = T := by rw [hfrs]
  have hpf : p.2.2 = fr := by rw [hfrs]
  obtain ⟨n, fr', h1, h2, h3, h4, _⟩ := take_good hok.2.2.1 (by omega)
  have hn : tkN p = n := by unfold tkN; rw [hpT, hpf, h1]
  have hP : tkP p = (zer p.1 ((tkN p).toNat * 256) fz, T, fr') := by unfold tkP; rw [hpT, hpf, h1]
  refine ⟨fr', by rw [hn]; exact h1, by omega, by omega, ⟨by rw [hP], ?_, ?_⟩, hP⟩
  · rw [hP]
    exact ⟨by show (zer _ _ _).length = m.length; rw [zer_len]; exact hgv.len, rfl, h4.1, by have := h4.2; show fr'.length ≤ 1048576; omega, fun y hy => zer_rng hgv.rng _ _ y hy⟩
  · rw [hP, hn]
    exact ⟨[n], new_root hok hgv.rng h1 h2 h3 h4⟩
/-- The pages that are put into the new space. -/
theorem ro_leaf_ok {m : List Int} {T : Int} {fr : List DBlock} {root : Int} {S : List Int} (hr : ∀ x, x ∈ m → 0 ≤ x ∧ x ≤ 255) (h : spaceT m T fr root = some S) : ∀ l, l ∈ (seg (desc m 2 root) 0 pgN).map roL → 0 ≤ l.va ∧ l.va < 8388608 ∧ l.va % 256 = 0 ∧ 0 ≤ l.x ∧ l.x < 1048576 ∧ kindS l.x 0 = 1 ∧ l.x ≠ 0 := by
  intro l hl
  have hN := pgN_eq
  obtain ⟨l0, hl0, rfl⟩ := List.mem_map.1 hl
  obtain ⟨j, x, hj, hx, rfl⟩ := seg_mem hl0
  have hkd := desc_kind (tab_root h) hx
  have hx0 := (desc_rng hr hx).1
  obtain ⟨r0, r1, r2, r3⟩ := ro_kind hx0 hkd
  exact ⟨by show 0 ≤ ((256 * j : Nat) : Int); omega, by show ((256 * j : Nat) : Int) < _; omega, by show ((256 * j : Nat) : Int) % 256 = 0; omega, r0, r1, r2, r3⟩
theorem mq_all {n : Nat} {T f : Int} : ∀ {L : List Leaf} {p : List Int × Int × List DBlock}, (∀ l, l ∈ L → 0 ≤ l.x ∧ l.x < 1048576 ∧ kindS l.x 0 = 1 ∧ l.x ≠ 0) → MqOk n T f p → MqOk n T f (L.foldl (mpL f) p)
  | [], p, hL, h => h
  | l :: r, p, hL, h => mq_all (L := r) (fun y hy => hL y (by simp [hy])) (mq_step h (hL l (by simp)).1 (hL l (by simp)).2.1 (hL l (by simp)).2.2.1 (hL l (by simp)).2.2.2)
end Go.Proofs.YtkgoanjemhbjgaaGreat

/- SpaceFork, the reference's. Conditions: none. -/
set_option linter.unusedVariables false
set_option linter.unusedSimpArgs false
namespace Go.Proofs.YtkgoanjemhbjgaaGreat
open Go Go.Den
theorem forkF_none {m : List Int} {T : Int} {fr : List DBlock} {root : Int} (h : spaceT m T fr root = none) : forkF m T fr root = (([], 0, []), -1) := by unfold forkF; rw [h]
theorem forkF_full {m : List Int} {T : Int} {fr : List DBlock} {root : Int} {S : List Int} (h : spaceT m T fr root = some S) (hs : sumO fr < (S.length : Int)) : forkF m T fr root = ((m, T, fr), -1) := by unfold forkF; rw [h]; simp only; rw [if_pos hs]
theorem forkF_some {m : List Int} {T : Int} {fr : List DBlock} {root : Int} {S : List Int} (h : spaceT m T fr root = some S) (hs : ¬ sumO fr < (S.length : Int)) : forkF m T fr root = forkG m T fr root (seg (desc m 2 root) 0 pgN) := by unfold forkF; rw [h]; simp only; rw [if_neg hs]
theorem setF_ro {p : List Int × Int × List DBlock} {T : Int} {fr : List DBlock} {root : Int} {l : Leaf} {t1 t2 : Int} {S : List Int} (h : spaceT p.1 T fr root = some S) (h0 : 0 ≤ l.va) (h1 : l.va < 8388608) (hm : l.va % 256 = 0) (W : Way3 p.1 T fr l.va root t1 t2) (hx : pageX p.1 l.va root = l.x) (hn : l.x ≠ 0) (hl : leafB (roE l.x) = true) (hp : p.2 = (T, fr)) (hb : ebit l.x 2 = true) : (setF p.1 T fr root l.va (roE l.x)).1 = roS root p l := by
  have hbad : (badB p.1 T fr root l.va || !leafB (roE l.x)) = false := by
    have : badB p.1 T fr root l.va = false := by
      unfold badB
      rw [h]
      simp only [Option.isSome_some, Bool.not_true, Bool.or_false, Bool.or_eq_false_iff, decide_eq_false_iff_not]
      exact ⟨⟨by omega, by omega⟩, by omega⟩
    rw [this, hl]; rfl
  rw [setF_yes hbad (by rw [hx]; exact hn) W.hw]
  unfold roS
  rw [if_pos hb, W.hw]
  show pkP (p.1, T, fr) _ _ = pkP p _ _
  rw [← hp]
  rfl
theorem mapF_mq {n : Nat} {T f : Int} {p : List Int × Int × List DBlock} {l : Leaf} (h : MqOk n T f p) (h0 : 0 ≤ l.va) (h1 : l.va < 8388608) (hm : l.va % 256 = 0) (hx0 : 0 ≤ l.x) (hx1 : l.x < 1048576) (hk : kindS l.x 0 = 1) : (mapF p.1 T p.2.2 f l.va (entOf l.x)).1 = mpL f p l := by
  obtain ⟨S, hS⟩ := h.sp
  have hl := (leaf_of hx0 hk).2.1
  have hbad : (badB p.1 T p.2.2 f l.va || !leafB (entOf l.x)) = false := by
    have : badB p.1 T p.2.2 f l.va = false := by
      unfold badB
      rw [hS]
      simp only [Option.isSome_some, Bool.not_true, Bool.or_false, Bool.or_eq_false_iff, decide_eq_false_iff_not]
      exact ⟨⟨by omega, by omega⟩, by omega⟩
    rw [this, hl]; rfl
  rw [mapF_good hbad, put_of hx0 hx1]
  unfold mpL
  rw [h.tot]
theorem mq_take {f : Int} {L : List Leaf} {k : Nat} {l : Leaf} {p : List Int × Int × List DBlock} (hk : L[k]? = some l) : (L.take (k + 1)).foldl (mpL f) p = mpL f ((L.take k).foldl (mpL f) p) l := by
  rw [List.take_add_one, hk, List.foldl_append]; rfl
set_option maxRecDepth 8000 in
set_option maxHeartbeats 2000000 in
theorem s6 {sm sf : Sl} {m : List Int} {T root : Int} {fr : List DBlock} {w : World} (hm : Bytes w sm m) (hf : FrAt w sf fr) (hfew : fr.length ≤ 1048576) :
    CallW Tryz.prog 6 #[.agg #[.slice sm.a sm.len sm.cap, .int .i64 T, .slice sf.a sf.len sf.cap], .int .i64 root] w (DropV (forkF m T fr root) w) := by
  refine go6 ?_
  unfold W6
  refine (SH.start w).alloc (fun w1 h1 e1 n1 => h1.alloc (fun w2 h2 e2 n2 => ?_))
  refine ⟨sm, h2.cell 1 rfl rfl, _, h2.cell 1 rfl rfl, sf, h2.cell 1 rfl rfl, (c24 (hm.ext h2.ext) (hf.ext h2.ext)).mono ?_⟩
  rintro _ w7 ⟨l8, rfl, e7, hO8⟩
  have h7 := h2.to e7
  refine ⟨l8, _, rfl, ?_⟩
  rcases hsp : spaceT m T fr root with _ | S
  · refine BIf.t rfl (h7.put 0 rfl rfl rfl (fun w10 h10 n10 => ?_))
    refine ⟨⟨none, 0, 0⟩, h10.cell 0 rfl rfl, _, h10.cell 0 rfl rfl, ⟨none, 0, 0⟩, h10.cell 0 rfl rfl, ?_⟩
    rw [forkF_none hsp]
    exact ⟨⟨none, 0, 0⟩, ⟨none, 0, 0⟩, rfl, sh_zero h10⟩
  refine BIf.f rfl ?_
  obtain ⟨hok, hSl, _⟩ := spaceT_mem hsp
  have hml := hok.2.1
  have hl8 : l8.len = S.length := by have := (hO8 S hsp).len; simpa using this.symm
  refine ⟨sm, h7.cell 1 rfl rfl, _, h7.cell 1 rfl rfl, sf, h7.cell 1 rfl rfl, (s25 (hm.ext h7.ext) (hf.ext h7.ext)).mono ?_⟩
  rintro _ w18 ⟨tm, tf, rfl, g18⟩
  have h18 := h7.seq g18
  refine ⟨tm, _, tf, rfl, h18.alloc (fun w22 h22 e22 n22 => h22.put 0 rfl rfl rfl (fun w23 h23 n23 => ?_))⟩
  -- poolB w18 :: rowM tm :: rowF tf :: aB w1 :: aB w
  refine ⟨_, h23.cell 4 rfl rfl, sf, h23.cell 4 rfl rfl, (c26 (hf.ext h23.ext) hok.2.2.1).mono ?_⟩
  rintro _ w27 ⟨rfl, e27⟩
  have h27 := h23.to e27
  refine ⟨_, rfl, ?_⟩
  rw [left_all, hl8]
  refine BIf.dec (fun hlt => ?_) (fun hge => ?_)
  · have hlt : sumO fr < (S.length : Int) := hlt
    refine ⟨tm, h27.cell 0 rfl rfl, _, h27.cell 0 rfl rfl, tf, h27.cell 0 rfl rfl, h27.put 3 rfl rfl rfl (fun w32 h32 n32 => ?_)⟩
    refine ⟨tm, h32.cell 3 rfl rfl, _, h32.cell 3 rfl rfl, tf, h32.cell 3 rfl rfl, ?_⟩
    rw [forkF_full hsp hlt]
    exact ⟨tm, tf, rfl, h32.drop.two⟩
  have hge : ¬ sumO fr < (S.length : Int) := hge
  rw [forkF_some hsp hge]
  refine ⟨sm, h27.cell 4 rfl rfl, (s27 (hm.ext h27.ext) (mOk_of hok) (tab_root hsp) hok.len hml).mono ?_⟩
  rintro _ w38 ⟨l39, rfl, g38⟩
  rw [← pgN_eq] at g38
  have h38 := h27.seq g38
  refine ⟨l39, rfl, ?_⟩
  have hN := pgN_eq
  obtain ⟨L, hL⟩ : ∃ L, L = seg (desc m 2 root) 0 pgN := ⟨_, rfl⟩
  have hLl : L.length ≤ 32768 := by rw [hL]; have := seg_len (desc m 2 root) 0 pgN; omega
  rw [← hL] at h38 ⊢
  have hall := ro_all hm.rng hfew hsp
  rw [← hL] at hall
  have hl39 : l39.len = L.length := by rw [h38.len 0 rfl, recs_len]
  refine LoopW.m1 (fun (i : Int) w' => ∃ (k : Nat) (um ut : Sl), i = k ∧ k ≤ L.length ∧ SH w w' [poolB w18.heap.size um T ut, rowM um ((L.take k).foldl (roS root) (m, T, fr)).1, rowF ut fr, rowL l39 L, aB w1.heap.size ([Value.slice none 0 0, .int .i64 0, .slice none 0 0].map Ce.v), poolB w.heap.size sm T sf]) (fun (i : Int) _ => ((L.length : Int) - i).toNat) ⟨0, tm, tf, rfl, by omega, h38.p3.p3.p3⟩ ?_
  rintro (i : Int) w42 ⟨k, um, ut, rfl, hk, h42⟩ J hJ
  have hro := hall k hk
  obtain ⟨p, hp⟩ : ∃ p, p = (L.take k).foldl (roS root) (m, T, fr) := ⟨_, rfl⟩
  rw [← hp] at h42 hro
  have hpl := hro.gv.len
  refine BIf.dec (fun hlt => ?_) (fun hge2 => ?_)
  · have hkl : k < L.length := by omega
    have hx : L[k]? = some (L[k]'hkl) := List.getElem?_eq_getElem hkl
    generalize L[k]'hkl = lf at hx
    obtain ⟨q, hq, hqc⟩ := h42.elem 3 rfl (recs_get hx) (j := 2) rfl
    refine ⟨by omega, by omega, q, hq, lf.x, hqc, ?_⟩
    have hst := ro_step hm.rng (by rw [← hL]; exact hx) (by rw [← hL]; exact hro)
    rw [← hL] at hst
    obtain ⟨hnext, hlvl, hv0, hv1, hkd, hx0, S2, t1, t2, hS2, W, hpx, hxn⟩ := hst
    obtain ⟨hxs, hleaf, hleafR⟩ := leaf_of hx0 hkd
    have hvm : lf.va % 256 = 0 := by
      obtain ⟨j, x, hj, _, rfl⟩ := seg_mem (by rw [← hL]; exact List.mem_of_getElem? hx : lf ∈ seg (desc m 2 root) 0 pgN)
      show ((256 * j : Nat) : Int) % 256 = 0; omega
    refine (c28 hx0 hxs).mono ?_
    rintro _ w46 ⟨rfl, e46⟩
    have h46 := h42.to e46
    refine ⟨_, _, _, _, _, _, _, _, _, _, rfl, h46.alloc (fun w57 h57 e57 n57 => h57.put 0 rfl rfl rfl (fun w58 h58 n58 => ?_))⟩
    have h58 : SH w w58 [aB w46.heap.size ((eCells lf.x).map Ce.v), poolB w18.heap.size um T ut, rowM um p.1, rowF ut fr, rowL l39 L, aB w1.heap.size ([Value.slice none 0 0, .int .i64 0, .slice none 0 0].map Ce.v), poolB w.heap.size sm T sf] := h58
    refine ⟨_, h58.cell 0 (i := 2) rfl rfl, BIf.of (fun hb => ?_) (fun hb => ?_)⟩
    · refine h58.setV 0 (vs := eCells lf.x) rfl rfl (fun w60 h60 n60 => h60.setV 0 (vs := (eCells lf.x).set 2 (.bool false)) rfl rfl (fun w61 h61 n61 => ?_))
      have h61 : SH w w61 [aB w46.heap.size ((roE lf.x).cells.map Ce.v), poolB w18.heap.size um T ut, rowM um p.1, rowF ut fr, rowL l39 L, aB w1.heap.size ([Value.slice none 0 0, .int .i64 0, .slice none 0 0].map Ce.v), poolB w.heap.size sm T sf] := h61
      have hset := setF_ro hS2 hv0 hv1 hvm W hpx hxn (hleafR hb) hro.frs hb
      have hTs : (setF p.1 T fr root lf.va (roE lf.x)).1.2 = (T, fr) := by rw [hset]; exact hnext.frs
      refine JoinW.cut1 (fun (pp : Option Addr) w' => ∃ (b : Nat) (vm vt : Sl), pp = some ⟨b, 0, none⟩ ∧ SH w w' [poolB b vm T vt, rowM vm (setF p.1 T fr root lf.va (roE lf.x)).1.1, rowF vt fr, aB w46.heap.size ((roE lf.x).cells.map Ce.v), poolB w18.heap.size um T ut, rowM um p.1, rowF ut fr, rowL l39 L, aB w1.heap.size ([Value.slice none 0 0, .int .i64 0, .slice none 0 0].map Ce.v), poolB w.heap.size sm T sf]) ?_ ?_
      · have h62 := h61.drew
        obtain ⟨q2, hq2, hqc2⟩ := h62.elem 4 rfl (recs_get hx) (j := 0) rfl
        refine ⟨um, h62.cell 1 rfl rfl, _, h62.cell 1 rfl rfl, ut, h62.cell 1 rfl rfl, by omega, by omega, q2, hq2, lf.va, hqc2, _, h62.cell 0 rfl rfl, _, h62.cell 0 rfl rfl, _, h62.cell 0 rfl rfl, _, h62.cell 0 rfl rfl, _, h62.cell 0 rfl rfl, _, h62.cell 0 rfl rfl, _, h62.cell 0 rfl rfl, _, h62.cell 0 rfl rfl, _, h62.cell 0 rfl rfl, ?_, ?_, trivial⟩
        · refine (s29 (e := roE lf.x) (SH.bytes h62 2 rfl hro.gv.rng (by omega)) (SH.frAt h62 3 rfl (by omega)) hfew).mono ?_
          rintro _ w106 ⟨vm, vt, rfl, g106⟩
          have h106 := h62.seq g106
          rw [hTs] at h106 ⊢
          refine ⟨vm, _, vt, _, rfl, h106.alloc (fun w111 h111 e111 n111 => ?_), trivial⟩
          have hqd := h111.rdE 7 rfl hq2 (recs_get hx) (j := 0) rfl
          refine ⟨⟨_, h111.cell 3 rfl rfl, _, h111.cell 3 rfl rfl, _, h111.cell 3 rfl rfl, _, h111.cell 3 rfl rfl, _, h111.cell 3 rfl rfl, _, h111.cell 3 rfl rfl, _, h111.cell 3 rfl rfl, _, h111.cell 3 rfl rfl, _, h111.cell 3 rfl rfl, rfl⟩, ⟨lf.va, hqd, rfl⟩, ⟨um, h111.cell 4 rfl rfl, _, h111.cell 4 rfl rfl, ut, h111.cell 4 rfl rfl, rfl⟩, h111.put 0 rfl rfl rfl (fun w125 h125 n125 => ?_), trivial⟩
          exact ⟨_, vm, vt, rfl, h125⟩
        · refine h62.alloc (fun w84 h84 e84 n84 => ?_)
          have hqd := h84.rdE 5 rfl hq2 (recs_get hx) (j := 0) rfl
          refine ⟨⟨_, h84.cell 1 rfl rfl, _, h84.cell 1 rfl rfl, _, h84.cell 1 rfl rfl, _, h84.cell 1 rfl rfl, _, h84.cell 1 rfl rfl, _, h84.cell 1 rfl rfl, _, h84.cell 1 rfl rfl, _, h84.cell 1 rfl rfl, _, h84.cell 1 rfl rfl, rfl⟩, ⟨lf.va, hqd, rfl⟩, ⟨um, h84.cell 2 rfl rfl, _, h84.cell 2 rfl rfl, ut, h84.cell 2 rfl rfl, rfl⟩, ?_, trivial⟩
          refine (s29 (e := roE lf.x) (SH.bytes h84 3 rfl hro.gv.rng (by omega)) (SH.frAt h84 4 rfl (by omega)) hfew).mono ?_
          rintro _ w99 ⟨vm, vt, rfl, g99⟩
          have h99 := h84.seq g99
          rw [hTs] at h99 ⊢
          refine ⟨vm, _, vt, _, rfl, h99.put 2 rfl rfl rfl (fun w104 h104 n104 => ?_), trivial⟩
          exact ⟨_, vm, vt, rfl, h104.p2⟩
      rintro (pp : Option Addr) w64' ⟨b, vm, vt, rfl, h64⟩
      refine addrOf_mk ⟨vm, h64.cell 0 rfl rfl, _, h64.cell 0 rfl rfl, vt, h64.cell 0 rfl rfl, h64.put 4 rfl rfl rfl (fun w69 h69 n69 => ?_)⟩
      rw [w64 (by omega) (by omega)]
      refine hJ _ _ ⟨k + 1, vm, vt, by omega, by omega, ?_⟩ (by omega)
      rw [ro_take hx, ← hp, ← hset]
      -- poolB b :: rowM vm :: rowF vt :: aB w46 :: poolB w18 vm T vt :: rowM um :: rowF ut :: rowL :: aB w1 :: poolB w
      exact ((((h69.drop.front (n := 2) rfl).drop.front (n := 3) rfl).drop.front (n := 3) rfl).drop.p2)
    · rw [w64 (by omega) (by omega)]
      refine hJ _ _ ⟨k + 1, um, ut, by omega, by omega, ?_⟩ (by omega)
      have hsame : roS root p lf = p := by unfold roS; rw [if_neg (by rw [hb]; exact Bool.false_ne_true)]
      rw [ro_take hx, ← hp, hsame]
      exact h58.drop
  · -- the second pass
    have hkL : k = L.length := by omega
    subst hkL
    rw [List.take_length] at hp
    have hro2 : RoOk m T fr root (seg (desc m 2 root) 0 pgN) (seg (desc m 2 root) 0 pgN).length p := by rw [← hL]; exact hro
    obtain ⟨S2, hS2⟩ := hro.sp
    have hok2 := (spaceT_mem hS2).1
    have hlv := ro_leaves hro2
    rw [← hL] at hlv
    obtain ⟨fr1, htk, hf0, hf1, hmq, htkP⟩ := fork_take hro2 hsp hge
    have hfg : forkG m T fr root L = ((L.map roL).foldl (mpL (tkN p)) (tkP p), tkN p) := by unfold forkG; rw [← hp]
    rw [hfg]
    have hTm := hok.2.2.2
    obtain ⟨f, hfe⟩ : ∃ f, f = tkN p := ⟨_, rfl⟩
    rw [← hfe] at htk hf0 hf1 hmq htkP ⊢
    refine ⟨um, h42.cell 0 rfl rfl, ?_⟩
    refine (s27 (SH.bytes h42 1 rfl hro.gv.rng (by omega)) (mOk_of hok2) (tab_root hS2) hok2.len hok2.2.1).mono ?_
    rintro _ w128 ⟨l129, rfl, g128⟩
    rw [← pgN_eq, hlv] at g128
    have h128 := h42.seq g128
    have hleafs := ro_leaf_ok hm.rng hsp
    rw [← hL] at hleafs
    obtain ⟨L1, hL1⟩ : ∃ L1, L1 = L.map roL := ⟨_, rfl⟩
    have hL1l : L1.length ≤ 32768 := by rw [hL1, List.length_map]; exact hLl
    rw [← hL1] at h128 hleafs ⊢
    have hl129 : l129.len = L1.length := by rw [h128.len 0 rfl, recs_len]
    refine ⟨l129, rfl, um, h128.cell 1 rfl rfl, _, h128.cell 1 rfl rfl, ut, h128.cell 1 rfl rfl, ?_⟩
    -- rowL l129 :: poolB w18 :: rowM um :: rowF ut :: rowL l39 :: aB w1 :: poolB w
    refine (s30 (h128.p3.p3) htk hf0 (by rw [fz_eq]; omega) (by omega) (by omega)).mono ?_
    rintro _ w134 ⟨ut2, rfl, h134⟩
    -- rowM um :: rowF ut2 :: rowL l129 :: poolB w18 :: rowL l39 :: aB w1 :: poolB w
    refine ⟨um, _, ut2, _, rfl, h134.alloc (fun w139 h139 e139 n139 => h139.put 0 rfl rfl rfl (fun w140 h140 n140 => ?_))⟩
    refine ⟨um, h140.cell 0 rfl rfl, _, h140.cell 0 rfl rfl, ut2, h140.cell 0 rfl rfl, h140.put 4 rfl rfl rfl (fun w144 h144 n144 => ?_)⟩
    have hmqL : ∀ k, k ≤ L1.length → MqOk m.length T f ((L1.take k).foldl (mpL f) (tkP p)) := fun k hk => mq_all (fun l hl => by have := hleafs l (List.mem_of_mem_take hl); exact ⟨this.2.2.2.1, this.2.2.2.2.1, this.2.2.2.2.2.1, this.2.2.2.2.2.2⟩) hmq
    refine LoopW.m1 (fun (i : Int) w' => ∃ (k : Nat) (vm vt : Sl), i = k ∧ k ≤ L1.length ∧ SH w w' [poolB w18.heap.size vm T vt, rowM vm ((L1.take k).foldl (mpL f) (tkP p)).1, rowF vt ((L1.take k).foldl (mpL f) (tkP p)).2.2, rowL l129 L1, aB w1.heap.size ([Value.slice none 0 0, .int .i64 0, .slice none 0 0].map Ce.v)]) (fun (i : Int) _ => ((L1.length : Int) - i).toNat) ⟨0, um, ut2, rfl, by omega, ?_⟩ ?_
    · rw [List.take_zero, List.foldl_nil, htkP]
      -- aB w134 :: rowM um :: rowF ut2 :: rowL l129 :: poolB w18 :: rowL l39 :: aB w1 :: poolB w
      exact ((((h144.drop.front (n := 6) rfl).drop.front (n := 4) rfl).drop).front (n := 3) rfl)
    rintro (i : Int) w147 ⟨k, vm, vt, rfl, hk1, h147⟩ J hJ
    have hMq := hmqL k hk1
    obtain ⟨p2, hp2⟩ : ∃ p2, p2 = (L1.take k).foldl (mpL f) (tkP p) := ⟨_, rfl⟩
    rw [← hp2] at h147 hMq
    have hp2l := hMq.gv.len
    have hp2f := hMq.gv.few
    refine BIf.dec (fun hlt => ?_) (fun hge3 => ?_)
    · have hkl : k < L1.length := by omega
      have hx : L1[k]? = some (L1[k]'hkl) := List.getElem?_eq_getElem hkl
      generalize L1[k]'hkl = lf at hx
      obtain ⟨hv0, hv1, hvm, hx0, hx1, hkd, hxn⟩ := hleafs lf (List.mem_of_getElem? hx)
      obtain ⟨q, hq, hqc⟩ := h147.elem 3 rfl (recs_get hx) (j := 2) rfl
      refine ⟨by omega, by omega, q, hq, lf.x, hqc, ?_⟩
      refine (c28 hx0 hx1).mono ?_
      rintro _ w151 ⟨rfl, e151⟩
      have h151 := h147.to e151
      refine ⟨_, _, _, _, _, _, _, _, _, _, rfl, h151.alloc (fun w162 h162 e162 n162 => h162.put 0 rfl rfl rfl (fun w163 h163 n163 => ?_))⟩
      have h163 : SH w w163 [aB w151.heap.size ((entOf lf.x).cells.map Ce.v), poolB w18.heap.size vm T vt, rowM vm p2.1, rowF vt p2.2.2, rowL l129 L1, aB w1.heap.size ([Value.slice none 0 0, .int .i64 0, .slice none 0 0].map Ce.v)] := h163
      have hset := mapF_mq hMq hv0 hv1 hvm hx0 hx1 hkd
      have hnext := mq_step hMq hx0 hx1 hkd hxn
      have hTs : (mapF p2.1 T p2.2.2 f lf.va (entOf lf.x)).1.2.1 = T := by rw [hset]; exact hnext.tot
      refine JoinW.cut1 (fun (pp : Option Addr) w' => ∃ (b : Nat) (xm xt : Sl), pp = some ⟨b, 0, none⟩ ∧ SH w w' [poolB b xm T xt, rowM xm (mapF p2.1 T p2.2.2 f lf.va (entOf lf.x)).1.1, rowF xt (mapF p2.1 T p2.2.2 f lf.va (entOf lf.x)).1.2.2, aB w151.heap.size ((entOf lf.x).cells.map Ce.v), poolB w18.heap.size vm T vt, rowM vm p2.1, rowF vt p2.2.2, rowL l129 L1, aB w1.heap.size ([Value.slice none 0 0, .int .i64 0, .slice none 0 0].map Ce.v)]) ?_ ?_
      · have h62 := h163.drew
        obtain ⟨q2, hq2, hqc2⟩ := h62.elem 4 rfl (recs_get hx) (j := 0) rfl
        refine ⟨vm, h62.cell 1 rfl rfl, _, h62.cell 1 rfl rfl, vt, h62.cell 1 rfl rfl, by omega, by omega, q2, hq2, lf.va, hqc2, _, h62.cell 0 rfl rfl, _, h62.cell 0 rfl rfl, _, h62.cell 0 rfl rfl, _, h62.cell 0 rfl rfl, _, h62.cell 0 rfl rfl, _, h62.cell 0 rfl rfl, _, h62.cell 0 rfl rfl, _, h62.cell 0 rfl rfl, _, h62.cell 0 rfl rfl, ?_, ?_, trivial⟩
        · refine (s16 (e := entOf lf.x) (SH.bytes h62 2 rfl hMq.gv.rng (by omega)) (SH.frAt h62 3 rfl (by omega)) hp2f).mono ?_
          rintro _ w106 ⟨xm, xt, rfl, g106⟩
          have h106 := h62.seq g106
          rw [hTs] at *
          refine ⟨xm, _, xt, _, rfl, h106.alloc (fun w111 h111 e111 n111 => ?_), trivial⟩
          have hqd := h111.rdE 7 rfl hq2 (recs_get hx) (j := 0) rfl
          refine ⟨⟨_, h111.cell 3 rfl rfl, _, h111.cell 3 rfl rfl, _, h111.cell 3 rfl rfl, _, h111.cell 3 rfl rfl, _, h111.cell 3 rfl rfl, _, h111.cell 3 rfl rfl, _, h111.cell 3 rfl rfl, _, h111.cell 3 rfl rfl, _, h111.cell 3 rfl rfl, rfl⟩, ⟨lf.va, hqd, rfl⟩, ⟨vm, h111.cell 4 rfl rfl, _, h111.cell 4 rfl rfl, vt, h111.cell 4 rfl rfl, rfl⟩, h111.put 0 rfl rfl rfl (fun w125 h125 n125 => ?_), trivial⟩
          exact ⟨_, xm, xt, rfl, h125⟩
        · refine h62.alloc (fun w84 h84 e84 n84 => ?_)
          have hqd := h84.rdE 5 rfl hq2 (recs_get hx) (j := 0) rfl
          refine ⟨⟨_, h84.cell 1 rfl rfl, _, h84.cell 1 rfl rfl, _, h84.cell 1 rfl rfl, _, h84.cell 1 rfl rfl, _, h84.cell 1 rfl rfl, _, h84.cell 1 rfl rfl, _, h84.cell 1 rfl rfl, _, h84.cell 1 rfl rfl, _, h84.cell 1 rfl rfl, rfl⟩, ⟨lf.va, hqd, rfl⟩, ⟨vm, h84.cell 2 rfl rfl, _, h84.cell 2 rfl rfl, vt, h84.cell 2 rfl rfl, rfl⟩, ?_, trivial⟩
          refine (s16 (e := entOf lf.x) (SH.bytes h84 3 rfl hMq.gv.rng (by omega)) (SH.frAt h84 4 rfl (by omega)) hp2f).mono ?_
          rintro _ w99 ⟨xm, xt, rfl, g99⟩
          have h99 := h84.seq g99
          rw [hTs] at *
          refine ⟨xm, _, xt, _, rfl, h99.put 2 rfl rfl rfl (fun w104 h104 n104 => ?_), trivial⟩
          exact ⟨_, xm, xt, rfl, h104.p2⟩
      rintro (pp : Option Addr) w64' ⟨b, xm, xt, rfl, h64⟩
      refine addrOf_mk ⟨xm, h64.cell 0 rfl rfl, _, h64.cell 0 rfl rfl, xt, h64.cell 0 rfl rfl, h64.put 4 rfl rfl rfl (fun w69 h69 n69 => ?_)⟩
      rw [w64 (by omega) (by omega)]
      refine hJ _ _ ⟨k + 1, xm, xt, by omega, by omega, ?_⟩ (by omega)
      rw [mq_take hx, ← hp2, ← hset]
      exact ((((h69.drop.front (n := 2) rfl).drop.front (n := 3) rfl).drop.front (n := 3) rfl).drop.p2)
    · have hkL : k = L1.length := by omega
      subst hkL
      rw [List.take_length] at hp2
      refine ⟨vm, h147.cell 0 rfl rfl, _, h147.cell 0 rfl rfl, vt, h147.cell 0 rfl rfl, h147.put 4 rfl rfl rfl (fun w231 h231 n231 => ?_)⟩
      refine ⟨vm, h231.cell 4 rfl rfl, _, h231.cell 4 rfl rfl, vt, h231.cell 4 rfl rfl, ?_⟩
      refine ⟨vm, vt, ?_, ?_⟩
      · rw [← hp2, hMq.tot]
      · rw [← hp2]; exact h231.drop.two
end Go.Proofs.YtkgoanjemhbjgaaGreat

/- SpaceFork, the program's. Conditions: none. -/
set_option linter.unusedVariables false
set_option linter.unusedSimpArgs false
namespace Go.Proofs.YtkgoanjemhbjgaaGreat
open Go Go.Den
def ros (L : List Leaf) (k : Nat) : List Leaf := (L.take k).map roL ++ L.drop k
theorem ros_get {L : List Leaf} {k : Nat} {l : Leaf} (h : L[k]? = some l) : (ros L k)[k]? = some l := by
  have hk := (List.getElem?_eq_some_iff.1 h).1
  unfold ros
  rw [List.getElem?_append_right (by rw [List.length_map, List.length_take]; omega), List.length_map, List.length_take, List.getElem?_drop]
  rw [show k + (k - min k L.length) = k by omega]; exact h
theorem ros_set {L : List Leaf} {k : Nat} {l : Leaf} (h : L[k]? = some l) : (ros L k).set k (roL l) = ros L (k + 1) := by
  obtain ⟨hk, he⟩ := List.getElem?_eq_some_iff.1 h
  unfold ros
  rw [List.set_append_right _ _ (by rw [List.length_map, List.length_take]; omega), List.length_map, List.length_take, show k - min k L.length = 0 by omega]
  rw [List.drop_eq_getElem_cons hk, List.set_cons_zero, List.take_add_one, h, List.map_append, List.append_assoc]
  rfl
theorem ros_same {L : List Leaf} {k : Nat} {l : Leaf} (h : L[k]? = some l) (hl : roL l = l) : ros L (k + 1) = ros L k := by
  rw [← ros_set h, hl]
  exact List.ext_getElem? (fun i => by
    by_cases hi : k = i
    · subst hi
      rw [List.getElem?_set_self (by obtain ⟨hk, _⟩ := List.getElem?_eq_some_iff.1 (ros_get h); exact hk), ros_get h]
    · rw [List.getElem?_set_ne hi])
theorem ros_len (L : List Leaf) (k : Nat) : (ros L k).length = L.length := by unfold ros; rw [List.length_append, List.length_map, List.length_take, List.length_drop]; omega
theorem ros_all (L : List Leaf) : ros L L.length = L.map roL := by unfold ros; rw [List.take_length, List.drop_length, List.append_nil]
theorem recs_set {α : Type} {f : α → List Value} {l : List α} {k : Nat} {y : α} : (recs f l).set k ((f y).map Ce.v) = recs f (l.set k y) := by unfold recs; rw [List.map_set]
set_option maxRecDepth 8000 in
set_option maxHeartbeats 2000000 in
theorem s8 {sm sf : Sl} {m : List Int} {T root : Int} {fr : List DBlock} {w : World} (hm : Bytes w sm m) (hf : FrAt w sf fr) (hfew : fr.length ≤ 1048576) :
    CallW Tryz.prog 8 #[.agg #[.slice sm.a sm.len sm.cap, .int .i64 T, .slice sf.a sf.len sf.cap], .int .i64 root] w (DropV (forkF m T fr root) w) := by
  refine go8 ?_
  unfold W8
  refine (SH.start w).alloc (fun w1 h1 e1 n1 => h1.alloc (fun w2 h2 e2 n2 => ?_))
  refine ⟨sm, h2.cell 1 rfl rfl, _, h2.cell 1 rfl rfl, sf, h2.cell 1 rfl rfl, (c33 (hm.ext h2.ext) (hf.ext h2.ext)).mono ?_⟩
  rintro _ w7 ⟨b, rfl, hb, e7⟩
  have h7 := h2.to e7
  have hnone : ∀ (w9 : World), spaceT m T fr root = none → SH w w9 [aB w1.heap.size ([Value.slice none 0 0, .int .i64 0, .slice none 0 0].map Ce.v)] → MayN w9 ⟨w1.heap.size, 0, none⟩ 3 ∧ LetW (Den.puts w9 ⟨w1.heap.size, 0, none⟩ 0 [.slice none 0 0, .int .i64 0, .slice none 0 0]) fun w10 => ∃ l : Sl, w10.cell? ⟨w1.heap.size, 0, none⟩ = some (.slice l.a l.len l.cap) ∧ ∃ n : Int, w10.cell? ⟨w1.heap.size, 1, none⟩ = some (.int .i64 n) ∧ ∃ l2 : Sl, w10.cell? ⟨w1.heap.size, 2, none⟩ = some (.slice l2.a l2.len l2.cap) ∧ DropV (forkF m T fr root) w (.tuple #[.agg #[.slice l.a l.len l.cap, .int .i64 n, .slice l2.a l2.len l2.cap], .int .i64 (-1)]) w10 := by
    intro w9 hsp h9
    refine h9.put 0 rfl rfl rfl (fun w10 h10 n10 => ?_)
    refine ⟨⟨none, 0, 0⟩, h10.cell 0 rfl rfl, _, h10.cell 0 rfl rfl, ⟨none, 0, 0⟩, h10.cell 0 rfl rfl, ?_⟩
    rw [forkF_none hsp]
    exact ⟨⟨none, 0, 0⟩, ⟨none, 0, 0⟩, rfl, sh_zero h10⟩
  refine ⟨b, rfl, ?_⟩
  by_cases hok : POk m T fr
  rotate_left
  · have hbf : b = false := by cases b; rfl; exact absurd (hb.1 rfl) hok
    subst hbf
    exact BIf.t rfl (hnone w7 (spaceT_neg hok) h7.one)
  rw [hb.2 hok]
  refine BIf.f rfl ?_
  have hml := hok.2.1
  refine ⟨sm, h7.cell 1 rfl rfl, _, h7.cell 1 rfl rfl, sf, h7.cell 1 rfl rfl, (s34 (hm.ext h7.ext) (hf.ext h7.ext)).mono ?_⟩
  rintro _ w17 ⟨bp, um, ut, rfl, g17⟩
  have h17 := h7.seq g17
  refine ⟨_, rfl, ?_⟩
  have hmb : Bytes w17 um m := SH.bytes h17 1 rfl hm.rng (by omega)
  have hfb : FrAt w17 ut fr := SH.frAt h17 2 rfl (by omega)
  refine (c35 (SH.blk h17 0 rfl) hmb hfb hok).mono ?_
  rintro _ w20 ⟨l21, rfl, e20, hI1, hI2⟩
  have h20 := h17.to e20
  refine ⟨l21, rfl, ?_⟩
  rcases hsp : spaceT m T fr root with _ | S
  · have hres : tblF m (freeL T fr) 2 root [] = none := by rw [← spaceT_pos hok]; exact hsp
    rw [hI1 hres]
    refine BIf.t rfl ?_
    rw [hsp] at hnone
    exact hnone w20 rfl (h20.front (n := 3) rfl).one
  have hres : tblF m (freeL T fr) 2 root [] = some S := by rw [← spaceT_pos hok]; exact hsp
  obtain ⟨hla, hO⟩ := hI2 S hres
  obtain ⟨al, hal⟩ := Option.isSome_iff_exists.1 hla
  refine BIf.f (by rw [hal]; rfl) ?_
  have hl21 : l21.len = S.length := by have := hO.len; simpa using this.symm
  refine ⟨_, rfl, _, h20.cell 0 (i := 1) rfl rfl, ut, h20.cell 0 (i := 2) rfl rfl, ?_⟩
  refine (c21 (SH.frAt h20 2 rfl (by omega)) hok.2.2.1).mono ?_
  rintro _ w30 ⟨rfl, e30⟩
  have h30 := h20.to e30
  refine ⟨_, rfl, ?_⟩
  rw [left_all, hl21]
  refine BIf.dec (fun hlt => ?_) (fun hge => ?_)
  · have hlt : sumO fr < (S.length : Int) := hlt
    refine (s36 h30).mono ?_
    rintro _ w33 ⟨rfl, h33⟩
    refine ⟨um, _, ut, rfl, h33.put 3 rfl rfl rfl (fun w37 h37 n37 => ?_)⟩
    refine ⟨um, h37.cell 3 rfl rfl, _, h37.cell 3 rfl rfl, ut, h37.cell 3 rfl rfl, ?_⟩
    rw [forkF_full hsp hlt]
    exact ⟨um, ut, rfl, h37.drop.two⟩
  have hge : ¬ sumO fr < (S.length : Int) := hge
  rw [forkF_some hsp hge]
  refine ⟨_, rfl, um, h30.cell 0 (i := 0) rfl rfl, (s37 (SH.bytes h30 1 rfl hm.rng (by omega)) (mOk_of hok) (tab_root hsp) hok.len hml).mono ?_⟩
  rintro _ w44 ⟨l45, rfl, g44⟩
  have h44 := h30.seq g44
  refine ⟨l45, rfl, ?_⟩
  have hN := pgN_eq
  obtain ⟨L, hL⟩ : ∃ L, L = seg (desc m 2 root) 0 pgN := ⟨_, rfl⟩
  have hLl : L.length ≤ 32768 := by rw [hL]; have := seg_len (desc m 2 root) 0 pgN; omega
  rw [← hL] at h44 ⊢
  have hall := ro_all hm.rng hfew hsp
  rw [← hL] at hall
  have hl45 : l45.len = L.length := by rw [h44.len 0 rfl, recs_len]
  -- rowL l45 :: poolB bp :: rowM um :: rowF ut :: aB w1 :: poolB w
  refine LoopW.m1 (fun (i : Int) w' => ∃ k : Nat, i = k ∧ k ≤ L.length ∧ SH w w' [poolB bp um T ut, rowM um ((L.take k).foldl (roS root) (m, T, fr)).1, rowF ut fr, rowL l45 (ros L k), aB w1.heap.size ([Value.slice none 0 0, .int .i64 0, .slice none 0 0].map Ce.v)]) (fun (i : Int) _ => ((L.length : Int) - i).toNat) ⟨0, rfl, by omega, ((h44.front (n := 5) rfl).drop).p3.p3.p3⟩ ?_
  rintro (i : Int) w48 ⟨k, rfl, hk, h48⟩ J hJ
  have hro := hall k hk
  obtain ⟨p, hp⟩ : ∃ p, p = (L.take k).foldl (roS root) (m, T, fr) := ⟨_, rfl⟩
  rw [← hp] at h48 hro
  have hpl := hro.gv.len
  obtain ⟨S2, hS2⟩ := hro.sp
  have hok2 := (spaceT_mem hS2).1
  refine BIf.dec (fun hlt => ?_) (fun hge2 => ?_)
  · have hkl : k < L.length := by omega
    have hx : L[k]? = some (L[k]'hkl) := List.getElem?_eq_getElem hkl
    generalize L[k]'hkl = lf at hx
    have hxr := ros_get hx
    obtain ⟨q, hq, hqc⟩ := h48.elem 3 rfl (recs_get hxr) (j := 0) rfl
    have hq1 := h48.rdE 3 rfl hq (recs_get hxr) (j := 1) rfl
    have hq2 := h48.rdE 3 rfl hq (recs_get hxr) (j := 2) rfl
    refine ⟨by omega, by omega, q, hq, lf.va, hqc, lf.lvl, hq1, lf.x, hq2, ?_⟩
    have hst := ro_step hm.rng (by rw [← hL]; exact hx) (by rw [← hL]; exact hro)
    rw [← hL] at hst
    obtain ⟨hnext, hlvl, hv0, hv1, hkd, hx0, S3, t1, t2, hS3, W, hpx, hxn⟩ := hst
    obtain ⟨hxs, hleaf, hleafR⟩ := leaf_of hx0 hkd
    refine h48.alloc (fun w53 h53 e53 n53 => h53.put 0 rfl rfl rfl (fun w54 h54 n54 => ?_))
    refine ⟨_, h54.cell 0 (i := 2) rfl rfl, (c38 hx0 (by omega)).mono ?_⟩
    rintro _ w57 ⟨rfl, e57⟩
    have h57 := h54.to e57
    refine ⟨_, _, _, _, _, _, _, _, _, rfl, h57.alloc (fun w67 h67 e67 n67 => h67.put 0 rfl rfl rfl (fun w68 h68 n68 => ?_))⟩
    have h68 : SH w w68 [aB w57.heap.size ((eCells lf.x).map Ce.v), aB w48.heap.size ([Value.int .i64 lf.va, .int .i64 lf.lvl, .int .u64 lf.x].map Ce.v), poolB bp um T ut, rowM um p.1, rowF ut fr, rowL l45 (ros L k), aB w1.heap.size ([Value.slice none 0 0, .int .i64 0, .slice none 0 0].map Ce.v)] := h68
    refine ⟨_, h68.cell 0 (i := 2) rfl rfl, BIf.of (fun hbw => ?_) (fun hbw => ?_)⟩
    · refine h68.setV 0 (vs := eCells lf.x) rfl rfl (fun w70 h70 n70 => h70.setV 0 (vs := (eCells lf.x).set 2 (.bool false)) rfl rfl (fun w71 h71 n71 => ?_))
      have h71 : SH w w71 [aB w57.heap.size ((roE lf.x).cells.map Ce.v), aB w48.heap.size ([Value.int .i64 lf.va, .int .i64 lf.lvl, .int .u64 lf.x].map Ce.v), poolB bp um T ut, rowM um p.1, rowF ut fr, rowL l45 (ros L k), aB w1.heap.size ([Value.slice none 0 0, .int .i64 0, .slice none 0 0].map Ce.v)] := h71
      refine ⟨_, h71.cell 0 rfl rfl, _, h71.cell 0 rfl rfl, _, h71.cell 0 rfl rfl, _, h71.cell 0 rfl rfl, _, h71.cell 0 rfl rfl, _, h71.cell 0 rfl rfl, _, h71.cell 0 rfl rfl, _, h71.cell 0 rfl rfl, _, h71.cell 0 rfl rfl, ?_⟩
      refine (c18 (e := roE lf.x)).mono ?_
      rintro _ w82 ⟨rfl, e82⟩
      have h82 := h71.to e82
      refine ⟨_, _, rfl, by omega, by omega, q, hq, h82.setE 5 rfl hq (recs_get hxr) (j := 2) rfl (fun w86 h86 n86 => ?_)⟩
      have hroX : roX lf.x = putX (roE lf.x) := by unfold roX; rw [if_pos hbw]
      have hrow : (recs Leaf.cells (ros L k)).set k ((lf.cells.map Ce.v).set 2 (Ce.v (.int .u64 (putX (roE lf.x))))) = recs Leaf.cells (ros L (k + 1)) := by
        rw [← ros_set hx, ← recs_set]
        show _ = (recs Leaf.cells (ros L k)).set k ((roL lf).cells.map Ce.v)
        unfold roL
        rw [hroX]; rfl
      have h86 : SH w w86 [aB w57.heap.size ((roE lf.x).cells.map Ce.v), aB w48.heap.size ([Value.int .i64 lf.va, .int .i64 lf.lvl, .int .u64 lf.x].map Ce.v), poolB bp um T ut, rowM um p.1, rowF ut fr, rowL l45 (ros L (k + 1)), aB w1.heap.size ([Value.slice none 0 0, .int .i64 0, .slice none 0 0].map Ce.v)] := by
        have := h86
        simp only [List.set_cons_succ, List.set_cons_zero] at this
        rw [Int.toNat_natCast, hrow] at this
        exact this
      refine ⟨_, h86.cell 1 rfl rfl, ?_⟩
      have h87 : SH w w86 (poolB bp um T ut :: rowM um p.1 :: [rowF ut fr, rowL l45 (ros L (k + 1)), aB w1.heap.size ([Value.slice none 0 0, .int .i64 0, .slice none 0 0].map Ce.v), aB w48.heap.size ([Value.int .i64 lf.va, .int .i64 lf.lvl, .int .u64 lf.x].map Ce.v)]) := h86.drop.perm ((List.perm_append_comm (l₁ := [aB w48.heap.size ([Value.int .i64 lf.va, .int .i64 lf.lvl, .int .u64 lf.x].map Ce.v)]) (l₂ := [poolB bp um T ut, rowM um p.1, rowF ut fr, rowL l45 (ros L (k + 1)), aB w1.heap.size ([Value.slice none 0 0, .int .i64 0, .slice none 0 0].map Ce.v)])))
      refine (s39 h87 (tab_root hS3) (spaceT_mem hS3).1.len hro.gv.rng (by omega) hv0 hv1).mono ?_
      rintro _ w89 ⟨l91, rfl, h89⟩
      rw [W.hw] at h89
      have hl91 : l91.len = 3 := by rw [h89.len 0 rfl, nums_len]; rfl
      have h90 := h89.drew
      obtain ⟨qa, hqa, hqac⟩ := h90.elem0 0 rfl (nums_get (way_get (t0 := root) (t1 := t1) (t2 := t2) (k := 0) (by omega))) rfl
      have hxr2 : (ros L (k + 1))[k]? = some (roL lf) := by
        rw [← ros_set hx, List.getElem?_set_self (by rw [ros_len]; exact hkl)]
      have hq3 := h90.rdE 4 rfl hq (recs_get hxr2) (j := 2) rfl
      refine ⟨_, l91, rfl, by omega, by omega, qa, hqa, t2, hqac, lf.va, h90.cell 6 rfl rfl, by omega, by omega, q, hq, _, hq3, ?_⟩
      refine (c41 (l := 0) hv0 hv1 (by omega)).mono ?_
      rintro _ w98 ⟨rfl, rfl⟩
      refine ⟨_, rfl, ⟨_, hq3, rfl⟩, ⟨_, hqac, rfl⟩, ?_⟩
      have hi0 := ixV_rng lf.va ((0 : Nat) : Int)
      have hroom0 : 0 ≤ t2 ∧ t2 * 256 + 256 ≤ p.1.length ∧ p.1.length ≤ 262144 := W.room 0
      have hrk := ro_kind hx0 hkd
      have hxx : (roL lf).x = roX lf.x := rfl
      refine (s40 (x := roX lf.x) (F := [rowF ut fr, rowL l45 (ros L (k + 1)), aB w1.heap.size ([Value.slice none 0 0, .int .i64 0, .slice none 0 0].map Ce.v), aB w48.heap.size ([Value.int .i64 lf.va, .int .i64 lf.lvl, .int .u64 lf.x].map Ce.v)]) h90.drop hroom0.1 hi0.1 hi0.2 hrk.1 (by omega) hroom0.2.1 (by omega)).mono ?_
      rintro _ w103 ⟨rfl, h103⟩
      refine ⟨rfl, ?_⟩
      rw [w64 (by omega) (by omega)]
      refine hJ _ _ ⟨k + 1, by omega, by omega, ?_⟩ (by omega)
      have hnew : (roS root p lf).1 = pk p.1 (t2 * 256 + 8 * ixV lf.va ((0 : Nat) : Int)).toNat (roX lf.x) 8 := by
        unfold roS; rw [if_pos hbw, W.hw, hroX]; rfl
      rw [ro_take hx, ← hp, hnew]
      exact h103.take 5
    · rw [w64 (by omega) (by omega)]
      refine hJ _ _ ⟨k + 1, by omega, by omega, ?_⟩ (by omega)
      have hsame : roS root p lf = p := by unfold roS; rw [if_neg (by rw [hbw]; exact Bool.false_ne_true)]
      have hsl : roL lf = lf := by unfold roL roX; rw [if_neg (by rw [hbw]; exact Bool.false_ne_true)]
      rw [ro_take hx, ← hp, hsame, ros_same hx hsl]
      exact h68.drop.drop
  · -- the second pass
    have hkL : k = L.length := by omega
    subst hkL
    rw [List.take_length] at hp
    rw [ros_all] at h48
    have hro2 : RoOk m T fr root (seg (desc m 2 root) 0 pgN) (seg (desc m 2 root) 0 pgN).length p := by rw [← hL]; exact hro
    obtain ⟨fr1, htk, hf0, hf1, hmq, htkP⟩ := fork_take hro2 hsp hge
    have hfg : forkG m T fr root L = ((L.map roL).foldl (mpL (tkN p)) (tkP p), tkN p) := by unfold forkG; rw [← hp]
    rw [hfg]
    have hTm := hok.2.2.2
    obtain ⟨f, hfe⟩ : ∃ f, f = tkN p := ⟨_, rfl⟩
    rw [← hfe] at htk hf0 hf1 hmq htkP ⊢
    have hleafs := ro_leaf_ok hm.rng hsp
    rw [← hL] at hleafs
    obtain ⟨L1, hL1⟩ : ∃ L1, L1 = L.map roL := ⟨_, rfl⟩
    have hL1l : L1.length = L.length := by rw [hL1, List.length_map]
    rw [← hL1] at h48 hleafs ⊢
    refine (s42 h48 htk hf0 (by rw [fz_eq]; omega) (by omega) (by omega)).mono ?_
    rintro _ w105 ⟨rfl, ut2, h105⟩
    refine ⟨_, rfl, ?_⟩
    have hmqL : ∀ k, k ≤ L1.length → MqOk m.length T f ((L1.take k).foldl (mpL f) (tkP p)) := fun k hk => mq_all (fun l hl => by have := hleafs l (List.mem_of_mem_take hl); exact ⟨this.2.2.2.1, this.2.2.2.2.1, this.2.2.2.2.2.1, this.2.2.2.2.2.2⟩) hmq
    refine LoopW.m1 (fun (i : Int) w' => ∃ (k : Nat) (vt : Sl), i = k ∧ k ≤ L1.length ∧ SH w w' [poolB bp um T vt, rowM um ((L1.take k).foldl (mpL f) (tkP p)).1, rowF vt ((L1.take k).foldl (mpL f) (tkP p)).2.2, rowL l45 L1, aB w1.heap.size ([Value.slice none 0 0, .int .i64 0, .slice none 0 0].map Ce.v)]) (fun (i : Int) _ => ((L1.length : Int) - i).toNat) ⟨0, ut2, rfl, by omega, ?_⟩ ?_
    · rw [List.take_zero, List.foldl_nil, htkP]
      exact h105
    rintro (i : Int) w109 ⟨k, vt, rfl, hk1, h109⟩ J hJ
    have hMq := hmqL k hk1
    obtain ⟨p2, hp2⟩ : ∃ p2, p2 = (L1.take k).foldl (mpL f) (tkP p) := ⟨_, rfl⟩
    rw [← hp2] at h109 hMq
    refine BIf.dec (fun hlt => ?_) (fun hge3 => ?_)
    · have hkl : k < L1.length := by omega
      have hx : L1[k]? = some (L1[k]'hkl) := List.getElem?_eq_getElem hkl
      generalize L1[k]'hkl = lf at hx
      obtain ⟨hv0, hv1, hvm, hx0, hx1, hkd, hxn⟩ := hleafs lf (List.mem_of_getElem? hx)
      obtain ⟨q, hq, hqc⟩ := h109.elem 3 rfl (recs_get hx) (j := 0) rfl
      have hq1 := h109.rdE 3 rfl hq (recs_get hx) (j := 1) rfl
      have hq2 := h109.rdE 3 rfl hq (recs_get hx) (j := 2) rfl
      refine ⟨by omega, by omega, q, hq, lf.va, hqc, lf.lvl, hq1, lf.x, hq2, ?_⟩
      refine h109.alloc (fun w114 h114 e114 n114 => h114.put 0 rfl rfl rfl (fun w115 h115 n115 => ?_))
      refine ⟨_, h115.cell 0 rfl rfl, _, h115.cell 0 (i := 2) rfl rfl, ?_⟩
      obtain ⟨S4, hS4⟩ := hMq.sp
      have hnext := mq_step hMq hx0 hx1 hkd hxn
      refine (s43 (F := [rowL l45 L1, aB w1.heap.size ([Value.slice none 0 0, .int .i64 0, .slice none 0 0].map Ce.v)]) h115.drop hS4 hMq.gv.rng hMq.gv.few hv0 hv1 hx0 (by omega)).mono ?_
      rintro _ w119 ⟨rfl, vt2, h119⟩
      refine ⟨_, rfl, ?_⟩
      rw [w64 (by omega) (by omega)]
      refine hJ _ _ ⟨k + 1, vt2, by omega, by omega, ?_⟩ (by omega)
      have hml2 : (mapG p2.1 T p2.2.2 f lf.va lf.x).1 = mpL f p2 lf := by unfold mpL; rw [hMq.tot]
      rw [hml2, hnext.tot] at h119
      rw [mq_take hx, ← hp2]
      exact h119
    · have hkL : k = L1.length := by omega
      subst hkL
      rw [List.take_length] at hp2
      refine (s36 h109).mono ?_
      rintro _ w122 ⟨rfl, h122⟩
      refine ⟨um, _, vt, rfl, h122.put 4 rfl rfl rfl (fun w126 h126 n126 => ?_)⟩
      refine ⟨um, h126.cell 4 rfl rfl, _, h126.cell 4 rfl rfl, vt, h126.cell 4 rfl rfl, ?_⟩
      refine ⟨um, vt, ?_, ?_⟩
      · rw [← hp2, hMq.tot]
      · rw [← hp2]; exact h126.drop.two
end Go.Proofs.YtkgoanjemhbjgaaGreat

/- SpaceFork as the law asks it. Conditions: none. -/
set_option linter.unusedVariables false
set_option linter.unusedSimpArgs false
namespace Go.Proofs.YtkgoanjemhbjgaaGreat
open Go Go.Den
noncomputable def forkP (x : DPool) (root : Int) : DPool := ⟨(forkF x.Mem x.Free.Total x.Free.Free root).1.1, ⟨(forkF x.Mem x.Free.Total x.Free.Free root).1.2.1, (forkF x.Mem x.Free.Total x.Free.Free root).1.2.2⟩⟩
noncomputable def forkN (x : DPool) (root : Int) : Int := (forkF x.Mem x.Free.Total x.Free.Free root).2
theorem fork_out {m : List Int} {T : Int} {fr : List DBlock} {root : Int} (hm : ∀ x, x ∈ m → 0 ≤ x ∧ x ≤ 255) (hl : m.length ≤ 1048576) (hf : fr.length ≤ 1048576) (hT : (Lit.int .i64 T).wf = true) (hfw : ∀ x, x ∈ fr → (Lit.int .i64 x.At).wf = true ∧ (Lit.int .i64 x.Order).wf = true) : POut (forkF m T fr root).1.1 (forkF m T fr root).1.2.1 (forkF m T fr root).1.2.2 := by
  rcases hsp : spaceT m T fr root with _ | S
  · rw [forkF_none hsp]
    exact ⟨fun x hx => absurd hx List.not_mem_nil, Nat.zero_le _, Nat.zero_le _, by decide, fun x hx => absurd hx List.not_mem_nil⟩
  · by_cases hs : sumO fr < (S.length : Int)
    · rw [forkF_full hsp hs]
      exact ⟨hm, by show m.length ≤ _; omega, by show fr.length ≤ _; omega, hT, hfw⟩
    · rw [forkF_some hsp hs]
      have hro := ro_all hm hf hsp _ (Nat.le_refl _)
      rw [List.take_length] at hro
      obtain ⟨fr1, htk, hf0, hf1, hmq, htkP⟩ := fork_take hro hsp hs
      have hleafs := ro_leaf_ok hm hsp
      have := mq_all (L := (seg (desc m 2 root) 0 pgN).map roL) (fun l hl => by have := hleafs l hl; exact ⟨this.2.2.2.1, this.2.2.2.2.1, this.2.2.2.2.2.1, this.2.2.2.2.2.2⟩) hmq
      exact this.gv.out (by omega)
theorem fork_outD {x : DPool} {root : Int} {w : World} {cs : List Value} (h : IsD w x.dat cs) (hs : x.dat.sz ≤ 1048576) : POut (forkP x root).Mem (forkP x root).Free.Total (forkP x root).Free.Free := by
  have hw := pool_wf h
  obtain ⟨sm, sf, rfl, hm, hf⟩ := pool_of h hs
  have hx := pool_few hs
  exact fork_out hm.rng hx.1 hx.2 hw.1 hw.2
theorem forkP_cnt {x : DPool} {root : Int} {w : World} {cs : List Value} (h : IsD w x.dat cs) (hs : x.dat.sz ≤ 1048576) : (forkP x root).dat.cntT ≤ 8388608 := by
  have h1 := (fork_outD (root := root) h hs).2.1
  have h2 := (fork_outD (root := root) h hs).2.2.1
  rw [cnt_pool]; omega
theorem fork_post {x : DPool} {root : Int} {w w' : World} {v : Value} {cs : List Value} (hi : IsD w x.dat cs) (hs : x.dat.sz ≤ 1048576) (h : DropV (forkF x.Mem x.Free.Total x.Free.Free root) w v w') : ∃ y, v = .tuple #[.agg ⟨y⟩, .int .i64 (forkN x root)] ∧ Fr w.heap.size w'.heap.size w' (forkP x root).dat y ∧ Ext w w' := by
  obtain ⟨tm, tf, rfl, hp⟩ := h
  exact ⟨_, rfl, SH.poolFr hp (fork_outD (root := root) hi hs), hp.ext⟩
theorem specSpaceFork {x : DPool} {root : Int} {w : World} {cs : List Value} (h : IsD w x.dat cs) (hs : x.dat.sz ≤ 1048576) : CallW Tryz.prog 6 #[.agg ⟨cs⟩, .int .i64 root] w (fun v w' => ∃ y, v = .tuple #[.agg ⟨y⟩, .int .i64 (forkN x root)] ∧ Fr w.heap.size w'.heap.size w' (forkP x root).dat y ∧ Ext w w') := by
  have hi := h
  obtain ⟨sm, sf, rfl, hm, hf⟩ := pool_of h hs
  exact (s6 hm hf (pool_few hs).2).mono (fun v w' hv => fork_post hi hs hv)
theorem implSpaceFork {x : DPool} {root : Int} {w : World} {cs : List Value} (h : IsD w x.dat cs) (hs : x.dat.sz ≤ 1048576) : CallW Tryz.prog 8 #[.agg ⟨cs⟩, .int .i64 root] w (fun v w' => ∃ y, v = .tuple #[.agg ⟨y⟩, .int .i64 (forkN x root)] ∧ Fr w.heap.size w'.heap.size w' (forkP x root).dat y ∧ Ext w w') := by
  have hi := h
  obtain ⟨sm, sf, rfl, hm, hf⟩ := pool_of h hs
  exact (s8 hm hf (pool_few hs).2).mono (fun v w' hv => fork_post hi hs hv)
end Go.Proofs.YtkgoanjemhbjgaaGreat

/- The walk of a law: copies, both sides, comparisons; printed by a program. Conditions: none. -/
set_option linter.unusedVariables false
set_option linter.unusedSimpArgs false
set_option maxRecDepth 4000
namespace Go.Proofs.YtkgoanjemhbjgaaGreat
open Go Go.Den
theorem goc3 {a0_0 : Sl} {a0_1 : Int} {a0_2 : Sl} {a1 : Int} {w : World} {K : Value → World → Prop} (h : W3 a0_0 a0_1 a0_2 a1 w K) : Calls Tryz.prog 3 #[.agg #[.slice a0_0.a a0_0.len a0_0.cap, .int .i64 a0_1, .slice a0_2.a a0_2.len a0_2.cap], .int .i64 a1] w (fun e w' => ∃ v, e = .returned v ∧ K v w') :=
  denFn_sound tt_ok mix Tryz.func3 (by kernel_rfl) (eq3 a0_0 a0_1 a0_2 a1 w K ▸ h)
theorem walk3 {w : World} {x : DPool} {cs0 : List Value} (h0 : IsD w (x.dat) cs0) {root : Int} (wf1 : (Lit.int .i64 root).wf = true) : Calls Tryz.prog 3 #[.agg ⟨cs0⟩, .int .i64 root] w (fun e w' => ∃ v, e = .returned v ∧ (v = .bool true ∧ Ext w w')) := by
  obtain ⟨p0_0, p0_1_1, rfl, _, _, _, _⟩ := cells_Pool h0
  refine goc3 ?_
  unfold W3
  refine alloc_step (fun w1 ew1 hbw1 nw1 => ?_)
  have e := ew1
  have zw1 := ew1.size
  refine ⟨p0_0, hbw1.cell 0, ?_⟩
  refine ⟨_, hbw1.cell 1, ?_⟩
  refine ⟨p0_1_1, hbw1.cell 2, ?_⟩
  refine (c5 (DPool.has _) (IsD.ext e _ _ h0) (by omega) (by omega)).mono ?_
  rintro _ w6 ⟨⟨rw6, rfl, hrw6⟩, ew6⟩
  have hbw1 := hbw1.ext ew6
  have e := Only.trans e ew6
  have zw6 := ew6.size
  refine ⟨_, rfl, ?_⟩
  refine BIf.dec (fun hn => ⟨rfl, e⟩) (fun hpw6 => ?_)
  have sz0 : (x.dat).sz ≤ 1048576 := by omega
  refine ⟨p0_0, hbw1.cell 0, ?_⟩
  refine ⟨_, hbw1.cell 1, ?_⟩
  refine ⟨p0_1_1, hbw1.cell 2, ?_⟩
  refine (c7 (DPool.has _) (IsD.ext e _ _ h0) (by have := sz0; omega)).mono ?_
  rintro _ w12 ⟨yw12, rfl, fw12, ew12⟩
  have hbw1 := hbw1.ext ew12
  have e := Only.trans e ew12
  have zw12 := ew12.size
  have hiyw12 := fw12.is
  obtain ⟨ryw12_0, ryw12_1_1, rfl, _, _, _, _⟩ := cells_Pool hiyw12
  refine ⟨ryw12_0, _, ryw12_1_1, rfl, ?_⟩
  refine (specSpaceFork (root := root) fw12.is sz0).mono ?_
  rintro _ w17 ⟨yw17_0, rfl, fw17_0, ew17⟩
  have hbw1 := hbw1.ext ew17
  have fw12 := fw12.ext ew17
  have e := Only.trans e ew17
  have zw17 := ew17.size
  have hiyw17_0 := fw17_0.is
  obtain ⟨ryw17_0_0, ryw17_0_1_1, rfl, _, _, _, _⟩ := cells_Pool hiyw17_0
  refine ⟨ryw17_0_0, _, ryw17_0_1_1, _, rfl, ?_⟩
  refine alloc_step (fun w22 ew22 hbw22 nw22 => ?_)
  have hbw1 := hbw1.ext ew22
  have fw12 := fw12.ext ew22
  have fw17_0 := fw17_0.ext ew22
  have e := Only.trans e ew22
  have zw22 := ew22.size
  refine put_step hbw22 rfl rfl (fun w23 ow23 hbw22q nw23 => ?_)
  have hbw1 := hbw1.only ow23 (by omega)
  have fw12 := fw12.only ow23 (fun k h1 h2 => by omega)
  have fw17_0 := fw17_0.only ow23 (fun k h1 h2 => by omega)
  have e := Ext.own e ow23 (fun k hk => by omega)
  have hbw22 := hbw22q
  refine ⟨p0_0, hbw1.cell 0, ?_⟩
  refine ⟨_, hbw1.cell 1, ?_⟩
  refine ⟨p0_1_1, hbw1.cell 2, ?_⟩
  refine (c7 (DPool.has _) (IsD.ext e _ _ h0) (by have := sz0; omega)).mono ?_
  rintro _ w28 ⟨yw28, rfl, fw28, ew28⟩
  have hbw1 := hbw1.ext ew28
  have hbw22 := hbw22.ext ew28
  have fw12 := fw12.ext ew28
  have fw17_0 := fw17_0.ext ew28
  have e := Only.trans e ew28
  have zw28 := ew28.size
  have hiyw28 := fw28.is
  obtain ⟨ryw28_0, ryw28_1_1, rfl, _, _, _, _⟩ := cells_Pool hiyw28
  refine ⟨ryw28_0, _, ryw28_1_1, rfl, ?_⟩
  refine alloc_step (fun w32 ew32 hbw32 nw32 => ?_)
  have hbw1 := hbw1.ext ew32
  have hbw22 := hbw22.ext ew32
  have fw12 := fw12.ext ew32
  have fw17_0 := fw17_0.ext ew32
  have fw28 := fw28.ext ew32
  have e := Only.trans e ew32
  have zw32 := ew32.size
  refine put_step hbw32 rfl rfl (fun w33 ow33 hbw32q nw33 => ?_)
  have hbw1 := hbw1.only ow33 (by omega)
  have hbw22 := hbw22.only ow33 (by omega)
  have fw12 := fw12.only ow33 (fun k h1 h2 => by omega)
  have fw17_0 := fw17_0.only ow33 (fun k h1 h2 => by omega)
  have fw28 := fw28.only ow33 (fun k h1 h2 => by omega)
  have e := Ext.own e ow33 (fun k hk => by omega)
  have hbw32 := hbw32q
  refine ⟨ryw28_0, hbw32.cell 0, ?_⟩
  refine ⟨_, hbw32.cell 1, ?_⟩
  refine ⟨ryw28_1_1, hbw32.cell 2, ?_⟩
  refine (implSpaceFork (root := root) fw28.is sz0).mono ?_
  rintro _ w38 ⟨yw38_0, rfl, fw38_0, ew38⟩
  have hbw1 := hbw1.ext ew38
  have hbw22 := hbw22.ext ew38
  have hbw32 := hbw32.ext ew38
  have fw12 := fw12.ext ew38
  have fw17_0 := fw17_0.ext ew38
  have fw28 := fw28.ext ew38
  have e := Only.trans e ew38
  have zw38 := ew38.size
  have hiyw38_0 := fw38_0.is
  obtain ⟨ryw38_0_0, ryw38_0_1_1, rfl, _, _, _, _⟩ := cells_Pool hiyw38_0
  refine ⟨ryw38_0_0, _, ryw38_0_1_1, _, rfl, ?_⟩
  refine alloc_step (fun w43 ew43 hbw43 nw43 => ?_)
  have hbw1 := hbw1.ext ew43
  have hbw22 := hbw22.ext ew43
  have hbw32 := hbw32.ext ew43
  have fw12 := fw12.ext ew43
  have fw17_0 := fw17_0.ext ew43
  have fw28 := fw28.ext ew43
  have fw38_0 := fw38_0.ext ew43
  have e := Only.trans e ew43
  have zw43 := ew43.size
  refine put_step hbw43 rfl rfl (fun w44 ow44 hbw43q nw44 => ?_)
  have hbw1 := hbw1.only ow44 (by omega)
  have hbw22 := hbw22.only ow44 (by omega)
  have hbw32 := hbw32.only ow44 (by omega)
  have fw12 := fw12.only ow44 (fun k h1 h2 => by omega)
  have fw17_0 := fw17_0.only ow44 (fun k h1 h2 => by omega)
  have fw28 := fw28.only ow44 (fun k h1 h2 => by omega)
  have fw38_0 := fw38_0.only ow44 (fun k h1 h2 => by omega)
  have e := Ext.own e ow44 (fun k hk => by omega)
  have hbw43 := hbw43q
  refine ⟨ryw38_0_0, hbw43.cell 0, ?_⟩
  refine ⟨_, hbw43.cell 1, ?_⟩
  refine ⟨ryw38_0_1_1, hbw43.cell 2, ?_⟩
  refine ⟨ryw17_0_0, hbw22.cell 0, ?_⟩
  refine ⟨_, hbw22.cell 1, ?_⟩
  refine ⟨ryw17_0_1_1, hbw22.cell 2, ?_⟩
  refine (c9 (DPool.has _) fw38_0.is fw17_0.is).mono ?_
  rintro _ w52 ⟨rfl, ew52⟩
  have hbw1 := hbw1.ext ew52
  have hbw22 := hbw22.ext ew52
  have hbw32 := hbw32.ext ew52
  have hbw43 := hbw43.ext ew52
  have fw12 := fw12.ext ew52
  have fw17_0 := fw17_0.ext ew52
  have fw28 := fw28.ext ew52
  have fw38_0 := fw38_0.ext ew52
  have e := Only.trans e ew52
  have zw52 := ew52.size
  refine ⟨_, rfl, ?_⟩
  refine JoinW.each ?_
  refine BIf.f rfl ?_
  refine BIf.f (by first | (simp; done) | (simp; omega)) ?_
  have ed := ext_drew w52
  have hbw1 := hbw1.ext ed
  have hbw22 := hbw22.ext ed
  have hbw32 := hbw32.ext ed
  have hbw43 := hbw43.ext ed
  have fw12 := fw12.ext ed
  have fw17_0 := fw17_0.ext ed
  have fw28 := fw28.ext ed
  have fw38_0 := fw38_0.ext ed
  have e := Only.trans e ed
  have zw52_drew := ed.size
  refine ⟨ryw28_0, hbw32.cell 0, ?_⟩
  refine ⟨_, hbw32.cell 1, ?_⟩
  refine ⟨ryw28_1_1, hbw32.cell 2, ?_⟩
  refine ⟨p0_0, hbw1.cell 0, ?_⟩
  refine ⟨_, hbw1.cell 1, ?_⟩
  refine ⟨p0_1_1, hbw1.cell 2, ?_⟩
  refine (c7 (DPool.has _) (IsD.ext e _ _ h0) (by have := sz0; omega)).mono ?_
  rintro _ w64 ⟨yw64, rfl, fw64, ew64⟩
  have hbw1 := hbw1.ext ew64
  have hbw22 := hbw22.ext ew64
  have hbw32 := hbw32.ext ew64
  have hbw43 := hbw43.ext ew64
  have fw12 := fw12.ext ew64
  have fw17_0 := fw17_0.ext ew64
  have fw28 := fw28.ext ew64
  have fw38_0 := fw38_0.ext ew64
  have e := Only.trans e ew64
  have zw64 := ew64.size
  have hiyw64 := fw64.is
  obtain ⟨ryw64_0, ryw64_1_1, rfl, _, _, _, _⟩ := cells_Pool hiyw64
  refine ⟨ryw64_0, _, ryw64_1_1, rfl, ?_⟩
  refine ⟨⟨ryw28_0, hbw32.cell 0, _, hbw32.cell 1, ryw28_1_1, hbw32.cell 2, rfl⟩, ?_⟩
  refine (c9 (DPool.has _) fw28.is fw64.is).mono ?_
  rintro _ w72 ⟨rfl, ew72⟩
  have hbw1 := hbw1.ext ew72
  have hbw22 := hbw22.ext ew72
  have hbw32 := hbw32.ext ew72
  have hbw43 := hbw43.ext ew72
  have fw12 := fw12.ext ew72
  have fw17_0 := fw17_0.ext ew72
  have fw28 := fw28.ext ew72
  have fw38_0 := fw38_0.ext ew72
  have fw64 := fw64.ext ew72
  have e := Only.trans e ew72
  have zw72 := ew72.size
  refine ⟨_, rfl, ?_⟩
  refine BIf.f rfl ?_
  refine ⟨ryw28_0, hbw32.cell 0, ?_⟩
  refine ⟨_, hbw32.cell 1, ?_⟩
  refine ⟨ryw28_1_1, hbw32.cell 2, ?_⟩
  obtain ⟨bsw78, oww78, ndw78, rgw78⟩ := fw28
  refine (c10 (DPool.has _) oww78 ndw78 (by omega) (by have := sz0; have := pool_cnt sz0; (try simp only [Dat.cntT, Dat.cntTs] at *); omega)).mono ?_
  rintro _ w78 ⟨rfl, dw78, cnw78, hsw78, mkw78, oww78, ow78⟩
  have hbw1 := hbw1.only ow78 (fun hk => by have := rgw78 _ hk; omega)
  have hbw22 := hbw22.only ow78 (fun hk => by have := rgw78 _ hk; omega)
  have hbw32 := hbw32.only ow78 (fun hk => by have := rgw78 _ hk; omega)
  have hbw43 := hbw43.only ow78 (fun hk => by have := rgw78 _ hk; omega)
  have fw12 := fw12.only ow78 (fun k h1 h2 hk => by have := rgw78 k hk; omega)
  have fw17_0 := fw17_0.only ow78 (fun k h1 h2 hk => by have := rgw78 k hk; omega)
  have fw38_0 := fw38_0.only ow78 (fun k h1 h2 hk => by have := rgw78 k hk; omega)
  have fw64 := fw64.only ow78 (fun k h1 h2 hk => by have := rgw78 k hk; omega)
  have e := Ext.own e ow78 (fun k hk => by have := rgw78 k hk; omega)
  have zw78 := ow78.size
  have fw78 : Fr _ _ w78 dw78 _ := ⟨bsw78, oww78, ndw78, rgw78⟩
  refine ⟨_, rfl, ?_⟩
  refine JoinW.each ?_
  refine BIf.f (decide_eq_false (by omega)) ?_
  refine ⟨ryw38_0_0, hbw43.cell 0, ?_⟩
  refine ⟨_, hbw43.cell 1, ?_⟩
  refine ⟨ryw38_0_1_1, hbw43.cell 2, ?_⟩
  refine ⟨ryw17_0_0, hbw22.cell 0, ?_⟩
  refine ⟨_, hbw22.cell 1, ?_⟩
  refine ⟨ryw17_0_1_1, hbw22.cell 2, ?_⟩
  refine (c9 (DPool.has _) fw38_0.is fw17_0.is).mono ?_
  rintro _ w139 ⟨rfl, ew139⟩
  have hbw1 := hbw1.ext ew139
  have hbw22 := hbw22.ext ew139
  have hbw32 := hbw32.ext ew139
  have hbw43 := hbw43.ext ew139
  have fw12 := fw12.ext ew139
  have fw17_0 := fw17_0.ext ew139
  have fw38_0 := fw38_0.ext ew139
  have fw64 := fw64.ext ew139
  have fw78 := fw78.ext ew139
  have e := Only.trans e ew139
  have zw139 := ew139.size
  refine ⟨_, rfl, ?_⟩
  refine JoinW.each ?_
  refine BIf.f (by first | (simp; done) | (simp; omega)) ?_
  refine BIf.f (by first | (simp; done) | (simp; omega)) ?_
  refine ⟨ryw38_0_0, hbw43.cell 0, ?_⟩
  refine ⟨_, hbw43.cell 1, ?_⟩
  refine ⟨ryw38_0_1_1, hbw43.cell 2, ?_⟩
  obtain ⟨bsw90, oww90, ndw90, rgw90⟩ := fw38_0
  refine (c10 (DPool.has _) oww90 ndw90 (by omega) (by have := forkP_cnt (root := root) h0 sz0; omega)).mono ?_
  rintro _ w90 ⟨rfl, dw90, cnw90, hsw90, mkw90, oww90, ow90⟩
  have hbw1 := hbw1.only ow90 (fun hk => by have := rgw90 _ hk; omega)
  have hbw22 := hbw22.only ow90 (fun hk => by have := rgw90 _ hk; omega)
  have hbw32 := hbw32.only ow90 (fun hk => by have := rgw90 _ hk; omega)
  have hbw43 := hbw43.only ow90 (fun hk => by have := rgw90 _ hk; omega)
  have fw12 := fw12.only ow90 (fun k h1 h2 hk => by have := rgw90 k hk; omega)
  have fw17_0 := fw17_0.only ow90 (fun k h1 h2 hk => by have := rgw90 k hk; omega)
  have fw64 := fw64.only ow90 (fun k h1 h2 hk => by have := rgw90 k hk; omega)
  have fw78 := fw78.only ow90 (fun k h1 h2 hk => by have := rgw90 k hk; omega)
  have e := Ext.own e ow90 (fun k hk => by have := rgw90 k hk; omega)
  have zw90 := ow90.size
  have fw90 : Fr _ _ w90 dw90 _ := ⟨bsw90, oww90, ndw90, rgw90⟩
  refine ⟨_, rfl, ?_⟩
  refine ⟨ryw38_0_0, hbw43.cell 0, ?_⟩
  refine ⟨_, hbw43.cell 1, ?_⟩
  refine ⟨ryw38_0_1_1, hbw43.cell 2, ?_⟩
  refine (c11 hsw90 fw90.is mkw90 (by omega) (by have := cnw90; have := forkP_cnt (root := root) h0 sz0; omega)).mono ?_
  rintro _ w96 ⟨rfl, ew96⟩
  have hbw1 := hbw1.ext ew96
  have hbw22 := hbw22.ext ew96
  have hbw32 := hbw32.ext ew96
  have hbw43 := hbw43.ext ew96
  have fw12 := fw12.ext ew96
  have fw17_0 := fw17_0.ext ew96
  have fw64 := fw64.ext ew96
  have fw78 := fw78.ext ew96
  have fw90 := fw90.ext ew96
  have e := Only.trans e ew96
  have zw96 := ew96.size
  refine ⟨_, rfl, ?_⟩
  refine BIf.f (decide_eq_false (by omega)) ?_
  refine BIf.f (by first | (simp; done) | (simp; omega)) ?_
  refine ⟨p0_0, hbw1.cell 0, ?_⟩
  refine ⟨_, hbw1.cell 1, ?_⟩
  refine ⟨p0_1_1, hbw1.cell 2, ?_⟩
  refine (c7 (DPool.has _) (IsD.ext e _ _ h0) (by have := sz0; omega)).mono ?_
  rintro _ w102 ⟨yw102, rfl, fw102, ew102⟩
  have hbw1 := hbw1.ext ew102
  have hbw22 := hbw22.ext ew102
  have hbw32 := hbw32.ext ew102
  have hbw43 := hbw43.ext ew102
  have fw12 := fw12.ext ew102
  have fw17_0 := fw17_0.ext ew102
  have fw64 := fw64.ext ew102
  have fw78 := fw78.ext ew102
  have fw90 := fw90.ext ew102
  have e := Only.trans e ew102
  have zw102 := ew102.size
  have hiyw102 := fw102.is
  obtain ⟨ryw102_0, ryw102_1_1, rfl, _, _, _, _⟩ := cells_Pool hiyw102
  refine ⟨ryw102_0, _, ryw102_1_1, rfl, ?_⟩
  refine (implSpaceFork (root := root) fw102.is sz0).mono ?_
  rintro _ w107 ⟨yw107_0, rfl, fw107_0, ew107⟩
  have hbw1 := hbw1.ext ew107
  have hbw22 := hbw22.ext ew107
  have hbw32 := hbw32.ext ew107
  have hbw43 := hbw43.ext ew107
  have fw12 := fw12.ext ew107
  have fw17_0 := fw17_0.ext ew107
  have fw64 := fw64.ext ew107
  have fw78 := fw78.ext ew107
  have fw90 := fw90.ext ew107
  have fw102 := fw102.ext ew107
  have e := Only.trans e ew107
  have zw107 := ew107.size
  have hiyw107_0 := fw107_0.is
  obtain ⟨ryw107_0_0, ryw107_0_1_1, rfl, _, _, _, _⟩ := cells_Pool hiyw107_0
  refine ⟨ryw107_0_0, _, ryw107_0_1_1, _, rfl, ?_⟩
  refine alloc_step (fun w112 ew112 hbw112 nw112 => ?_)
  have hbw1 := hbw1.ext ew112
  have hbw22 := hbw22.ext ew112
  have hbw32 := hbw32.ext ew112
  have hbw43 := hbw43.ext ew112
  have fw12 := fw12.ext ew112
  have fw17_0 := fw17_0.ext ew112
  have fw64 := fw64.ext ew112
  have fw78 := fw78.ext ew112
  have fw90 := fw90.ext ew112
  have fw102 := fw102.ext ew112
  have fw107_0 := fw107_0.ext ew112
  have e := Only.trans e ew112
  have zw112 := ew112.size
  refine put_step hbw112 rfl rfl (fun w113 ow113 hbw112q nw113 => ?_)
  have hbw1 := hbw1.only ow113 (by omega)
  have hbw22 := hbw22.only ow113 (by omega)
  have hbw32 := hbw32.only ow113 (by omega)
  have hbw43 := hbw43.only ow113 (by omega)
  have fw12 := fw12.only ow113 (fun k h1 h2 => by omega)
  have fw17_0 := fw17_0.only ow113 (fun k h1 h2 => by omega)
  have fw64 := fw64.only ow113 (fun k h1 h2 => by omega)
  have fw78 := fw78.only ow113 (fun k h1 h2 => by omega)
  have fw90 := fw90.only ow113 (fun k h1 h2 => by omega)
  have fw102 := fw102.only ow113 (fun k h1 h2 => by omega)
  have fw107_0 := fw107_0.only ow113 (fun k h1 h2 => by omega)
  have e := Ext.own e ow113 (fun k hk => by omega)
  have hbw112 := hbw112q
  refine ⟨ryw107_0_0, hbw112.cell 0, ?_⟩
  refine ⟨_, hbw112.cell 1, ?_⟩
  refine ⟨ryw107_0_1_1, hbw112.cell 2, ?_⟩
  refine ⟨ryw17_0_0, hbw22.cell 0, ?_⟩
  refine ⟨_, hbw22.cell 1, ?_⟩
  refine ⟨ryw17_0_1_1, hbw22.cell 2, ?_⟩
  refine (c9 (DPool.has _) fw107_0.is fw17_0.is).mono ?_
  rintro _ w121 ⟨rfl, ew121⟩
  have hbw1 := hbw1.ext ew121
  have hbw22 := hbw22.ext ew121
  have hbw32 := hbw32.ext ew121
  have hbw43 := hbw43.ext ew121
  have hbw112 := hbw112.ext ew121
  have fw12 := fw12.ext ew121
  have fw17_0 := fw17_0.ext ew121
  have fw64 := fw64.ext ew121
  have fw78 := fw78.ext ew121
  have fw90 := fw90.ext ew121
  have fw102 := fw102.ext ew121
  have fw107_0 := fw107_0.ext ew121
  have e := Only.trans e ew121
  have zw121 := ew121.size
  refine ⟨_, rfl, ?_⟩
  refine JoinW.each ?_
  refine BIf.f rfl ?_
  refine BIf.f (by first | (simp; done) | (simp; omega)) ?_
  refine ⟨ryw38_0_0, hbw43.cell 0, ?_⟩
  refine ⟨_, hbw43.cell 1, ?_⟩
  refine ⟨ryw38_0_1_1, hbw43.cell 2, ?_⟩
  refine (c11 hsw90 fw90.is mkw90 (by omega) (by have := cnw90; have := forkP_cnt (root := root) h0 sz0; omega)).mono ?_
  rintro _ w130 ⟨rfl, ew130⟩
  have hbw1 := hbw1.ext ew130
  have hbw22 := hbw22.ext ew130
  have hbw32 := hbw32.ext ew130
  have hbw43 := hbw43.ext ew130
  have hbw112 := hbw112.ext ew130
  have fw12 := fw12.ext ew130
  have fw17_0 := fw17_0.ext ew130
  have fw64 := fw64.ext ew130
  have fw78 := fw78.ext ew130
  have fw90 := fw90.ext ew130
  have fw102 := fw102.ext ew130
  have fw107_0 := fw107_0.ext ew130
  have e := Only.trans e ew130
  have zw130 := ew130.size
  refine ⟨_, rfl, ?_⟩
  refine BIf.f (decide_eq_false (by omega)) ?_
  refine BIf.f (by first | (simp; done) | (simp; omega)) ?_
  exact ⟨by trivial, e⟩
open Go.RowKit in
theorem law_calls3 {w : World} {c0 : Array Value} {x : DPool} (h0 : cDPool.is w c0.toList x) {root : Int} (wf1 : (Lit.int .i64 root).wf = true) : Calls Tryz.prog 3 #[.agg c0, .int .i64 root] w (fun e w' => e = .returned (.bool true) ∧ Below w.heap.size w w') :=
  (walk3 (cDPool_dat h0) (root := root) wf1).mono (by rintro e w' ⟨v, rfl, rfl, he⟩; exact ⟨rfl, he.below⟩)
end Go.Proofs.YtkgoanjemhbjgaaGreat

/- The row of the law FnExactSpaceFork: what its walk shows is what the statement says. Conditions: none. -/
namespace Go.Proofs.YtkgoanjemhbjgaaGreat.fnExactSpaceFork
open Go.ChangeShapes Go.WideShapes Go.ChangeAt Go.RowKit
open Go.ChangeMaps (open_string shut_string)
set_option linter.unusedVariables false
theorem own : ownKnob Tryz.prog.godebug = none := by kernel_rfl
theorem laidOut : laidOutB Tryz.prog = true := by kernel_rfl
set_option maxRecDepth 100000 in
theorem lifted (os : Os) (started : os.Started) (H : Type) (enc : TypeId × Value → H) :
    ReturnsInHanded {} Tryz.checked os 3 .any (Rows.fnExactSpaceForkSpec.pre6 enc Tryz.prog Tryz.f3 Rows.fnExactSpaceForkRow.domain false) (Rows.fnExactSpaceForkSpec.post enc Tryz.prog Tryz.f3 false true false false) := by
  refine returnsInHanded_of_change_sized (C := Tryz.checked) own started (by kernel_rfl) Tryz.func3
    (ChangeSpec.witness6 (enc := enc) (C := Tryz.checked) false ⟨#[], #[.agg #[.slice none 0 0, .int .i64 0, .slice none 0 0], .int .i64 0], []⟩ 8 (by kernel_rfl) (by kernel_rfl) (by kernel_rfl) (by kernel_rfl)) ?_
  intro W base args ds gs before hval0 hW hcnd hsz0 _
  have hsz : (DataW.weightsEach Tryz.prog (Tryz.f3.params.toList ++ Rows.fnExactSpaceForkSpec.plain.varTypes Tryz.prog) (ds ++ gs)).all (· ≤ reachBytes) = true := hsz0
  have hval : ∀ (j : Nat) t v, Tryz.f3.params[j]? = some t → args[j]? = some v → Value.okWide Tryz.prog W .any base t v := hval0
  have hW' := hW
  obtain ⟨p, q, hA0, hV, rfl, hfz, hnd⟩ := hW
  have hA : DataW.TrodAll enc Tryz.prog W 0 (fun _ => true) true Tryz.f3.params.toList args.toList ds p := hA0
  rw [Tryz.params3] at hA hval hsz
  obtain ⟨v0, vs0, d0, ds0, p0, q0, hargs, rfl, rfl, h0, r0⟩ := trodAll_cons hA
  obtain ⟨v1, vs1, d1, ds1, p1, q1, rfl, rfl, rfl, h1, r1⟩ := trodAll_cons r0
  obtain ⟨rfl, rfl, rfl⟩ := trodAll_nil r1
  obtain rfl : args = #[v0, v1] := by cases args; simp_all
  obtain ⟨rfl, rfl⟩ := trodVars_none hV
  have k0 := h0
  have lt0 : ∀ x ∈ p0, x.block < W.heap.size := by obtain ⟨m, hm⟩ := k0; exact DataW.trod_lt m _ _ _ hm
  obtain ⟨c0, rfl⟩ : ∃ cs, v0 = .agg cs := by have hv := (hval 0 27 v0 rfl rfl); unfold Value.okWide at hv; rw [Tryz.underlying27] at hv; exact ⟨hv.choose, hv.choose_spec.1⟩
  obtain ⟨x0, w0⟩ : ∃ x, (cDPool).is W c0.toList x := by obtain ⟨fuel, hf⟩ := h0; exact ((o27).at_ enc W fuel _ _ hf).2
  obtain ⟨a1, rfl, rfl, rfl, w1⟩ := open_int Tryz.underlying2 (hval 1 2 v1 rfl rfl) h1
  clear hA0 hval0 hsz0 hsz
  refine (law_calls3 w0 w1).mono fun e W' ⟨he, bel⟩ => ?_
  subst he
  exact ⟨_, rfl, _, _, _, [], _, [], hW', trodAll_mk1 (shut_bool Tryz.underlying4 _), (trodAll_cons_mk (Below.trod laidOut (by kernel_rfl) (of_decide_eq_true (by kernel_rfl)) k0 bel lt0) (trodAll_cons_mk (shut_int Tryz.underlying2 w1) trodAll_mk0)), rfl, bel.frame _, fun h => by cases h⟩
theorem over : Rows.fnExactSpaceForkRow.holds Tryz.pinned (OpenSpec.ofChange Rows.fnExactSpaceForkSpec) :=
  OpenClaim.holds_of_wide 3 Tryz.f3 rfl rfl rfl rfl rfl rfl rfl ⟨rfl, rfl, rfl, rfl, rfl⟩ rfl rfl rfl rfl rfl (by kernel_rfl) Tryz.func3 (by kernel_rfl)
    (of_decide_eq_true (by kernel_rfl)) (by unfold Func.isWrapper; first | (rw [if_pos (by decide +kernel)]; kernel_rfl) | (rw [if_neg (by decide +kernel)]; exact ⟨rfl, rfl⟩))
    (fun os started H enc _ => lifted os started H enc)
theorem proved : Rows.FnExactSpaceForkSaid := over
#print axioms proved
end Go.Proofs.YtkgoanjemhbjgaaGreat.fnExactSpaceFork
namespace Go.Proofs.YtkgoanjemhbjgaaGreat
/-- The row, under a short name, for the claim. -/
theorem fnExactSpaceFork_holds : Rows.FnExactSpaceForkSaid := fnExactSpaceFork.proved
end Go.Proofs.YtkgoanjemhbjgaaGreat
