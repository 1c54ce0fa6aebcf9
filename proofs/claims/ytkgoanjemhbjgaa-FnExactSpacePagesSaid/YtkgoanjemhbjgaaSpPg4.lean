/- Part 4 of 4: plain readings of code, rules for them, and a proof over them, joined by a program. Conditions: none. -/
import Derived.Test.YtkgoanjemhbjgaaSpPg3
import Derived.Test.YtkgoanjemhbjgaaProg
import Derived.Test.YtkgoanjemhbjgaaRows
import Derived.WalkKit
import Derived.ProofKit
import Derived.OpenShut
import Derived.ShutString
import Derived.ChangeOld
import Derived.Below
import Derived.Carry
import Derived.SizedLaws
/- Spaces: pools that can be, which frames are free, copies, an entry read. Conditions: none. -/
set_option linter.unusedVariables false
set_option linter.unusedSimpArgs false
namespace Go.Proofs.Ytkgoanjemhbjgaa
open Go Go.Den
def mOk (m : List Int) : Bool := decide (m.length % 256 = 0) && decide (m.length ≤ 262144)
theorem c159 {s : Sl} {m : List Int} {w : World} (h : s.len = m.length) : CallW Try.prog 159 #[.slice s.a s.len s.cap] w (fun v w' => v = .bool (mOk m) ∧ w' = w) := by
  refine go159 ?_
  unfold W159
  refine ⟨by omega, ?_⟩
  simp only [join_and]
  refine ⟨?_, by trivial⟩
  congr 1
  rw [h, Int.tmod_eq_emod_of_nonneg (by omega)]
  unfold mOk
  apply Bool.eq_iff_iff.2
  simp only [Bool.and_eq_true, decide_eq_true_eq, beq_iff_eq]
  omega
theorem c155 {s : Sl} {m : List Int} {w : World} (h : s.len = m.length) : CallW Try.prog 155 #[.slice s.a s.len s.cap] w (fun v w' => v = .bool (mOk m) ∧ w' = w) := by
  refine go155 ?_
  unfold W155
  refine ⟨by omega, ?_⟩
  simp only [join_and]
  refine ⟨?_, by trivial⟩
  congr 1
  rw [h, Int.tmod_eq_emod_of_nonneg (by omega)]
  unfold mOk
  apply Bool.eq_iff_iff.2
  simp only [Bool.and_eq_true, decide_eq_true_eq, beq_iff_eq]
  omega
def POk (m : List Int) (T : Int) (fr : List DBlock) : Prop := m.length % 256 = 0 ∧ m.length ≤ 262144 ∧ FOk T fr ∧ T = ((m.length / 256 : Nat) : Int)
theorem c99 {sm sf : Sl} {m : List Int} {T : Int} {fr : List DBlock} {w : World} (hm : Bytes w sm m) (hf : FrAt w sf fr) : CallW Try.prog 99 #[.agg #[.slice sm.a sm.len sm.cap, .int .i64 T, .slice sf.a sf.len sf.cap]] w (KB (POk m T fr) w) := by
  refine go99 ?_
  unfold W99
  have hl := hm.len
  have hsm := hm.small
  refine alloc_step (fun w1 e hb n1 => ?_)
  refine ⟨sm, hb.cell 0, (c159 hl).mono ?_⟩
  rintro _ w1 ⟨rfl, rfl⟩
  refine ⟨_, rfl, ?_⟩
  refine JoinW.cut1 (fun (b : Bool) w' => (b = true ↔ m.length % 256 = 0 ∧ m.length ≤ 262144 ∧ FOk T fr) ∧ Ext w1 w') ?_ ?_
  · refine BIf.of (fun h => ⟨_, hb.cell 1, sf, hb.cell 2, (c160 (hf.ext e)).mono ?_⟩) (fun h => ⟨⟨(fun h => nomatch h), fun hp => ?_⟩, Only.refl _ _⟩)
    · rintro _ w2 ⟨b, rfl, hiff, e2⟩
      refine ⟨b, rfl, ?_, e2⟩
      rw [hiff]
      simp only [mOk, Bool.and_eq_true, decide_eq_true_eq] at h
      exact ⟨fun hp => ⟨h.1, h.2, hp⟩, fun hp => hp.2.2⟩
    · simp only [mOk, Bool.and_eq_false_iff, decide_eq_false_iff_not] at h
      have := hp.1; have := hp.2.1
      omega
  rintro (b : Bool) w2 ⟨hiff, e2⟩
  have hb2 := hb.ext e2
  refine JoinW.cut1 (fun (b : Bool) w' => (b = true ↔ POk m T fr) ∧ w' = w2) ?_ ?_
  · refine BIf.of (fun h => ⟨_, hb2.cell 1, sm, hb2.cell 0, by omega, ?_, rfl⟩) (fun h => ⟨⟨(fun h => nomatch h), fun hp => ?_⟩, rfl⟩)
    · have hp := hiff.1 h
      rw [hl, Int.tdiv_eq_ediv_of_nonneg (by omega), w64 (by omega) (by omega), beq_iff_eq]
      exact ⟨fun hT => ⟨hp.1, hp.2.1, hp.2.2, by omega⟩, fun h => by have := h.2.2.2; omega⟩
    · rw [hiff.2 ⟨hp.1, hp.2.1, hp.2.2.1⟩] at h; cases h
  rintro (b : Bool) w2 ⟨hiff2, rfl⟩
  exact ⟨b, rfl, hiff2, Only.trans e e2⟩
theorem c94 {sm sf : Sl} {m : List Int} {T : Int} {fr : List DBlock} {w : World} (hm : Bytes w sm m) (hf : FrAt w sf fr) : CallW Try.prog 94 #[.agg #[.slice sm.a sm.len sm.cap, .int .i64 T, .slice sf.a sf.len sf.cap]] w (KB (POk m T fr) w) := by
  refine go94 ?_
  unfold W94
  have hl := hm.len
  have hsm := hm.small
  refine alloc_step (fun w1 e hb n1 => ?_)
  refine ⟨sm, hb.cell 0, (c155 hl).mono ?_⟩
  rintro _ w1 ⟨rfl, rfl⟩
  refine ⟨_, rfl, ?_⟩
  refine JoinW.cut1 (fun (b : Bool) w' => (b = true ↔ m.length % 256 = 0 ∧ m.length ≤ 262144 ∧ FOk T fr) ∧ Ext w1 w') ?_ ?_
  · refine BIf.of (fun h => ⟨_, hb.cell 1, sf, hb.cell 2, (c134 (hf.ext e)).mono ?_⟩) (fun h => ⟨⟨(fun h => nomatch h), fun hp => ?_⟩, Only.refl _ _⟩)
    · rintro _ w2 ⟨b, rfl, hiff, e2⟩
      refine ⟨b, rfl, ?_, e2⟩
      rw [hiff]
      simp only [mOk, Bool.and_eq_true, decide_eq_true_eq] at h
      exact ⟨fun hp => ⟨h.1, h.2, hp⟩, fun hp => hp.2.2⟩
    · simp only [mOk, Bool.and_eq_false_iff, decide_eq_false_iff_not] at h
      have := hp.1; have := hp.2.1
      omega
  rintro (b : Bool) w2 ⟨hiff, e2⟩
  have hb2 := hb.ext e2
  refine JoinW.cut1 (fun (b : Bool) w' => (b = true ↔ POk m T fr) ∧ w' = w2) ?_ ?_
  · refine BIf.of (fun h => ⟨_, hb2.cell 1, sm, hb2.cell 0, by omega, ?_, rfl⟩) (fun h => ⟨⟨(fun h => nomatch h), fun hp => ?_⟩, rfl⟩)
    · have hp := hiff.1 h
      rw [hl, Int.tdiv_eq_ediv_of_nonneg (by omega), w64 (by omega) (by omega), beq_iff_eq]
      exact ⟨fun hT => ⟨hp.1, hp.2.1, hp.2.2, by omega⟩, fun h => by have := h.2.2.2; omega⟩
    · rw [hiff.2 ⟨hp.1, hp.2.1, hp.2.2.1⟩] at h; cases h
  rintro (b : Bool) w2 ⟨hiff2, rfl⟩
  exact ⟨b, rfl, hiff2, Only.trans e e2⟩
/-! ## Which frames are free -/
def setR (l : List Bool) (a : Nat) : Nat → List Bool
  | 0 => l
  | k + 1 => (setR l a k).set (a + k) true
def fmapF : List DBlock → List Bool → List Bool
  | [], l => l
  | b :: r, l => fmapF r (setR l b.At.toNat (pw b.Order).toNat)
def freeL (T : Int) (fr : List DBlock) : List Bool := fmapF fr (List.replicate T.toNat false)
theorem setR_len (l : List Bool) (a : Nat) : ∀ k, (setR l a k).length = l.length
  | 0 => rfl
  | k + 1 => by unfold setR; rw [List.length_set, setR_len l a k]
theorem fmapF_app : ∀ (a b : List DBlock) (l : List Bool), fmapF (a ++ b) l = fmapF b (fmapF a l)
  | [], b, l => rfl
  | x :: a, b, l => fmapF_app a b (setR l x.At.toNat (pw x.Order).toNat)
theorem fmapF_len : ∀ (a : List DBlock) (l : List Bool), (fmapF a l).length = l.length
  | [], l => rfl
  | x :: a, l => by unfold fmapF; rw [fmapF_len a, setR_len]
theorem freeL_len (T : Int) (fr : List DBlock) : (freeL T fr).length = T.toNat := by unfold freeL; rw [fmapF_len, List.length_replicate]
theorem fmapF_take {fr : List DBlock} {k : Nat} {x : DBlock} (hx : fr[k]? = some x) (l : List Bool) : fmapF (fr.take (k + 1)) l = setR (fmapF (fr.take k) l) x.At.toNat (pw x.Order).toNat := by
  rw [List.take_add_one, hx, fmapF_app]; rfl
def bools (l : List Bool) : List Value := l.map Value.bool
theorem bools_len (l : List Bool) : (bools l).length = l.length := by unfold bools; simp
theorem bools_set (l : List Bool) (i : Nat) (b : Bool) : (bools l).set i (.bool b) = bools (l.set i b) := by unfold bools; rw [List.map_set]
theorem zeros_bool : ∀ n, zerosOf [Value.bool false] n = bools (List.replicate n false)
  | 0 => rfl
  | n + 1 => by rw [zerosOf, zeros_bool n, List.replicate_succ]; rfl
theorem set1_step {w : World} {b i : Nat} {vs : List Value} {v : Value} {k : World → Prop} (hb : Blk w b vs) (hi : i < vs.length) (h : ∀ w2, Only (fun j => j = b) w w2 → Blk w2 b (vs.set i v) → w2.heap.size = w.heap.size → k w2) :
    May w ((⟨b, 0, none⟩ : Addr).add (i * 1)) ∧ LetW (w.setCell ((⟨b, 0, none⟩ : Addr).add (i * 1)) v) k := by
  rw [add_mk, Nat.zero_add, Nat.mul_one]
  exact set_step hb hi h
/-- The map of free frames, made. -/
def FreeV (T : Int) (fr : List DBlock) (w : World) (v : Value) (w' : World) : Prop := ∃ b, v = .slice (some ⟨b, 0, none⟩) T.toNat T.toNat ∧ w.heap.size ≤ b ∧ Blk w' b (bools (freeL T fr)) ∧ Ext w w'
theorem c153 {l : Sl} {T : Int} {fr : List DBlock} {w : World} (h : FrAt w l fr) (hf : FOk T fr) : CallW Try.prog 153 #[.agg #[.int .i64 T, .slice l.a l.len l.cap]] w (FreeV T fr w) := by
  refine go153 ?_
  unfold W153
  have hT0 := hf.1
  have hT1 := hf.2.1
  refine alloc_step (fun w1 e hb n1 => ?_)
  refine ⟨_, hb.cell 0, by omega, by omega, by omega, by omega, alloc_step (fun w3 e3 hm n3 => ?_)⟩
  have hm : Blk w3 w1.heap.size (bools (fmapF (fr.take 0) (List.replicate T.toNat false))) := by
    rw [show zerosOf ti4.zero T.toNat = bools (List.replicate T.toNat false) from zeros_bool _] at hm
    exact hm
  have hb3 := hb.ext e3
  have h3 := h.ext (Only.trans e e3)
  have hl := h.len
  have hfew := h.few
  refine LoopW.m1 (fun (i : Int) w' => ∃ k : Nat, i = k ∧ k ≤ fr.length ∧ Blk w' w1.heap.size (bools (fmapF (fr.take k) (List.replicate T.toNat false))) ∧ Only (fun j => j = w1.heap.size) w3 w') (fun (i : Int) _ => ((fr.length : Int) - i).toNat) ⟨0, rfl, by omega, hm, Only.refl _ _⟩ ?_
  rintro (i : Int) w6 ⟨k, rfl, hk, hm6, o6⟩ J hJ
  have e16 : Ext w1 w6 := e3.own o6 (fun j hj => by omega)
  have hb6 := hb.ext e16
  refine ⟨l, hb6.cell 1, ?_⟩
  rw [hl]
  refine BIf.dec (fun hlt => ?_) (fun hge => ?_)
  · obtain ⟨x, hx⟩ : ∃ x, fr[k]? = some x := ⟨_, List.getElem?_eq_getElem (by omega)⟩
    have hbo := blkOk_out (hf.2.2 k x hx).1
    have hpw := pw_rng (o := x.Order) (by omega)
    refine LoopW.m1 (fun (i : Int) w' => ∃ q : Nat, i = q ∧ q ≤ (pw x.Order).toNat ∧ Blk w' w1.heap.size (bools (setR (fmapF (fr.take k) (List.replicate T.toNat false)) x.At.toNat q)) ∧ Only (fun j => j = w1.heap.size) w3 w') (fun (i : Int) _ => (pw x.Order - i).toNat) ⟨0, rfl, by omega, hm6, o6⟩ ?_
    rintro (i : Int) w10 ⟨q, rfl, hq, hm10, o10⟩ J2 hJ2
    have e10 : Ext w1 w10 := e3.own o10 (fun j hj => by omega)
    have hb10 := hb.ext e10
    obtain ⟨p, hp, hc0, hc1⟩ := (h.ext (Only.trans e e10)).get hx
    refine ⟨l, hb10.cell 1, by omega, by omega, p, hp, _, hc1, (c176 hbo.1 (by omega)).mono ?_⟩
    rintro _ w10 ⟨rfl, rfl⟩
    refine ⟨_, rfl, BIf.dec (fun hq2 => ?_) (fun hq2 => ?_)⟩
    · have hidx : IntKind.i64.wrap (x.At + (q : Int)) = ((x.At.toNat + q : Nat) : Int) := by rw [w64 (by omega) (by omega)]; omega
      refine ⟨l, hb10.cell 1, by omega, by omega, p, hp, _, hc0, ?_⟩
      rw [hidx, Int.toNat_natCast]
      refine ⟨by omega, by omega, _, rfl, set1_step hm10 (by rw [bools_len, setR_len, fmapF_len, List.length_replicate]; omega) (fun w21 o21 hm21 n21 => ?_)⟩
      rw [w64 (by omega) (by omega)]
      rw [bools_set] at hm21
      exact hJ2 _ _ ⟨q + 1, by omega, by omega, hm21, Only.trans o10 o21⟩ (by omega)
    · have hq3 : q = (pw x.Order).toNat := by omega
      subst hq3
      rw [w64 (by omega) (by omega)]
      refine hJ _ _ ⟨k + 1, by omega, by omega, ?_, o10⟩ (by omega)
      rw [fmapF_take hx]; exact hm10
  · rw [List.take_of_length_le (by omega)] at hm6
    exact ⟨_, rfl, by omega, hm6, Only.trans e e16⟩
theorem c150 {l : Sl} {T : Int} {fr : List DBlock} {w : World} (h : FrAt w l fr) (hf : FOk T fr) : CallW Try.prog 150 #[.agg #[.int .i64 T, .slice l.a l.len l.cap]] w (FreeV T fr w) := by
  refine go150 ?_
  unfold W150
  have hT0 := hf.1
  have hT1 := hf.2.1
  refine alloc_step (fun w1 e hb n1 => ?_)
  refine ⟨_, hb.cell 0, by omega, by omega, by omega, by omega, alloc_step (fun w3 e3 hm n3 => ?_)⟩
  have hm : Blk w3 w1.heap.size (bools (fmapF (fr.take 0) (List.replicate T.toNat false))) := by
    rw [show zerosOf ti4.zero T.toNat = bools (List.replicate T.toNat false) from zeros_bool _] at hm
    exact hm
  have hb3 := hb.ext e3
  have hl := h.len
  have hfew := h.few
  refine ⟨l, hb3.cell 1, ?_⟩
  rw [hl]
  refine LoopW.m1 (fun (i : Int) w' => ∃ k : Nat, i = k ∧ k ≤ fr.length ∧ Blk w' w1.heap.size (bools (fmapF (fr.take k) (List.replicate T.toNat false))) ∧ Ext w1 w' ∧ w1.heap.size < w'.heap.size) (fun (i : Int) _ => ((fr.length : Int) - i).toNat) ⟨0, rfl, by omega, hm, e3, by omega⟩ ?_
  rintro (i : Int) w6 ⟨k, rfl, hk, hm6, e16, z6⟩ J hJ
  have hb6 := hb.ext e16
  refine BIf.dec (fun hlt => ?_) (fun hge => ?_)
  · obtain ⟨x, hx⟩ : ∃ x, fr[k]? = some x := ⟨_, List.getElem?_eq_getElem (by omega)⟩
    have hbo := blkOk_out (hf.2.2 k x hx).1
    have hpw := pw_rng (o := x.Order) (by omega)
    obtain ⟨p, hp, hc0, hc1⟩ := (h.ext (Only.trans e e16)).get hx
    refine ⟨by omega, by omega, p, hp, _, hc0, _, hc1, alloc_step (fun w11 e11 hz n11 => blk_put2 hz (fun w12 o12 hz n12 => ?_))⟩
    have e12 : Ext w6 w12 := e11.own o12 (fun j hj => by omega)
    have hm12 := hm6.ext e12
    refine ⟨_, hz.cell 1, ?_⟩
    rw [shl_pw hbo.1 (by omega)]
    refine ⟨by omega, ?_⟩
    refine LoopW.m1 (fun (i : Int) w' => ∃ q : Nat, i = q ∧ q ≤ (pw x.Order).toNat ∧ Blk w' w1.heap.size (bools (setR (fmapF (fr.take k) (List.replicate T.toNat false)) x.At.toNat q)) ∧ Blk w' w6.heap.size [.int .i64 x.At, .int .i64 x.Order] ∧ Ext w1 w' ∧ w6.heap.size < w'.heap.size) (fun (i : Int) _ => (pw x.Order - i).toNat) ⟨0, rfl, by omega, hm12, hz, Only.trans e16 e12, by omega⟩ ?_
    rintro (i : Int) w16 ⟨q, rfl, hq, hm16, hz16, e116, z16⟩ J2 hJ2
    refine BIf.dec (fun hq2 => ?_) (fun hq2 => ?_)
    · have hidx : IntKind.i64.wrap (x.At + (q : Int)) = ((x.At.toNat + q : Nat) : Int) := by rw [w64 (by omega) (by omega)]; omega
      refine ⟨_, hz16.cell 0, ?_⟩
      rw [hidx, Int.toNat_natCast]
      refine ⟨by omega, by omega, _, rfl, set1_step hm16 (by rw [bools_len, setR_len, fmapF_len, List.length_replicate]; omega) (fun w21 o21 hm21 n21 => ?_)⟩
      rw [w64 (by omega) (by omega)]
      rw [bools_set] at hm21
      exact hJ2 _ _ ⟨q + 1, by omega, by omega, hm21, hz16.only o21 (by omega), e116.own o21 (fun j hj => by omega), by omega⟩ (by omega)
    · have hq3 : q = (pw x.Order).toNat := by omega
      subst hq3
      rw [w64 (by omega) (by omega)]
      refine hJ _ _ ⟨k + 1, by omega, by omega, ?_, e116, by omega⟩ (by omega)
      rw [fmapF_take hx]; exact hm16
  · rw [List.take_of_length_le (by omega)] at hm6
    exact ⟨_, rfl, by omega, hm6, Only.trans e e16⟩
/-! ## Copies -/
theorem OwnS.capLe {w : World} {b0 z : Nat} {s : Sl} {vs : List Value} (h : OwnS w b0 s z vs) : s.len ≤ s.cap := by
  rcases h.2 with ⟨h1, h2⟩ | ⟨b, cs, _, _, _, _, h, _⟩
  · omega
  · exact h
theorem own_bytes {w : World} {b0 : Nat} {s : Sl} {m : List Int} (h : OwnS w b0 s 1 (m.map (Value.int .u8))) (hr : ∀ x, x ∈ m → 0 ≤ x ∧ x ≤ 255) (hs : m.length ≤ 1099511627776) : Bytes w s m := by
  have hl := h.len
  have hrow := h.row
  rw [List.length_map, Nat.mul_one] at hl
  rw [Nat.mul_one] at hrow
  exact ⟨hl.symm, OwnS.capLe h, hrow, hr, hs⟩
theorem blocks_len (fr : List DBlock) : (fr.flatMap DBlock.cells).length = fr.length * 2 := flatMap_length DBlock.cells 2 (fun _ => rfl) fr
theorem own_fr {w : World} {b0 : Nat} {s : Sl} {fr : List DBlock} (h : OwnS w b0 s 2 (fr.flatMap DBlock.cells)) (hs : fr.length ≤ 1099511627776) : FrAt w s fr := by
  have hl := h.len
  rw [blocks_len] at hl
  exact ⟨by omega, h.row, hs⟩
theorem plain_int {k : IntKind} {l : List Int} : ∀ v, v ∈ l.map (Value.int k) → plainB v = true := fun v hv => by obtain ⟨x, _, rfl⟩ := List.mem_map.1 hv; rfl
theorem plain_blk {fr : List DBlock} : ∀ v, v ∈ fr.flatMap DBlock.cells → plainB v = true := fun v hv => by
  obtain ⟨x, _, hx⟩ := List.mem_flatMap.1 hv
  simp only [DBlock.cells, List.mem_cons, List.not_mem_nil, or_false] at hx
  rcases hx with rfl | rfl <;> rfl
theorem c156 {s : Sl} {m : List Int} {w : World} (h : Bytes w s m) : CallW Try.prog 156 #[.slice s.a s.len s.cap] w (fun v w' => ∃ t : Sl, v = .slice t.a t.len t.cap ∧ OwnS w' w.heap.size t 1 (m.map (Value.int .u8)) ∧ Ext w w') := by
  refine go156 ?_
  unfold W156
  have hl := h.len
  have hs := h.small
  refine AppendW.own (b0 := w.heap.size) (z := 1) (os := []) (vs := m.map (Value.int .u8)) (OwnS.none _ _ _ _) (by rw [Nat.mul_one]; exact h.row) rfl rfl (by decide) (by show (0 + s.len) * 1 ≤ _; omega) plain_int (Nat.le_refl _) (fun s' w' h1 h2 h3 h4 => ?_)
  refine ⟨s', rfl, h2, h3.mono (fun k hk hh => ?_)⟩
  exact absurd hh.2 (by simp)
theorem c149 {l : Sl} {T : Int} {fr : List DBlock} {w : World} (h : FrAt w l fr) : CallW Try.prog 149 #[.agg #[.int .i64 T, .slice l.a l.len l.cap]] w (fun v w' => ∃ t : Sl, v = .agg #[.int .i64 T, .slice t.a t.len t.cap] ∧ OwnS w' w.heap.size t 2 (fr.flatMap DBlock.cells) ∧ Ext w w') := by
  refine go149 ?_
  unfold W149
  have hl := h.len
  have hs := h.few
  refine alloc_step (fun w1 e1 hb n1 => ?_)
  refine alloc_step (fun w2 e2 hz n2 => ?_)
  have hb := hb.ext e2
  have e := Only.trans e1 e2
  refine ⟨l, hb.cell 1, ?_⟩
  refine AppendW.own (b0 := w2.heap.size) (z := 2) (os := []) (vs := fr.flatMap DBlock.cells) (OwnS.none _ _ _ _) ((h.ext e).row) rfl rfl (by decide) (by show (0 + l.len) * 16 ≤ _; omega) plain_blk (Nat.le_refl _) (fun s' w5 h1 h2 h3 h4 => ?_)
  have e5 : Ext w2 w5 := h3.mono (fun k hk hh => absurd hh.2 (by simp))
  have hb := hb.ext e5
  have hz := hz.ext e5
  have e := Only.trans e e5
  have z5 := e5.size
  refine set_step hb (by simp) (fun w6 o6 hb n6 => ?_)
  have hz := hz.only o6 (by omega)
  have e := Ext.own e o6 (fun k hk => by omega)
  have h2 : OwnS w6 w2.heap.size s' 2 (fr.flatMap DBlock.cells) := h2.only o6 (fun b _ hb0 _ => by omega)
  refine ⟨_, hb.cell 0, s', hb.cell 1, put_step hz rfl rfl (fun w9 o9 hz n9 => ?_)⟩
  have e := Ext.own e o9 (fun k hk => by omega)
  have h2 := h2.only o9 (fun b _ hb0 _ => by omega)
  exact ⟨_, hz.cell 0, s', hz.cell 1, s', rfl, h2.mono (by omega), e⟩
/-- A slice's row does not lie in that block. -/
def Apart (s : Sl) (q : Nat) : Prop := 0 < s.cap → s.a ≠ some ⟨q, 0, none⟩
theorem OwnS.where_ {w : World} {b0 z : Nat} {s : Sl} {vs : List Value} (h : OwnS w b0 s z vs) (hc : 0 < s.cap) : ∃ q, s.a = some ⟨q, 0, none⟩ ∧ b0 ≤ q ∧ q < w.heap.size := by
  rcases h.2 with ⟨h1, h2⟩ | ⟨b, cs, ha, hb, hbl, _⟩
  · omega
  · exact ⟨b, ha, hb, hbl.lt⟩
/-- A pool that is worked on. -/
structure PoolAt (w : World) (b0 b : Nat) (sm sf : Sl) (m : List Int) (T : Int) (fr : List DBlock) : Prop where
  blk : Blk w b [.slice sm.a sm.len sm.cap, .int .i64 T, .slice sf.a sf.len sf.cap]
  mem : OwnS w b0 sm 1 (m.map (Value.int .u8))
  frs : OwnS w b0 sf 2 (fr.flatMap DBlock.cells)
  hb : b0 ≤ b
  mb : Apart sm b
  fb : Apart sf b
  mf : ∀ q, 0 < sm.cap → sm.a = some ⟨q, 0, none⟩ → Apart sf q
theorem c95 {sm sf : Sl} {m : List Int} {T : Int} {fr : List DBlock} {w : World} (hm : Bytes w sm m) (hf : FrAt w sf fr) : CallW Try.prog 95 #[.agg #[.slice sm.a sm.len sm.cap, .int .i64 T, .slice sf.a sf.len sf.cap]] w
    (fun v w' => ∃ b tm tf, v = .pointer (some ⟨b, 0, none⟩) ∧ PoolAt w' w.heap.size b tm tf m T fr ∧ Ext w w') := by
  refine go95 ?_
  unfold W95
  refine alloc_step (fun w1 e1 hb n1 => ?_)
  have e := Only.trans e1 (ext_drew w1)
  have hb := hb.ext (ext_drew w1)
  have z1 : w1.drew.heap.size = w1.heap.size := rfl
  generalize w1.drew = w2 at *
  refine ⟨sm, hb.cell 0, _, hb.cell 1, sf, hb.cell 2, (c156 (hm.ext e)).mono ?_⟩
  rintro _ w6 ⟨tm, rfl, om, e6⟩
  have hb := hb.ext e6
  have e := Only.trans e e6
  refine ⟨tm, rfl, ⟨_, hb.cell 1, sf, hb.cell 2, rfl⟩, (c149 (hf.ext e)).mono ?_⟩
  rintro _ w11 ⟨tf, rfl, of, e11⟩
  refine ⟨_, tf, rfl, alloc_step (fun w14 e14 hp n14 => ?_)⟩
  have z6 := e6.size
  have z11 := e11.size
  refine ⟨_, tm, tf, rfl, ⟨hp, (om.ext (Only.trans e11 e14)).mono (by omega), (of.ext e14).mono (by omega), by omega, fun hc ha => ?_, fun hc ha => ?_, fun q hc hq hc2 ha => ?_⟩, Only.trans e (Only.trans e11 e14)⟩
  · obtain ⟨q, hq, _, hlt⟩ := OwnS.where_ om hc
    rw [hq] at ha; cases ha; omega
  · obtain ⟨q, hq, _, hlt⟩ := OwnS.where_ of hc
    rw [hq] at ha; cases ha; omega
  · obtain ⟨q1, hq1, _, hlt1⟩ := OwnS.where_ om hc
    obtain ⟨q2, hq2, hge, _⟩ := OwnS.where_ of hc2
    rw [hq1] at hq; cases hq
    rw [hq2] at ha; cases ha; omega
/-! ## An entry read -/
theorem byt_cut {m : List Int} {a : Nat} {i : Int} (h0 : 0 ≤ i) (h1 : i < 8) : byt ((m.drop a).take 8) i = byt m ((a : Int) + i) := by
  obtain ⟨n, rfl⟩ := Int.eq_ofNat_of_zero_le h0
  unfold byt
  rw [Int.toNat_natCast, show ((a : Int) + (n : Int)).toNat = a + n by omega]
  simp only [List.getD_eq_getElem?_getD, List.getElem?_take, List.getElem?_drop]
  rw [if_pos (by omega)]
theorem hornr_congr {m m' : List Int} {a a' : Int} : ∀ (k : Nat) (x : Int), (∀ i : Int, 0 ≤ i → i < k → byt m (a + i) = byt m' (a' + i)) → hornr m a k x = hornr m' a' k x
  | 0, x, h => rfl
  | k + 1, x, h => by
    unfold hornr
    rw [h (k : Int) (by omega) (by omega)]
    exact hornr_congr k _ (fun i h0 h1 => h i h0 (by omega))
theorem word_cut (m : List Int) (a : Nat) : word ((m.drop a).take 8) 0 = word m a := by
  unfold word
  refine hornr_congr 8 0 (fun i h0 h1 => ?_)
  rw [Int.zero_add]
  exact byt_cut h0 h1
theorem c124 {s : Sl} {m : List Int} {a : Int} {w : World} (h : Bytes w s m) (h0 : 0 ≤ a) (h1 : a + 8 ≤ m.length) : CallW Try.prog 124 #[.slice s.a s.len s.cap, .int .i64 a] w (fun v w' => v = .int .u64 (word m a) ∧ w' = w) := by
  refine go124 ?_
  unfold W124
  have hl := h.len
  have hc := h.cap
  have hs := h.small
  rw [w64 (by omega) (by omega)]
  refine ⟨by omega, by omega, by omega, by omega, ?_⟩
  obtain ⟨n, rfl⟩ := Int.eq_ofNat_of_zero_le h0
  rw [Int.toNat_natCast, show ((n : Int) + 8).toNat - n = 8 by omega]
  refine (c174 (h.cut (a := n) (by omega)) (by omega) (by simp; omega)).mono ?_
  rintro _ w ⟨rfl, rfl⟩
  exact ⟨_, _, rfl, by rw [word_cut], rfl⟩
theorem c126 {b : Nat} {sm : Sl} {x y : Value} {m : List Int} {t i : Int} {w : World} (hp : Blk w b [.slice sm.a sm.len sm.cap, x, y]) (h : Bytes w sm m) (h0 : 0 ≤ t) (hi : 0 ≤ i) (hi2 : i < 32) (h1 : t * 256 + 256 ≤ m.length) : CallW Try.prog 126 #[.pointer (some ⟨b, 0, none⟩), .int .i64 t, .int .i64 i] w (fun v w' => v = .int .u64 (word m (t * 256 + 8 * i)) ∧ w' = w) := by
  refine go126 ?_
  unfold W126
  have hs := h.small
  refine ⟨_, rfl, sm, hp.cell 0, ?_⟩
  rw [w64 (n := t * 256) (by omega) (by omega), w64 (n := 8 * i) (by omega) (by omega), w64 (by omega) (by omega)]
  refine (c168 h (by omega) (by omega)).mono ?_
  rintro _ w ⟨rfl, rfl⟩
  exact ⟨_, _, rfl, rfl, rfl⟩
end Go.Proofs.Ytkgoanjemhbjgaa

/- Spaces: the tables of a space: what is found, and the reference's side. Conditions: none. -/
set_option linter.unusedVariables false
set_option linter.unusedSimpArgs false
namespace Go.Proofs.Ytkgoanjemhbjgaa
open Go Go.Den
/-- An entry at a level: none: it must not be; a page; or a table. -/
def cls (x lvl : Int) : Option Bool :=
  if kindS x lvl < 0 ∨ (kindS x lvl = 1 ∧ 0 < lvl) then none else if kindS x lvl = 0 then some false else some true
def scanT (x : Int → Int) (lvl : Int) (rec : Int → List Int → Option (List Int)) : Nat → List Int → Bool → Option (List Int × Bool)
  | 0, S, any => some (S, any)
  | k + 1, S, any => if x (31 - (k : Int)) = 0 then scanT x lvl rec k S any else match cls (x (31 - (k : Int))) lvl with
    | none => none
    | some true => scanT x lvl rec k S true
    | some false => match rec (efr (x (31 - (k : Int)))) S with
      | none => none
      | some S' => scanT x lvl rec k S' true
def entAt (m : List Int) (t i : Int) : Int := word m (t * 256 + 8 * i)
def tblStep (m : List Int) (free : List Bool) (lvl : Nat) (rec : Int → List Int → Option (List Int)) (t : Int) (S : List Int) : Option (List Int) :=
  if t < 0 ∨ (free.length : Int) ≤ t ∨ free.getD t.toNat false = true ∨ t ∈ S then none
  else match scanT (entAt m t) lvl rec 32 (S ++ [t]) (decide (lvl = 2)) with
    | some (S', true) => some S'
    | _ => none
def tblF (m : List Int) (free : List Bool) : Nat → Int → List Int → Option (List Int)
  | 0 => tblStep m free 0 (fun _ _ => none)
  | n + 1 => tblStep m free (n + 1) (tblF m free n)
def Adds (c : Nat) (rec : Int → List Int → Option (List Int)) : Prop := ∀ t S S', rec t S = some S' → ∃ add, S' = S ++ add ∧ add.length ≤ c
theorem scanT_adds {x : Int → Int} {lvl : Int} {rec : Int → List Int → Option (List Int)} {c : Nat} (hr : Adds c rec) : ∀ (k : Nat) (S : List Int) (any : Bool) (S' : List Int) (any' : Bool), scanT x lvl rec k S any = some (S', any') → ∃ add, S' = S ++ add ∧ add.length ≤ k * c
  | 0, S, any, S', any', h => by unfold scanT at h; injection h with h; injection h with h1 h2; exact ⟨[], by rw [h1, List.append_nil], by simp⟩
  | k + 1, S, any, S', any', h => by
    unfold scanT at h
    have hk : k * c ≤ (k + 1) * c := Nat.mul_le_mul_right c (by omega)
    split at h
    · obtain ⟨add, h1, h2⟩ := scanT_adds hr k _ _ _ _ h
      exact ⟨add, h1, by omega⟩
    · split at h
      · cases h
      · obtain ⟨add, h1, h2⟩ := scanT_adds hr k _ _ _ _ h
        exact ⟨add, h1, by omega⟩
      · split at h
        · cases h
        · rename_i S1 hS1
          obtain ⟨a1, h3, h4⟩ := hr _ _ _ hS1
          obtain ⟨add, h1, h2⟩ := scanT_adds hr k _ _ _ _ h
          exact ⟨a1 ++ add, by rw [h1, h3, List.append_assoc], by rw [List.length_append, Nat.succ_mul]; omega⟩
theorem tblStep_adds {m : List Int} {free : List Bool} {lvl : Nat} {rec : Int → List Int → Option (List Int)} {c : Nat} (hr : Adds c rec) : Adds (32 * c + 1) (tblStep m free lvl rec) := by
  intro t S S' h
  unfold tblStep at h
  split at h
  · cases h
  · split at h
    · rename_i S1 hS1
      injection h with h
      subst h
      obtain ⟨add, h1, h2⟩ := scanT_adds hr 32 _ _ _ _ hS1
      exact ⟨t :: add, by rw [h1]; simp, by simp; omega⟩
    · cases h
theorem adds0 : Adds 0 (fun _ _ => none) := fun t S S' h => by cases h
theorem tblF_adds {m : List Int} {free : List Bool} : Adds 1 (tblF m free 0) ∧ Adds 33 (tblF m free 1) ∧ Adds 1057 (tblF m free 2) :=
  have h0 : Adds 1 (tblF m free 0) := tblStep_adds adds0
  have h1 : Adds 33 (tblF m free 1) := tblStep_adds h0
  ⟨h0, h1, tblStep_adds h1⟩
/-! ## Which tables were seen -/
def seenL (n : Nat) (S : List Int) : List Bool := (List.range n).map (fun (i : Nat) => decide ((i : Int) ∈ S))
theorem seenL_len (n : Nat) (S : List Int) : (seenL n S).length = n := by simp [seenL]
theorem seenL_get {n : Nat} {S : List Int} {i : Nat} (h : i < n) : (bools (seenL n S))[i]? = some (.bool (decide ((i : Int) ∈ S))) := by
  unfold bools seenL
  rw [List.getElem?_map, List.getElem?_map, List.getElem?_range h]
  rfl
theorem seenL_set {n : Nat} {S : List Int} {i : Nat} (h : i < n) : (seenL n S).set i true = seenL n (S ++ [(i : Int)]) := by
  apply List.ext_getElem?
  intro j
  unfold seenL
  rw [List.getElem?_set]
  by_cases hij : i = j
  · subst hij
    rw [if_pos rfl, if_pos (by simpa using h), List.getElem?_map, List.getElem?_range h]
    simp
  · rw [if_neg hij, List.getElem?_map, List.getElem?_map]
    by_cases hj : j < n
    · rw [List.getElem?_range hj]
      simp [Ne.symm hij]
      intro hh
      exact absurd (by omega) hij
    · rw [List.getElem?_eq_none (by simp; omega)]; rfl
theorem seenL_nil (n : Nat) : seenL n [] = List.replicate n false := by
  apply List.ext_getElem?
  intro j
  unfold seenL
  rw [List.getElem?_map, List.getElem?_replicate]
  by_cases hj : j < n
  · rw [List.getElem?_range hj, if_pos hj]; simp
  · rw [if_neg hj, List.getElem?_eq_none (by simp; omega)]; rfl
theorem bools_get {l : List Bool} {i : Nat} (h : i < l.length) : (bools l)[i]? = some (.bool (l.getD i false)) := by
  unfold bools
  rw [List.getElem?_map, List.getElem?_eq_getElem h]
  simp [List.getD_eq_getElem?_getD, List.getElem?_eq_getElem h]
/-- Bytes that are older than what has turned. -/
theorem Bytes.only {S : Nat → Prop} {w w' : World} {s : Sl} {m : List Int} (h : Bytes w s m) (o : Only S w w') (hS : m ≠ [] → ∀ p, s.a = some p → p.block < w.heap.size → ¬ S p.block) : Bytes w' s m := by
  refine ⟨h.len, h.cap, ⟨h.row.1, fun hn => ?_⟩, h.rng, h.small⟩
  have hne : m ≠ [] := fun hm => by have := h.len; rw [hm] at this; simp at this; omega
  obtain ⟨p, hp, hc⟩ := h.row.2 hn
  refine ⟨p, hp, fun j v hj => ?_⟩
  have hcj := hc j v hj
  refine Only.cell o hcj ?_
  rw [add_block]
  refine hS hne p hp ?_
  have hlt : (p.add j).block < w.heap.size := by
    unfold World.cell? at hcj
    rcases hb : w.heap[(p.add j).block]? with _ | o
    · rw [hb] at hcj; exact absurd hcj (by simp)
    · exact (Array.getElem?_eq_some_iff.1 hb).1
  rwa [add_block] at hlt
theorem Bytes.old {w : World} {s : Sl} {m : List Int} (h : Bytes w s m) (hm : m ≠ []) {p : Addr} (hp : s.a = some p) : p.block < w.heap.size := by
  have hl : 0 < m.length := List.length_pos_iff.2 hm
  obtain ⟨q, hq, hc⟩ := h.row.cell (i := 0) (v := .int .u8 m[0]) (by rw [List.getElem?_map, List.getElem?_eq_getElem hl]; rfl)
  rw [hp] at hq; cases hq
  unfold World.cell? at hc
  rw [add_zero] at hc
  rcases hb : w.heap[p.block]? with _ | o
  · rw [hb] at hc; exact absurd hc (by simp)
  · exact (Array.getElem?_eq_some_iff.1 hb).1
structure TCtx (w : World) (sm : Sl) (m : List Int) (bf bs : Nat) (free : List Bool) (S : List Int) : Prop where
  mem : Bytes w sm m
  mo : m ≠ [] → ∀ p, sm.a = some p → p.block ≠ bs
  fr : Blk w bf (bools free)
  seen : Blk w bs (bools (seenL free.length S))
  ne : bf ≠ bs
  ml : m.length = 256 * free.length
  few : free.length ≤ 1024
theorem TCtx.only {w w' : World} {sm : Sl} {m : List Int} {bf bs : Nat} {free : List Bool} {S S' : List Int} (h : TCtx w sm m bf bs free S) (o : Only (fun k => k = bs) w w') (hs : Blk w' bs (bools (seenL free.length S'))) : TCtx w' sm m bf bs free S' :=
  ⟨h.mem.only o (fun hm p hp _ => h.mo hm p hp), h.mo, h.fr.only o h.ne, hs, h.ne, h.ml, h.few⟩
def TabV (sm : Sl) (m : List Int) (bf bs : Nat) (free : List Bool) (S : List Int) (res : Option (List Int)) (w : World) (v : Value) (w' : World) : Prop :=
  ∃ (l : Sl) (b : Bool), v = .tuple #[.slice l.a l.len l.cap, .bool b] ∧ Only (fun k => k = bs) w w' ∧ (res = none → b = false) ∧
    ∀ S', res = some S' → b = true ∧ Blk w' bs (bools (seenL free.length S')) ∧ ∃ add, S' = S ++ add ∧ OwnS w' w.heap.size l 1 (add.map (Value.int .i64))
theorem kindS_cases (x lvl : Int) : kindS x lvl = -4 ∨ kindS x lvl = -5 ∨ kindS x lvl = -6 ∨ kindS x lvl = 0 ∨ kindS x lvl = 1 := by
  unfold kindS
  repeat' split
  all_goals omega
theorem kindS_small {x lvl : Int} (h : kindS x lvl = 0 ∨ kindS x lvl = 1) : x < 1048576 := by
  unfold kindS at h
  by_cases hx : 1048576 ≤ x
  · rw [if_pos hx] at h
    split at h <;> omega
  · omega
theorem c152 {lvl : Nat} (hlv : lvl ≤ 2) {sm : Sl} {m : List Int} {bf bs : Nat} {free : List Bool} {rec : Int → List Int → Option (List Int)} (hadd : Adds 100 rec)
    (hrec : lvl = 0 ∨ ∀ {w : World} {t : Int} {S : List Int}, TCtx w sm m bf bs free S → CallW Try.prog 152 #[.slice sm.a sm.len sm.cap, .slice (some ⟨bf, 0, none⟩) free.length free.length, .slice (some ⟨bs, 0, none⟩) free.length free.length, .int .i64 t, .int .i64 ((lvl : Int) - 1)] w (TabV sm m bf bs free S (rec t S) w))
    {w : World} {t : Int} {S : List Int} (h : TCtx w sm m bf bs free S) :
    CallW Try.prog 152 #[.slice sm.a sm.len sm.cap, .slice (some ⟨bf, 0, none⟩) free.length free.length, .slice (some ⟨bs, 0, none⟩) free.length free.length, .int .i64 t, .int .i64 (lvl : Int)] w (TabV sm m bf bs free S (tblStep m free lvl rec t S) w) := by
  refine CallW.mono (go152 (a0 := sm) (a1 := ⟨some ⟨bf, 0, none⟩, free.length, free.length⟩) (a2 := ⟨some ⟨bs, 0, none⟩, free.length, free.length⟩) (K := TabV sm m bf bs free S (tblStep m free lvl rec t S) w) ?_) (fun _ _ h => h)
  unfold W152
  have hfew := h.few
  have hml := h.ml
  have hblt := h.seen.lt
  -- the table must not be
  have bad : ∀ w', Only (fun k => k = bs) w w' → tblStep m free lvl rec t S = none → ∀ l : Sl, TabV sm m bf bs free S (tblStep m free lvl rec t S) w (.tuple #[.slice l.a l.len l.cap, .bool false]) w' := fun w' o hn l => ⟨l, false, rfl, o, fun _ => rfl, fun S' hS => by rw [hn] at hS; cases hS⟩
  rw [join_or]
  refine JoinW.cut1 (fun (b : Bool) w' => (b = true ↔ t < 0 ∨ (free.length : Int) ≤ t ∨ free.getD t.toNat false = true) ∧ w' = w) ?_ ?_
  · refine BIf.of (fun h1 => ⟨?_, rfl⟩) (fun h1 => ?_)
    · simp only [Bool.or_eq_true, decide_eq_true_eq] at h1
      exact ⟨fun _ => by omega, fun _ => rfl⟩
    · simp only [Bool.or_eq_false_iff, decide_eq_false_iff_not] at h1
      refine ⟨by omega, by show t < ((free.length : Nat) : Int); omega, _, rfl, free.getD t.toNat false, ?_, ?_, rfl⟩
      · rw [add_mk, h.fr.cell, Nat.zero_add, Nat.mul_one, bools_get (by omega)]
      · exact ⟨fun hh => .inr (.inr hh), fun hh => by rcases hh with hh | hh | hh; omega; omega; exact hh⟩
  rintro (b : Bool) w0 ⟨hiff, rfl⟩
  refine JoinW.cut1 (fun (b : Bool) w' => (b = true ↔ t < 0 ∨ (free.length : Int) ≤ t ∨ free.getD t.toNat false = true ∨ t ∈ S) ∧ w' = w0) ?_ ?_
  · refine BIf.of (fun h1 => ⟨?_, rfl⟩) (fun h1 => ?_)
    · have := hiff.1 h1
      exact ⟨fun _ => by rcases this with h | h | h; exact .inl h; exact .inr (.inl h); exact .inr (.inr (.inl h)), fun _ => rfl⟩
    · have h2 : ¬ (t < 0 ∨ (free.length : Int) ≤ t ∨ free.getD t.toNat false = true) := fun hh => by rw [hiff.2 hh] at h1; cases h1
      refine ⟨by omega, by show t < ((free.length : Nat) : Int); omega, _, rfl, decide (t ∈ S), ?_, ?_, rfl⟩
      · rw [add_mk, h.seen.cell, Nat.zero_add, Nat.mul_one, seenL_get (by omega), show ((t.toNat : Nat) : Int) = t by omega]
      · rw [decide_eq_true_eq]
        exact ⟨fun hh => .inr (.inr (.inr hh)), fun hh => by
          rcases hh with hh | hh | hh | hh
          · exact absurd (.inl hh) h2
          · exact absurd (.inr (.inl hh)) h2
          · exact absurd (.inr (.inr hh)) h2
          · exact hh⟩
  clear hiff b
  rintro (b : Bool) w0 ⟨hiff, rfl⟩
  refine BIf.of (fun hb => ?_) (fun hb => ?_)
  · refine alloc_step (fun w1 e1 _ _ => bad _ e1.any ?_ ⟨_, 0, 0⟩)
    unfold tblStep
    rw [if_pos (hiff.1 hb)]
  have hok : ¬ (t < 0 ∨ (free.length : Int) ≤ t ∨ free.getD t.toNat false = true ∨ t ∈ S) := fun hh => by rw [hiff.2 hh] at hb; cases hb
  have hres : tblStep m free lvl rec t S = match scanT (entAt m t) lvl rec 32 (S ++ [t]) (decide (lvl = 2)) with | some (S', true) => some S' | _ => none := by
    unfold tblStep; rw [if_neg hok]
  generalize hR : scanT (entAt m t) lvl rec 32 (S ++ [t]) (decide (lvl = 2)) = R at hres
  have ht0 : 0 ≤ t := by omega
  have ht1 : t < free.length := by omega
  refine ⟨by omega, by show t < ((free.length : Nat) : Int); omega, _, rfl, set1_step h.seen (by rw [bools_len, seenL_len]; omega) (fun w12 o12 hs12 n12 => ?_)⟩
  rw [bools_set, seenL_set (by omega), show ((t.toNat : Nat) : Int) = t by omega] at hs12
  refine alloc_step (fun w13 e13 hl13 n13 => ?_)
  have o13 : Only (fun k => k = bs) w0 w13 := o12.step e13 (fun i hi hf => hf.elim)
  have own13 : OwnS w13 w0.heap.size ⟨some ⟨w12.heap.size, 0, none⟩, 1, 1⟩ 1 ([t].map (Value.int .i64)) := OwnS.new hl13 (by omega) rfl
  refine LoopW.m3 (fun (l : Sl) (any : Bool) (i : Int) w' => ∃ (k : Nat) (add : List Int), k ≤ 32 ∧ i = 32 - (k : Int) ∧ scanT (entAt m t) lvl rec k (S ++ add) (any || decide (lvl = 2)) = R ∧ add.length ≤ 1 + (32 - k) * 100 ∧ Only (fun k => k = bs) w0 w' ∧ Blk w' bs (bools (seenL free.length (S ++ add))) ∧ OwnS w' w0.heap.size l 1 (add.map (Value.int .i64))) (fun _ _ (i : Int) _ => (32 - i).toNat)
    ⟨32, [t], by omega, by omega, by rw [Bool.false_or]; exact hR, by simp, o13, hs12.ext e13, own13⟩ ?_
  rintro (l : Sl) (any : Bool) (i : Int) w18 ⟨k, add, hk, rfl, hsc, hal, o18, hs18, own18⟩ J hJ
  have h18 := h.only o18 hs18
  have z18 := o18.size
  refine BIf.dec (fun hlt => ?_) (fun hge => ?_)
  · obtain ⟨j, rfl⟩ : ∃ j, k = j + 1 := ⟨k - 1, by omega⟩
    have hidx : (32 : Int) - ((j + 1 : Nat) : Int) = 31 - (j : Int) := by omega
    rw [hidx]
    rw [w64 (n := t * 256) (by omega) (by omega), w64 (n := 8 * (31 - (j : Int))) (by omega) (by omega), w64 (n := t * 256 + 8 * (31 - (j : Int))) (by omega) (by omega)]
    refine (c124 h18.mem (by omega) (by omega)).mono ?_
    rintro _ w18 ⟨rfl, rfl⟩
    have hw := word_rng h.mem.rng (t * 256 + 8 * (31 - (j : Int)))
    have hwe : word m (t * 256 + 8 * (31 - (j : Int))) = entAt m t (31 - (j : Int)) := rfl
    rw [hwe] at hw ⊢
    rw [w64 (n := 31 - (j : Int) + 1) (by omega) (by omega)]
    unfold scanT at hsc
    generalize entAt m t (31 - (j : Int)) = x at *
    refine ⟨x, rfl, BIf.eq (fun hx => ?_) (fun hx => ?_)⟩
    · rw [if_pos hx] at hsc
      exact hJ _ _ _ _ ⟨j, add, by omega, by omega, hsc, by omega, o18, hs18, own18⟩ (by omega)
    · rw [if_neg hx] at hsc
      refine (c186 hw.1 hw.2 (by omega) (by omega)).mono ?_
      rintro _ w23 ⟨rfl, e23⟩
      have o23 : Only (fun k => k = bs) w0 w23 := o18.step e23 (fun i hi hf => hf.elim)
      have hs23 := hs18.ext e23
      have own23 := own18.ext e23
      refine ⟨_, rfl, ?_⟩
      refine JoinW.cut1 (fun (b : Bool) w' => (b = true ↔ (kindS x lvl < 0 ∨ (kindS x lvl = 1 ∧ 0 < (lvl : Int)))) ∧ w' = w23) ?_ ?_
      · refine BIf.dec (fun h1 => ⟨⟨fun _ => .inl h1, fun _ => rfl⟩, rfl⟩) (fun h1 => BIf.eq (fun h2 => ⟨?_, rfl⟩) (fun h2 => ⟨?_, rfl⟩))
        · rw [decide_eq_true_eq]; exact ⟨fun h3 => .inr ⟨h2, h3⟩, fun h3 => by omega⟩
        · exact ⟨(fun h => nomatch h), fun h3 => by omega⟩
      rintro (b : Bool) w23 ⟨hb2, rfl⟩
      refine BIf.of (fun hbt => ?_) (fun hbf => ?_)
      · have : cls x lvl = none := by unfold cls; rw [if_pos (hb2.1 hbt)]
        rw [this] at hsc
        refine bad _ o23 ?_ l
        rw [hres, ← hsc]
      · have hnb : ¬ (kindS x lvl < 0 ∨ (kindS x lvl = 1 ∧ 0 < (lvl : Int))) := fun hh => by rw [hb2.2 hh] at hbf; cases hbf
        refine BIf.eq (fun h0 => ?_) (fun h0 => ?_)
        · have hcl : cls x lvl = some false := by unfold cls; rw [if_neg hnb, if_pos h0]
          rw [hcl] at hsc
          have hxs := kindS_small (.inl h0)
          rcases hrec with hl0 | hrec
          · -- at level 0 there is none
            exfalso
            subst hl0
            unfold kindS at h0
            repeat' (split at h0)
            all_goals first
              | omega
              | (rename_i h9; simp at h9)
          refine (c123 hw.1 hxs).mono ?_
          rintro _ w29 ⟨rfl, e29⟩
          refine ⟨_, _, _, _, _, _, _, _, _, _, rfl, ?_⟩
          refine alloc_step (fun w40 e40 hz n40 => put_step hz rfl rfl (fun w41 o41 hz n41 => ?_))
          have e41 : Ext w23 w41 := Ext.own (Only.trans e29 e40) o41 (fun k hk => by have := e29.size; omega)
          have o41' : Only (fun k => k = bs) w0 w41 := o23.step e41 (fun i hi hf => hf.elim)
          have h41 := h.only o41' (hs23.ext e41)
          refine ⟨_, hz.cell 8, ?_⟩
          rw [w64 (by omega) (by omega)]
          refine (hrec h41).mono ?_
          rintro _ w44 ⟨l2, b2, rfl, o44, hn44, hs44⟩
          have o44' : Only (fun k => k = bs) w0 w44 := o41'.step o44 (fun i hi hf => hf)
          refine ⟨l2, b2, rfl, ?_⟩
          cases hr : rec (efr x) (S ++ add) with
          | none =>
            rw [hr] at hsc
            rw [hn44 hr]
            refine BIf.t rfl (bad _ o44' ?_ l)
            rw [hres, ← hsc]
          | some S2 =>
            rw [hr] at hsc
            obtain ⟨rfl, hseen, add2, hS2, own2⟩ := hs44 S2 hr
            obtain ⟨add3, hS3, hlen3⟩ := hadd _ _ _ hr
            have hadd2 : add3 = add2 := List.append_cancel_left (hS3.symm.trans hS2)
            subst hadd2
            refine BIf.f rfl ?_
            have own44 : OwnS w44 w0.heap.size l 1 (add.map (Value.int .i64)) := (own23.ext e41).only o44 (fun b _ hb0 _ hbb => by omega)
            have hll := own44.len
            have hll2 := own2.len
            rw [List.length_map, Nat.mul_one] at hll hll2
            have z44 := o44'.size
            have own2r := own2.row
            have hl2cap : RowAt w44 l2.a (l2.len * 1) (add3.map (Value.int .i64)) := own2r
            refine AppendW.own (b0 := w0.heap.size) (z := 1) own44 hl2cap rfl rfl (by decide) (by show (l.len + l2.len) * 8 ≤ _; omega) plain_int (by omega) (fun s' w48 h1 h2 h3 h4 => ?_)
            have o48 : Only (fun k => k = bs) w0 w48 := o44'.step h3 (fun i hi hf => by have := hf.1; omega)
            rw [← List.map_append] at h2
            refine hJ _ _ _ _ ⟨j, add ++ add3, by omega, by omega, ?_, by rw [List.length_append]; omega, o48, ?_, h2⟩ (by omega)
            · rw [Bool.true_or, ← List.append_assoc, ← hS3]; exact hsc
            · rw [← List.append_assoc, ← hS3]
              exact hseen.only h3 (fun hf => by have := hf.1; omega)
        · have hcl : cls x lvl = some true := by unfold cls; rw [if_neg hnb, if_neg h0]
          rw [hcl] at hsc
          refine hJ _ _ _ _ ⟨j, add, by omega, by omega, ?_, by omega, o23, hs23, own23⟩ (by omega)
          rw [Bool.true_or]; exact hsc
  · have hk0 : k = 0 := by omega
    subst hk0
    unfold scanT at hsc
    rw [join_or]
    have hd : ((lvl : Int) == 2) = decide (lvl = 2) := by
      apply Bool.eq_iff_iff.2
      rw [beq_iff_eq, decide_eq_true_eq]; omega
    rw [hd]
    refine ⟨l, _, rfl, o18, ?_, ?_⟩
    · rw [hres, ← hsc]
      intro hn
      cases hany : (any || decide (lvl = 2)) with
      | false => rfl
      | true => rw [hany] at hn; cases hn
    · rw [hres, ← hsc]
      intro S' hS
      cases hany : (any || decide (lvl = 2)) with
      | false => rw [hany] at hS; cases hS
      | true =>
        rw [hany] at hS
        injection hS with hS
        subst hS
        exact ⟨rfl, hs18, add, rfl, own18⟩
end Go.Proofs.Ytkgoanjemhbjgaa

/- Spaces: the reference's side of a space that can be; an entry on the program's side. Conditions: none. -/
set_option linter.unusedVariables false
set_option linter.unusedSimpArgs false
namespace Go.Proofs.Ytkgoanjemhbjgaa
open Go Go.Den
theorem specTab {sm : Sl} {m : List Int} {bf bs : Nat} {free : List Bool} {w : World} {t : Int} {S : List Int} (h : TCtx w sm m bf bs free S) :
    CallW Try.prog 152 #[.slice sm.a sm.len sm.cap, .slice (some ⟨bf, 0, none⟩) free.length free.length, .slice (some ⟨bs, 0, none⟩) free.length free.length, .int .i64 t, .int .i64 2] w (TabV sm m bf bs free S (tblF m free 2 t S) w) := by
  have h0 : ∀ {w : World} {t : Int} {S : List Int}, TCtx w sm m bf bs free S → CallW Try.prog 152 #[.slice sm.a sm.len sm.cap, .slice (some ⟨bf, 0, none⟩) free.length free.length, .slice (some ⟨bs, 0, none⟩) free.length free.length, .int .i64 t, .int .i64 (((1 : Nat) : Int) - 1)] w (TabV sm m bf bs free S (tblF m free 0 t S) w) :=
    fun {w t S} h => c152 (lvl := 0) (by omega) (rec := fun _ _ => none) (fun t S S' hh => by cases hh) (.inl rfl) h
  have h1 : ∀ {w : World} {t : Int} {S : List Int}, TCtx w sm m bf bs free S → CallW Try.prog 152 #[.slice sm.a sm.len sm.cap, .slice (some ⟨bf, 0, none⟩) free.length free.length, .slice (some ⟨bs, 0, none⟩) free.length free.length, .int .i64 t, .int .i64 (((2 : Nat) : Int) - 1)] w (TabV sm m bf bs free S (tblF m free 1 t S) w) :=
    fun {w t S} h => c152 (lvl := 1) (by omega) (rec := tblF m free 0) (fun t S S' hh => by obtain ⟨a, h1, h2⟩ := tblF_adds.1 t S S' hh; exact ⟨a, h1, by omega⟩) (.inr h0) h
  exact c152 (lvl := 2) (by omega) (rec := tblF m free 1) (fun t S S' hh => by obtain ⟨a, h1, h2⟩ := tblF_adds.2.1 t S S' hh; exact ⟨a, h1, by omega⟩) (.inr h1) h
open Classical in
/-- The tables of a space; none: it is no space. -/
noncomputable def spaceT (m : List Int) (T : Int) (fr : List DBlock) (root : Int) : Option (List Int) := if POk m T fr then tblF m (freeL T fr) 2 root [] else none
theorem spaceT_pos {m : List Int} {T : Int} {fr : List DBlock} {root : Int} (h : POk m T fr) : spaceT m T fr root = tblF m (freeL T fr) 2 root [] := by unfold spaceT; rw [if_pos h]
theorem spaceT_neg {m : List Int} {T : Int} {fr : List DBlock} {root : Int} (h : ¬ POk m T fr) : spaceT m T fr root = none := by unfold spaceT; rw [if_neg h]
def SpV (m : List Int) (T : Int) (fr : List DBlock) (root : Int) (w : World) (v : Value) (w' : World) : Prop :=
  ∃ (l : Sl), v = .tuple #[.slice l.a l.len l.cap, .bool (spaceT m T fr root).isSome] ∧ Ext w w' ∧ ∀ S', spaceT m T fr root = some S' → OwnS w' w.heap.size l 1 (S'.map (Value.int .i64))
theorem POk.len {m : List Int} {T : Int} {fr : List DBlock} (h : POk m T fr) : m.length = 256 * (freeL T fr).length := by
  rw [freeL_len]
  have h1 := h.1
  have h2 := h.2.2.2
  omega
theorem c91 {sm sf : Sl} {m : List Int} {T : Int} {fr : List DBlock} {root : Int} {w : World} (hm : Bytes w sm m) (hf : FrAt w sf fr) : CallW Try.prog 91 #[.agg #[.slice sm.a sm.len sm.cap, .int .i64 T, .slice sf.a sf.len sf.cap], .int .i64 root] w (SpV m T fr root w) := by
  refine go91 ?_
  unfold W91
  refine alloc_step (fun w1 e hb n1 => ?_)
  refine ⟨sm, hb.cell 0, _, hb.cell 1, sf, hb.cell 2, (c99 (hm.ext e) (hf.ext e)).mono ?_⟩
  rintro _ w6 ⟨b, rfl, hiff, e6⟩
  have e06 := Only.trans e e6
  have hb6 := hb.ext e6
  have z1 := e.size
  have z6 := e6.size
  refine ⟨b, rfl, BIf.of (fun hn => ?_) (fun hy => ?_)⟩
  · have hno : ¬ POk m T fr := fun h => by rw [hiff.2 h] at hn; cases hn
    refine alloc_step (fun w8 e8 _ _ => ⟨⟨some ⟨w6.heap.size, 0, none⟩, 0, 0⟩, ?_, Only.trans e06 e8, fun S' hS => ?_⟩)
    · rw [spaceT_neg hno]; rfl
    · rw [spaceT_neg hno] at hS; cases hS
  have hok : POk m T fr := hiff.1 (by simpa using hy)
  have hT0 := hok.2.2.1.1
  have hT1 := hok.2.2.1.2.1
  have e7 := ext_drew w6
  have zd : w6.drew.heap.size = w6.heap.size := rfl
  have hb7 := hb6.ext e7
  have e07 := Only.trans e06 e7
  generalize w6.drew = w7 at *
  -- behind both orders
  have fin : ∀ (w31 : World) (bf bs : Nat), Ext w w31 → w.heap.size ≤ bf → w.heap.size ≤ bs → bf ≠ bs → Blk w31 bf (bools (freeL T fr)) → Blk w31 bs (bools (List.replicate T.toNat false)) →
      CallW Try.prog 152 #[.slice sm.a sm.len sm.cap, .slice (some ⟨bf, 0, none⟩) T.toNat T.toNat, .slice (some ⟨bs, 0, none⟩) T.toNat T.toNat, .int .i64 root, .int .i64 2] w31 (fun v w' => ∃ (l : Sl) (b : Bool), v = .tuple #[.slice l.a l.len l.cap, .bool b] ∧ SpV m T fr root w (.tuple #[.slice l.a l.len l.cap, .bool b]) w') := by
    intro w31 bf bs e31 hf0 hs0 hne hbf hbs
    have hctx : TCtx w31 sm m bf bs (freeL T fr) [] := ⟨hm.ext e31, fun hne p hp => by have := hm.old hne hp; omega, hbf, by rw [seenL_nil, freeL_len]; exact hbs, hne, hok.len, by rw [freeL_len]; omega⟩
    have hc := specTab (t := root) hctx
    rw [freeL_len] at hc
    refine hc.mono ?_
    rintro _ w36 ⟨l, b, rfl, o, hn, hs⟩
    have z31 := e31.size
    refine ⟨l, b, rfl, l, ?_, e31.own o (fun k hk => by omega), fun S' hS => ?_⟩
    · rw [spaceT_pos hok]
      cases hr : tblF m (freeL T fr) 2 root [] with
      | none => rw [hn hr]; rfl
      | some S' => rw [(hs S' hr).1]; rfl
    · rw [spaceT_pos hok] at hS
      obtain ⟨_, _, add, hadd, own⟩ := hs S' hS
      rw [hadd, List.nil_append]
      exact own.mono (by omega)
  refine ⟨sm, hb7.cell 0, _, hb7.cell 1, sf, hb7.cell 2, _, hb7.cell 1, ?_, ?_, trivial⟩
  · refine (c153 (hf.ext e07) hok.2.2.1).mono ?_
    rintro _ w27 ⟨bf, rfl, hbf0, hbf, e27⟩
    have hb27 := hb7.ext e27
    have z27 := e27.size
    refine ⟨⟨some ⟨bf, 0, none⟩, T.toNat, T.toNat⟩, rfl, ⟨_, hb27.cell 1, rfl⟩, ⟨sm, hb27.cell 0, rfl⟩, ⟨by omega, by omega, by omega, by omega, alloc_step (fun w31 e31 hs31 n31 => ?_)⟩, trivial⟩
    have hb31 := hb27.ext e31
    refine ⟨⟨_, hb31.cell 1, sf, hb31.cell 2, rfl⟩, ⟨sm, hb31.cell 0, rfl⟩, ?_, trivial⟩
    have hbl := hbf.lt
    refine (fin w31 bf w27.heap.size (Only.trans e07 (Only.trans e27 e31)) (by omega) (by omega) (by omega) (hbf.ext e31) (by rw [show zerosOf ti4.zero T.toNat = bools (List.replicate T.toNat false) from zeros_bool _] at hs31; exact hs31)).mono ?_
    rintro _ w36 ⟨l, b, rfl, hV⟩
    exact ⟨l, b, rfl, hV⟩
  · refine ⟨by omega, by omega, by omega, by omega, alloc_step (fun w13 e13 hs13 n13 => ?_)⟩
    have hb13 := hb7.ext e13
    have hs13 : Blk w13 w7.heap.size (bools (List.replicate T.toNat false)) := by rw [show zerosOf ti4.zero T.toNat = bools (List.replicate T.toNat false) from zeros_bool _] at hs13; exact hs13
    refine ⟨⟨_, hb13.cell 1, sf, hb13.cell 2, rfl⟩, ⟨sm, hb13.cell 0, rfl⟩, ?_, trivial⟩
    refine (c153 (hf.ext (Only.trans e07 e13)) hok.2.2.1).mono ?_
    rintro _ w18 ⟨bf, rfl, hbf0, hbf, e18⟩
    have hb18 := hb13.ext e18
    refine ⟨⟨some ⟨bf, 0, none⟩, T.toNat, T.toNat⟩, rfl, ⟨_, hb18.cell 1, rfl⟩, ⟨sm, hb18.cell 0, rfl⟩, ?_, trivial⟩
    refine (fin w18 bf w7.heap.size (Only.trans e07 (Only.trans e13 e18)) (by omega) (by omega) (by omega) hbf (hs13.ext e18)).mono ?_
    rintro _ w36 ⟨l, b, rfl, hV⟩
    exact ⟨l, b, rfl, hV⟩
theorem c33 {sm sf : Sl} {m : List Int} {T : Int} {fr : List DBlock} {root : Int} {w : World} (hm : Bytes w sm m) (hf : FrAt w sf fr) : CallW Try.prog 33 #[.agg #[.slice sm.a sm.len sm.cap, .int .i64 T, .slice sf.a sf.len sf.cap], .int .i64 root] w (fun v w' => v = .bool (spaceT m T fr root).isSome ∧ Ext w w') := by
  refine go33 ?_
  unfold W33
  refine alloc_step (fun w1 e hb n1 => ?_)
  refine ⟨sm, hb.cell 0, _, hb.cell 1, sf, hb.cell 2, (c91 (hm.ext e) (hf.ext e)).mono ?_⟩
  rintro _ w6 ⟨l, rfl, e6, _⟩
  exact ⟨l, _, rfl, rfl, Only.trans e e6⟩
/-! ## What an entry is, as the program asks -/
theorem cls_eq {x : Int} {lvl : Nat} (hl : lvl ≤ 2) : cls x lvl =
    if (!ebit x 0 || decide (1048576 ≤ x)) = true then none
    else if (ebit x 1 || ebit x 2 || ebit x 3) = true then (if ((lvl : Int) != 0 || (ebit x 2 && !ebit x 1)) = true then none else some true)
    else if ((lvl : Int) == 0 || ebit x 4 || ebit x 5 || ebit x 6) = true then none else some false := by
  unfold cls kindS
  have h0 : efr x % pgs ((0 : Nat) : Int) = 0 := by unfold pgs; simp [Int.emod_one]
  generalize ebit x 0 = b0
  generalize ebit x 1 = b1
  generalize ebit x 2 = b2
  generalize ebit x 3 = b3
  generalize ebit x 4 = b4
  generalize ebit x 5 = b5
  generalize ebit x 6 = b6
  have hlv : lvl = 0 ∨ lvl = 1 ∨ lvl = 2 := by omega
  by_cases hx : 1048576 ≤ x
  · rw [if_pos hx]
    cases b0 <;> simp [hx]
  · rw [if_neg hx]
    rcases hlv with rfl | rfl | rfl
    · rw [h0]
      cases b0 <;> cases b1 <;> cases b2 <;> cases b3 <;> cases b4 <;> cases b5 <;> cases b6 <;> simp [hx]
    · generalize efr x % pgs ((1 : Nat) : Int) = r
      by_cases hr : r = 0 <;> cases b0 <;> cases b1 <;> cases b2 <;> cases b3 <;> cases b4 <;> cases b5 <;> cases b6 <;> simp [hx, hr]
    · generalize efr x % pgs ((2 : Nat) : Int) = r
      by_cases hr : r = 0 <;> cases b0 <;> cases b1 <;> cases b2 <;> cases b3 <;> cases b4 <;> cases b5 <;> cases b6 <;> simp [hx, hr]
theorem shr20 {x : Int} (h0 : 0 ≤ x) : (shrI .u64 x 20 != 0) = decide (1048576 ≤ x) := by
  rw [show (20 : Int) = ((20 : Nat) : Int) from rfl, shr_u64 (by omega)]
  apply Bool.eq_iff_iff.2
  rw [bne_iff_ne, decide_eq_true_eq, show ((2 ^ 20 : Nat) : Int) = 1048576 from rfl]
  omega
end Go.Proofs.Ytkgoanjemhbjgaa

/- Spaces: the tables of a space, on the program's side. Conditions: none. -/
set_option linter.unusedVariables false
set_option linter.unusedSimpArgs false
namespace Go.Proofs.Ytkgoanjemhbjgaa
open Go Go.Den
theorem map_step {w : World} {k : World → Prop} (h : ∀ w1, Ext w w1 → SetAt w1 w.heap.size [] → w1.heap.size = w.heap.size + 1 → k w1) : LetW (w.alloc (.map #[] 0)) k :=
  LetW_iff.2 (h _ (ext_alloc w _) (setAt_new w) (size_alloc w _))
/-- What the walk has captured: where each thing lies. -/
structure ICap where
  q0 : Nat
  q1 : Nat
  q2 : Nat
  q3 : Nat
  q4 : Nat
  bf : Nat
  bm : Nat
  bp : Nat
  b0 : Nat
def ICap.ptrs (c : ICap) : List Value := [.pointer (some ⟨c.q0, 0, none⟩), .pointer (some ⟨c.q1, 0, none⟩), .pointer (some ⟨c.q2, 0, none⟩), .pointer (some ⟨c.q3, 0, none⟩), .pointer (some ⟨c.q4, 0, none⟩)]
def ICap.S (c : ICap) (k : Nat) : Prop := k = c.bm ∨ k = c.q2 ∨ c.b0 ≤ k
structure ICtx (w : World) (c : ICap) (sm : Sl) (m : List Int) (free : List Bool) (x y : Value) : Prop where
  h0 : Blk w c.q0 [.slice (some ⟨c.bf, 0, none⟩) free.length free.length]
  hf : Blk w c.bf (bools free)
  h1 : Blk w c.q1 [.map (some c.bm)]
  h3 : Blk w c.q3 [.pointer (some ⟨c.bp, 0, none⟩)]
  h4 : Blk w c.q4 [.func (.func 157) ⟨[]⟩ ⟨c.ptrs⟩]
  hp : Blk w c.bp [.slice sm.a sm.len sm.cap, x, y]
  mem : Bytes w sm m
  mo : m ≠ [] → ∀ p, sm.a = some p → ¬ c.S p.block
  n0 : ¬ c.S c.q0
  nf : ¬ c.S c.bf
  n1 : ¬ c.S c.q1
  n3 : ¬ c.S c.q3
  n4 : ¬ c.S c.q4
  np : ¬ c.S c.bp
  nm : c.bm ≠ c.q2
  ml : m.length = 256 * free.length
  few : free.length ≤ 1024
  mlt : c.bm < c.b0
  qlt : c.q2 < c.b0
  bsz : c.b0 ≤ w.heap.size
theorem ICtx.only {w w' : World} {c : ICap} {sm : Sl} {m : List Int} {free : List Bool} {x y : Value} (h : ICtx w c sm m free x y) (o : Only c.S w w') : ICtx w' c sm m free x y :=
  ⟨h.h0.only o h.n0, h.hf.only o h.nf, h.h1.only o h.n1, h.h3.only o h.n3, h.h4.only o h.n4, h.hp.only o h.np, h.mem.only o (fun hm p hp _ => h.mo hm p hp), h.mo, h.n0, h.nf, h.n1, h.n3, h.n4, h.np, h.nm, h.ml, h.few, h.mlt, h.qlt, Nat.le_trans h.bsz o.size⟩
/-- What was seen so far, and listed. -/
structure ISeen (w : World) (c : ICap) (S : List Int) : Prop where
  set : SetAt w c.bm S
  out : ∃ l : Sl, Blk w c.q2 [.slice l.a l.len l.cap] ∧ OwnS w c.b0 l 1 (S.map (Value.int .i64))
def IV (c : ICap) (res : Option (List Int)) (w : World) (v : Value) (w' : World) : Prop := v = .bool res.isSome ∧ Only c.S w w' ∧ ∀ S', res = some S' → ISeen w' c S'
theorem ISeen.ext {w w' : World} {c : ICap} {S : List Int} (h : ISeen w c S) (e : Ext w w') : ISeen w' c S := by
  obtain ⟨h1, l, h2, h3⟩ := h
  exact ⟨h1.ext e, l, h2.ext e, h3.ext e⟩
theorem c157 {lvl : Nat} (hlv : lvl ≤ 2) {c : ICap} {sm : Sl} {m : List Int} {free : List Bool} {x0 y0 : Value} {rec : Int → List Int → Option (List Int)} {cc : Nat} (hadd : Adds cc rec) (hcc : cc ≤ 100)
    (hrec : lvl = 0 ∨ ∀ {w : World} {t : Int} {S : List Int}, ICtx w c sm m free x0 y0 → ISeen w c S → S.length + cc ≤ 8000 → CallW Try.prog 157 ⟨[.int .i64 t, .int .i64 ((lvl : Int) - 1)] ++ c.ptrs⟩ w (IV c (rec t S) w))
    {w : World} {t : Int} {S : List Int} (h : ICtx w c sm m free x0 y0) (hs : ISeen w c S) (hS : S.length + (32 * cc + 1) ≤ 8000) :
    CallW Try.prog 157 ⟨[.int .i64 t, .int .i64 (lvl : Int)] ++ c.ptrs⟩ w (IV c (tblStep m free lvl rec t S) w) := by
  refine go157 (a0 := t) (a1 := (lvl : Int)) (c0 := ⟨c.q0, 0, none⟩) (c1 := ⟨c.q1, 0, none⟩) (c2 := ⟨c.q2, 0, none⟩) (c3 := ⟨c.q3, 0, none⟩) (c4 := ⟨c.q4, 0, none⟩) ?_
  unfold W157
  have hfew := h.few
  have hml := h.ml
  have bad : ∀ w', Only c.S w w' → tblStep m free lvl rec t S = none → IV c (tblStep m free lvl rec t S) w (.bool false) w' := fun w' o hn => ⟨by rw [hn]; rfl, o, fun S' hS => by rw [hn] at hS; cases hS⟩
  obtain ⟨hset, l0, hl0, own0⟩ := hs
  refine JoinW.cut1 (fun (b : Bool) w' => (b = true ↔ t < 0 ∨ (free.length : Int) ≤ t) ∧ w' = w) ?_ ?_
  · refine BIf.dec (fun h1 => ⟨⟨fun _ => .inl h1, fun _ => rfl⟩, rfl⟩) (fun h1 => ⟨⟨_, _, _⟩, h.h0.cell 0, ?_, rfl⟩)
    rw [decide_eq_true_eq]
    exact ⟨fun hh => .inr hh, fun hh => by rcases hh with hh | hh; omega; exact hh⟩
  rintro (b : Bool) w ⟨hiff, rfl⟩
  refine JoinW.cut1 (fun (b : Bool) w' => (b = true ↔ t < 0 ∨ (free.length : Int) ≤ t ∨ free.getD t.toNat false = true) ∧ w' = w) ?_ ?_
  · refine BIf.of (fun h1 => ⟨?_, rfl⟩) (fun h1 => ?_)
    · have := hiff.1 h1
      exact ⟨fun _ => by omega, fun _ => rfl⟩
    · have h2 : ¬ (t < 0 ∨ (free.length : Int) ≤ t) := fun hh => by rw [hiff.2 hh] at h1; cases h1
      refine ⟨⟨_, _, _⟩, h.h0.cell 0, by omega, by show t < ((free.length : Nat) : Int); omega, _, rfl, free.getD t.toNat false, ?_, ?_, rfl⟩
      · rw [add_mk, h.hf.cell, Nat.zero_add, Nat.mul_one, bools_get (by omega)]
      · exact ⟨fun hh => .inr (.inr hh), fun hh => by rcases hh with hh | hh | hh; omega; omega; exact hh⟩
  clear hiff b
  rintro (b : Bool) w ⟨hiff, rfl⟩
  refine JoinW.cut1 (fun (b : Bool) w' => (b = true ↔ t < 0 ∨ (free.length : Int) ≤ t ∨ free.getD t.toNat false = true ∨ t ∈ S) ∧ w' = w) ?_ ?_
  · refine BIf.of (fun h1 => ⟨?_, rfl⟩) (fun h1 => ?_)
    · have := hiff.1 h1
      exact ⟨fun _ => by rcases this with h | h | h; exact .inl h; exact .inr (.inl h); exact .inr (.inr (.inl h)), fun _ => rfl⟩
    · have h2 : ¬ (t < 0 ∨ (free.length : Int) ≤ t ∨ free.getD t.toNat false = true) := fun hh => by rw [hiff.2 hh] at h1; cases h1
      refine ⟨_, h.h1.cell 0, hset.get t (fun o ho => ⟨decide (t ∈ S), ho, ?_, rfl⟩)⟩
      rw [decide_eq_true_eq]
      exact ⟨fun hh => .inr (.inr (.inr hh)), fun hh => by
        rcases hh with hh | hh | hh | hh
        · exact absurd (.inl hh) h2
        · exact absurd (.inr (.inl hh)) h2
        · exact absurd (.inr (.inr hh)) h2
        · exact hh⟩
  clear hiff b
  rintro (b : Bool) w ⟨hiff, rfl⟩
  refine BIf.of (fun hb => ?_) (fun hb => ?_)
  · refine bad _ (Only.refl _ _) ?_
    unfold tblStep
    rw [if_pos (hiff.1 hb)]
  have hok : ¬ (t < 0 ∨ (free.length : Int) ≤ t ∨ free.getD t.toNat false = true ∨ t ∈ S) := fun hh => by rw [hiff.2 hh] at hb; cases hb
  have hres : tblStep m free lvl rec t S = match scanT (entAt m t) lvl rec 32 (S ++ [t]) (decide (lvl = 2)) with | some (S', true) => some S' | _ => none := by
    unfold tblStep; rw [if_neg hok]; try rfl
  generalize hR : scanT (entAt m t) lvl rec 32 (S ++ [t]) (decide (lvl = 2)) = R at hres
  have ht0 : 0 ≤ t := by omega
  have ht1 : t < free.length := by omega
  have hnS : t ∉ S := fun hh => hok (.inr (.inr (.inr hh)))
  refine ⟨_, h.h1.cell 0, hset.put hnS (fun w11 hset11 o11 => ?_)⟩
  have hbsz := h.bsz
  have hmlt := h.mlt
  have hqlt := h.qlt
  have hl11 := hl0.only o11 (fun hh => h.nm hh.symm)
  have own11 := own0.only o11 (fun b _ hb0 _ hbb => by omega)
  have z11 := o11.size
  refine ⟨l0, hl11.cell 0, LetW_iff.2 ?_⟩
  have hll := own11.len
  rw [List.length_map, Nat.mul_one] at hll
  refine AppendW.one (b0 := c.b0) (z := 1) (x := [.int .i64 t]) own11 (by omega) rfl rfl rfl (by decide) (by show (l0.len + 1) * 8 ≤ _; omega) (fun v hv => by rw [List.mem_singleton.1 hv]; rfl) (fun s' w15 h1 h2 h3 h4 => ?_)
  have hl15 := hl11.only h3 (fun hh => by have := hh.1; omega)
  have hset15 := hset11.only h3 (fun hh => by have := hh.1; omega)
  have z15 := h3.size
  refine set_step hl15 (by simp) (fun w16 o16 hl16 n16 => ?_)
  have hset16 := hset15.only o16 h.nm
  have own16 : OwnS w16 c.b0 s' 1 ((S ++ [t]).map (Value.int .i64)) := by
    rw [List.map_append]
    exact h2.only o16 (fun b _ hb0 _ hbb => by omega)
  have oall : Only c.S w w16 := Only.step (Only.step (o11.mono (fun k _ hk => .inl hk)) h3 (fun i hi hh => .inr (.inr hh.1))) o16 (fun i hi hh => .inr (.inl hh))
  have hbase : ISeen w16 c (S ++ [t]) := ⟨hset16, s', hl16, own16⟩
  refine LoopW.m2 (fun (any : Bool) (i : Int) w' => ∃ (k : Nat) (S1 : List Int), k ≤ 32 ∧ i = 32 - (k : Int) ∧ scanT (entAt m t) lvl rec k S1 any = R ∧ S1.length ≤ S.length + 1 + (32 - k) * cc ∧ Only c.S w w' ∧ ISeen w' c S1) (fun _ (i : Int) _ => (32 - i).toNat)
    ⟨32, S ++ [t], by omega, by omega, by
      rw [← hR]
      congr 1
      apply Bool.eq_iff_iff.2
      rw [beq_iff_eq, decide_eq_true_eq]; omega, by simp, oall, hbase⟩ ?_
  rintro (any : Bool) (i : Int) w20 ⟨k, S1, hk, rfl, hsc, hal, o20, hs20⟩ J hJ
  have h20 := h.only o20
  refine BIf.dec (fun hlt => ?_) (fun hge => ?_)
  · obtain ⟨j, rfl⟩ : ∃ j, k = j + 1 := ⟨k - 1, by omega⟩
    have hidx : (32 : Int) - ((j + 1 : Nat) : Int) = 31 - (j : Int) := by omega
    rw [hidx]
    have hmul : (32 - (j + 1)) * cc + cc = (32 - j) * cc := by rw [← Nat.succ_mul]; congr 1; omega
    have hmul2 : (32 - j) * cc ≤ 32 * cc := Nat.mul_le_mul_right cc (by omega)
    refine ⟨_, h20.h3.cell 0, (c126 h20.hp h20.mem (by omega) (by omega) (by omega) (by omega)).mono ?_⟩
    rintro _ w20 ⟨rfl, rfl⟩
    have hw := word_rng h.mem.rng (t * 256 + 8 * (31 - (j : Int)))
    have hwe : word m (t * 256 + 8 * (31 - (j : Int))) = entAt m t (31 - (j : Int)) := rfl
    rw [hwe] at hw ⊢
    rw [w64 (n := 31 - (j : Int) + 1) (by omega) (by omega)]
    unfold scanT at hsc
    generalize entAt m t (31 - (j : Int)) = x at *
    refine ⟨x, rfl, BIf.eq (fun hx => ?_) (fun hx => ?_)⟩
    · rw [if_pos hx] at hsc
      exact hJ _ _ _ ⟨j, S1, by omega, by omega, hsc, by omega, o20, hs20⟩ (by omega)
    · rw [if_neg hx, cls_eq hlv] at hsc
      refine (c127 hw.1 hw.2).mono ?_
      rintro _ w26 ⟨rfl, e26⟩
      refine ⟨_, _, _, _, _, _, _, _, _, rfl, ?_⟩
      refine alloc_step (fun w36 e36 hz n36 => put_step hz rfl rfl (fun w37 o37 hz n37 => ?_))
      have e37 : Ext w20 w37 := Ext.own (Only.trans e26 e36) o37 (fun k hk => by have := e26.size; omega)
      have o37' : Only c.S w w37 := o20.step e37 (fun i hi hf => hf.elim)
      have h37 := h.only o37'
      have hs37 := hs20.ext e37
      have hno : R = none → ∀ w', Only c.S w w' → IV c (tblStep m free lvl rec t S) w (.bool false) w' := fun hn w' o => bad w' o (by rw [hres, hn])
      refine ⟨_, hz.cell 0, ?_⟩
      refine JoinW.cut1 (fun (b : Bool) w' => b = (!ebit x 0 || decide (1048576 ≤ x)) ∧ w' = w37) ?_ ?_
      · refine BIf.of (fun h1 => ⟨by rw [h1]; rfl, rfl⟩) (fun h1 => ⟨by omega, ?_, rfl⟩)
        rw [shr20 hw.1, h1]; rfl
      rintro (b : Bool) w37 ⟨rfl, rfl⟩
      refine BIf.of (fun h1 => ?_) (fun h1 => ?_)
      · rw [if_pos h1] at hsc
        exact hno hsc.symm _ o37'
      · rw [if_neg (by rw [h1]; simp)] at hsc
        refine ⟨_, hz.cell 1, join_or_ex _ (hz.cell 2) (join_or_ex _ (hz.cell 3) ?_)⟩
        refine BIf.of (fun h2 => ?_) (fun h2 => ?_)
        · rw [if_pos h2] at hsc
          refine JoinW.cut1 (fun (b : Bool) w' => b = ((lvl : Int) != 0 || (ebit x 2 && !ebit x 1)) ∧ w' = w37) ?_ ?_
          · refine BIf.of (fun h3 => ⟨by rw [h3]; rfl, rfl⟩) (fun h3 => ⟨_, hz.cell 2, BIf.of (fun h4 => ⟨_, hz.cell 1, by rw [h3, h4]; rfl, rfl⟩) (fun h4 => ⟨by rw [h3, h4]; rfl, rfl⟩)⟩)
          rintro (b : Bool) w37 ⟨rfl, rfl⟩
          refine BIf.of (fun h3 => ?_) (fun h3 => ?_)
          · rw [if_pos h3] at hsc
            exact hno hsc.symm _ o37'
          · rw [if_neg (by rw [h3]; simp)] at hsc
            exact hJ _ _ _ ⟨j, S1, by omega, by omega, hsc, by omega, o37', hs37⟩ (by omega)
        · rw [if_neg (by rw [h2]; simp)] at hsc
          refine join_or_ex _ (hz.cell 4) (join_or_ex _ (hz.cell 5) (join_or_ex _ (hz.cell 6) ?_))
          refine JoinW.each (BIf.of (fun h3 => ?_) (fun h3 => ?_))
          · rw [if_pos h3] at hsc
            exact BIf.t rfl (hno hsc.symm _ o37')
          · rw [if_neg (by rw [h3]; simp)] at hsc
            rcases hrec with hl0' | hrec
            · exfalso
              subst hl0'
              simp at h3
            refine ⟨⟨157, [], c.ptrs⟩, h37.h4.cell 0, _, hz.cell 8, ?_⟩
            rw [w64 (by omega) (by omega)]
            refine CallW.mono (K := IV c (rec (efr x) S1) w37) (hrec h37 hs37 (by omega)) ?_
            rintro _ w69 ⟨rfl, o69, hs69⟩
            have o69' : Only c.S w w69 := o37'.step o69 (fun i hi hf => hf)
            refine ⟨_, rfl, ?_⟩
            cases hr : rec (efr x) S1 with
            | none =>
              rw [hr] at hsc
              exact BIf.t rfl (hno hsc.symm _ o69')
            | some S2 =>
              rw [hr] at hsc
              obtain ⟨add, hS2, hlen2⟩ := hadd _ _ _ hr
              refine BIf.f rfl (hJ _ _ _ ⟨j, S2, by omega, by omega, hsc, ?_, o69', hs69 S2 hr⟩ (by omega))
              rw [hS2, List.length_append]; omega
  · have hk0 : k = 0 := by omega
    subst hk0
    unfold scanT at hsc
    refine ⟨?_, o20, fun S' hS => ?_⟩
    · rw [hres, ← hsc]
      cases any <;> rfl
    · rw [hres, ← hsc] at hS
      cases any with
      | false => cases hS
      | true => injection hS with hS; subst hS; exact hs20
theorem implTab {c : ICap} {sm : Sl} {m : List Int} {free : List Bool} {x0 y0 : Value} {w : World} {t : Int} {S : List Int} (h : ICtx w c sm m free x0 y0) (hs : ISeen w c S) (hS : S.length ≤ 4000) :
    CallW Try.prog 157 ⟨[.int .i64 t, .int .i64 2] ++ c.ptrs⟩ w (IV c (tblF m free 2 t S) w) := by
  have h0 : ∀ {w : World} {t : Int} {S : List Int}, ICtx w c sm m free x0 y0 → ISeen w c S → S.length + 1 ≤ 8000 → CallW Try.prog 157 ⟨[.int .i64 t, .int .i64 (((1 : Nat) : Int) - 1)] ++ c.ptrs⟩ w (IV c (tblF m free 0 t S) w) :=
    fun {w t S} h hs hl => c157 (lvl := 0) (by omega) (rec := fun _ _ => none) (cc := 0) adds0 (by omega) (.inl rfl) h hs (by omega)
  have h1 : ∀ {w : World} {t : Int} {S : List Int}, ICtx w c sm m free x0 y0 → ISeen w c S → S.length + 33 ≤ 8000 → CallW Try.prog 157 ⟨[.int .i64 t, .int .i64 (((2 : Nat) : Int) - 1)] ++ c.ptrs⟩ w (IV c (tblF m free 1 t S) w) :=
    fun {w t S} h hs hl => c157 (lvl := 1) (by omega) (rec := tblF m free 0) (cc := 1) tblF_adds.1 (by omega) (.inr h0) h hs (by omega)
  exact c157 (lvl := 2) (by omega) (rec := tblF m free 1) (cc := 33) tblF_adds.2.1 (by omega) (.inr h1) h hs (by omega)
/-- The tables that the program lists; nil: none. -/
def ITabs (res : Option (List Int)) (w : World) (v : Value) (w' : World) : Prop := ∃ l : Sl, v = .slice l.a l.len l.cap ∧ Ext w w' ∧ (res = none → l.a = none) ∧ ∀ S', res = some S' → l.a.isSome = true ∧ OwnS w' w.heap.size l 1 (S'.map (Value.int .i64))
theorem tblF_ne {m : List Int} {free : List Bool} {lvl : Nat} {t : Int} {S' : List Int} (h : tblF m free lvl t [] = some S') : S' ≠ [] := by
  have key : ∀ (lvl : Nat) (rec : Int → List Int → Option (List Int)), (∃ c, Adds c rec) → ∀ S', tblStep m free lvl rec t [] = some S' → S' ≠ [] := by
    intro lvl rec ⟨c, hc⟩ S' hS
    unfold tblStep at hS
    split at hS
    · cases hS
    · split at hS
      · rename_i S1 hS1
        injection hS with hS
        subst hS
        obtain ⟨add, h1, _⟩ := scanT_adds hc 32 _ _ _ _ hS1
        rw [h1]; simp
      · cases hS
  have adds : ∀ n, ∃ c, Adds c (tblF m free n) := by
    intro n
    induction n with
    | zero => exact ⟨_, tblStep_adds adds0⟩
    | succ n ih => obtain ⟨c, hc⟩ := ih; exact ⟨_, tblStep_adds hc⟩
  cases lvl with
  | zero => exact key 0 _ ⟨0, adds0⟩ S' h
  | succ n => exact key (n + 1) _ (adds n) S' h
theorem c96 {b : Nat} {sm sf : Sl} {m : List Int} {T : Int} {fr : List DBlock} {root : Int} {w : World} (hp : Blk w b [.slice sm.a sm.len sm.cap, .int .i64 T, .slice sf.a sf.len sf.cap]) (hm : Bytes w sm m) (hf : FrAt w sf fr) (hok : POk m T fr) :
    CallW Try.prog 96 #[.pointer (some ⟨b, 0, none⟩), .int .i64 root] w (ITabs (tblF m (freeL T fr) 2 root []) w) := by
  refine go96 ?_
  unfold W96
  have hT0 := hok.2.2.1.1
  have hT1 := hok.2.2.1.2.1
  have hpl := hp.lt
  refine alloc_step (fun w1 e1 hq3 n1 => ?_)
  have hp1 := hp.ext e1
  refine ⟨_, hq3.cell 0, _, rfl, _, hp1.cell 1, sf, hp1.cell 2, (c150 (hf.ext e1) hok.2.2.1).mono ?_⟩
  rintro _ w7 ⟨bf, rfl, hbf0, hbf, e7⟩
  have z7 := e7.size
  have hbl := hbf.lt
  have hq3 := hq3.ext e7
  refine ⟨⟨some ⟨bf, 0, none⟩, T.toNat, T.toNat⟩, rfl, ?_⟩
  refine alloc_step (fun w9 e9 hq0 n9 => set_step hq0 (by simp) (fun w10 o10 hq0 n10 => ?_))
  have e10 : Ext w7 w10 := Ext.own e9 o10 (fun k hk => by omega)
  refine map_step (fun w11 e11 hset n11 => ?_)
  refine alloc_step (fun w12 e12 hq1 n12 => set_step hq1 (by simp) (fun w13 o13 hq1 n13 => ?_))
  have e13 : Ext w11 w13 := Ext.own e12 o13 (fun k hk => by omega)
  refine alloc_step (fun w14 e14 hq2 n14 => ?_)
  refine alloc_step (fun w15 e15 hq4 n15 => set_step hq4 (by simp) (fun w16 o16 hq4 n16 => ?_))
  have e16 : Ext w14 w16 := Ext.own e15 o16 (fun k hk => by omega)
  have e7_16 : Ext w7 w16 := Only.trans e10 (Only.trans e11 (Only.trans e13 (Only.trans e14 e16)))
  have eall : Ext w w16 := Only.trans e1 (Only.trans e7 e7_16)
  have zall := eall.size
  let c : ICap := ⟨w7.heap.size, w11.heap.size, w13.heap.size, w.heap.size, w14.heap.size, bf, w10.heap.size, b, w16.heap.size⟩
  have hc : ∀ k, c.S k ↔ k = w10.heap.size ∨ k = w13.heap.size ∨ w16.heap.size ≤ k := fun k => Iff.rfl
  have nS : ∀ k, k ≠ w10.heap.size → k ≠ w13.heap.size → k < w16.heap.size → ¬ c.S k := fun k h1 h2 h3 hh => by
    rcases (hc k).1 hh with hh | hh | hh
    · exact h1 hh
    · exact h2 hh
    · omega
  have hctx : ICtx w16 c sm m (freeL T fr) (.int .i64 T) (.slice sf.a sf.len sf.cap) := by
    refine ⟨?_, hbf.ext e7_16, hq1.ext (Only.trans e14 e16), hq3.ext e7_16, hq4, hp.ext eall, hm.ext eall, fun hne p hpa => ?_, ?_, ?_, ?_, ?_, ?_, ?_, ?_, hok.len, by rw [freeL_len]; omega, ?_, ?_, Nat.le_refl _⟩
    · rw [freeL_len]; exact hq0.ext (Only.trans e11 (Only.trans e13 (Only.trans e14 e16)))
    · have := hm.old hne hpa
      rw [hc]; omega
    · exact nS w7.heap.size (by omega) (by omega) (by omega)
    · exact nS bf (by omega) (by omega) (by omega)
    · exact nS w11.heap.size (by omega) (by omega) (by omega)
    · exact nS w.heap.size (by omega) (by omega) (by omega)
    · exact nS w14.heap.size (by omega) (by omega) (by omega)
    · exact nS b (by omega) (by omega) (by omega)
    · show w10.heap.size ≠ w13.heap.size; omega
    · show w10.heap.size < w16.heap.size; omega
    · show w13.heap.size < w16.heap.size; omega
  have hseen : ISeen w16 c [] := ⟨hset.ext (Only.trans e13 (Only.trans e14 e16)), ⟨none, 0, 0⟩, hq2.ext e16, OwnS.none _ _ _ _⟩
  refine ⟨⟨157, [], c.ptrs⟩, hq4.cell 0, ?_⟩
  refine CallW.mono (K := IV c (tblF m (freeL T fr) 2 root []) w16) (implTab hctx hseen (by simp)) ?_
  rintro _ w19 ⟨rfl, o19, hs19⟩
  have e19 : Ext w w19 := eall.own o19 (fun i hi => by rw [hc] at hi; omega)
  refine ⟨_, rfl, ?_⟩
  cases hr : tblF m (freeL T fr) 2 root [] with
  | none => exact BIf.t rfl ⟨⟨none, 0, 0⟩, rfl, e19, fun _ => rfl, fun S' hS => by cases hS⟩
  | some S' =>
    obtain ⟨_, l, hl, own⟩ := hs19 S' hr
    refine BIf.f rfl ⟨l, hl.cell 0, l, rfl, e19, (fun hn => by cases hn), fun S2 hS => ?_⟩
    injection hS with hS
    subst hS
    refine ⟨?_, own.mono (by show w.heap.size ≤ w16.heap.size; omega)⟩
    have hll := own.len
    rw [List.length_map, Nat.mul_one] at hll
    have hne : 0 < S'.length := List.length_pos_iff.2 (tblF_ne hr)
    rcases own.2 with ⟨_, h0⟩ | ⟨q, cs, ha, _⟩
    · omega
    · rw [ha]; rfl
theorem c35 {sm sf : Sl} {m : List Int} {T : Int} {fr : List DBlock} {root : Int} {w : World} (hm : Bytes w sm m) (hf : FrAt w sf fr) : CallW Try.prog 35 #[.agg #[.slice sm.a sm.len sm.cap, .int .i64 T, .slice sf.a sf.len sf.cap], .int .i64 root] w (fun v w' => v = .bool (spaceT m T fr root).isSome ∧ Ext w w') := by
  refine go35 ?_
  unfold W35
  refine alloc_step (fun w1 e hb n1 => ?_)
  refine ⟨sm, hb.cell 0, _, hb.cell 1, sf, hb.cell 2, (c94 (hm.ext e) (hf.ext e)).mono ?_⟩
  rintro _ w6 ⟨b, rfl, hiff, e6⟩
  have e06 := Only.trans e e6
  have hb6 := hb.ext e6
  refine ⟨b, rfl, ?_⟩
  refine JoinW.each (BIf.of (fun hy => ?_) (fun hn => ?_))
  · have hok := hiff.1 hy
    refine ⟨sm, hb6.cell 0, _, hb6.cell 1, sf, hb6.cell 2, (c95 (hm.ext e06) (hf.ext e06)).mono ?_⟩
    rintro _ w15 ⟨bp, tm, tf, rfl, hpool, e15⟩
    have hfew := hf.few
    refine ⟨_, rfl, (c96 hpool.blk (own_bytes hpool.mem hm.rng hm.small) (own_fr hpool.frs hfew) hok).mono ?_⟩
    rintro _ w18 ⟨l, rfl, e18, hn18, hs18⟩
    refine ⟨l, rfl, ?_, Only.trans e06 (Only.trans e15 e18)⟩
    rw [spaceT_pos hok]
    cases hr : tblF m (freeL T fr) 2 root [] with
    | none => rw [hn18 hr]; rfl
    | some S' =>
      have := (hs18 S' hr).1
      cases hl : l.a with
      | none => rw [hl] at this; cases this
      | some p => rfl
  · have hno : ¬ POk m T fr := fun h => by rw [hiff.2 h] at hn; cases hn
    exact ⟨by rw [spaceT_neg hno]; rfl, e06⟩
end Go.Proofs.Ytkgoanjemhbjgaa

/- The law's own functions over trees: copies, sizes, comparisons, marks; printed by a program. Conditions: none. -/
set_option linter.unusedVariables false
set_option linter.unusedSimpArgs false
set_option maxRecDepth 4000
namespace Go.Proofs.Ytkgoanjemhbjgaa
open Go Go.Den

theorem has_Block {d : Dat} (h : Has TyBlock d) : ∃ x_0 : Int, ∃ x_1 : Int, d = .st [.int .i64 x_0, .int .i64 x_1] := by
  obtain ⟨_, rfl, g⟩ := has_st h
  obtain ⟨_, _, rfl, h_0, g⟩ := hasF_cons g
  obtain ⟨_, _, rfl, h_1, g⟩ := hasF_cons g
  obtain rfl := hasF_nil g
  obtain ⟨x_0, rfl⟩ := has_int h_0
  obtain ⟨x_1, rfl⟩ := has_int h_1
  exact ⟨x_0, x_1, rfl⟩
theorem cells_Block {w : World} {x_0 : Int} {x_1 : Int} {cs : List Value} (h : IsD w (.st [.int .i64 x_0, .int .i64 x_1]) cs) : cs = [.int .i64 x_0, .int .i64 x_1] ∧ ((Lit.int .i64 x_0).wf = true) ∧ ((Lit.int .i64 x_1).wf = true) := by
  have q := isD_st h
  obtain ⟨_, _, rfl, i_0, q⟩ := isF_cons q
  obtain ⟨_, _, rfl, i_1, q⟩ := isF_cons q
  obtain rfl := isF_nil q
  obtain ⟨rfl, ws_0⟩ := isD_int i_0
  obtain ⟨rfl, ws_1⟩ := isD_int i_1
  exact ⟨rfl, ws_0, ws_1⟩
theorem has_Frames {d : Dat} (h : Has TyFrames d) : ∃ x_0 : Int, ∃ l_1 : List Dat, d = .st [.int .i64 x_0, .sl 2 l_1] ∧ (∀ e, e ∈ l_1 → Has TyBlock e) := by
  obtain ⟨_, rfl, g⟩ := has_st h
  obtain ⟨_, _, rfl, h_0, g⟩ := hasF_cons g
  obtain ⟨_, _, rfl, h_1, g⟩ := hasF_cons g
  obtain rfl := hasF_nil g
  obtain ⟨x_0, rfl⟩ := has_int h_0
  obtain ⟨l_1, rfl, t_1⟩ := has_sl h_1
  exact ⟨x_0, l_1, rfl, t_1⟩
theorem cells_Frames {w : World} {x_0 : Int} {l_1 : List Dat} {cs : List Value} (h : IsD w (.st [.int .i64 x_0, .sl 2 l_1]) cs) : ∃ s_1 : Sl, cs = [.int .i64 x_0, .slice s_1.a s_1.len s_1.cap] ∧ ((Lit.int .i64 x_0).wf = true) ∧ (IsD w (.sl 2 l_1) [.slice s_1.a s_1.len s_1.cap]) := by
  have q := isD_st h
  obtain ⟨_, _, rfl, i_0, q⟩ := isF_cons q
  obtain ⟨_, _, rfl, i_1, q⟩ := isF_cons q
  obtain rfl := isF_nil q
  obtain ⟨rfl, ws_0⟩ := isD_int i_0
  obtain ⟨s_1, rfl⟩ := isD_sl_s i_1
  have is_1 := i_1
  exact ⟨s_1, rfl, ws_0, is_1⟩
theorem has_Pool {d : Dat} (h : Has TyPool d) : ∃ l_0 : List Dat, ∃ x_1_0 : Int, ∃ l_1_1 : List Dat, d = .st [.sl 1 l_0, .st [.int .i64 x_1_0, .sl 2 l_1_1]] ∧ (∀ e, e ∈ l_0 → Has (.int .u8) e) ∧ (Has TyFrames (.st [.int .i64 x_1_0, .sl 2 l_1_1])) ∧ (∀ e, e ∈ l_1_1 → Has TyBlock e) := by
  obtain ⟨_, rfl, g⟩ := has_st h
  obtain ⟨_, _, rfl, h_0, g⟩ := hasF_cons g
  obtain ⟨_, _, rfl, h_1, g⟩ := hasF_cons g
  obtain rfl := hasF_nil g
  obtain ⟨l_0, rfl, t_0⟩ := has_sl h_0
  have h_1k := h_1
  obtain ⟨x_1_0, l_1_1, rfl, t_1_1⟩ := has_Frames h_1
  exact ⟨l_0, x_1_0, l_1_1, rfl, t_0, h_1k, t_1_1⟩
theorem cells_Pool {w : World} {l_0 : List Dat} {x_1_0 : Int} {l_1_1 : List Dat} {cs : List Value} (h : IsD w (.st [.sl 1 l_0, .st [.int .i64 x_1_0, .sl 2 l_1_1]]) cs) : ∃ s_0 : Sl, ∃ s_1_1 : Sl, cs = [.slice s_0.a s_0.len s_0.cap, .int .i64 x_1_0, .slice s_1_1.a s_1_1.len s_1_1.cap] ∧ (IsD w (.sl 1 l_0) [.slice s_0.a s_0.len s_0.cap]) ∧ (IsD w (.st [.int .i64 x_1_0, .sl 2 l_1_1]) [.int .i64 x_1_0, .slice s_1_1.a s_1_1.len s_1_1.cap]) ∧ ((Lit.int .i64 x_1_0).wf = true) ∧ (IsD w (.sl 2 l_1_1) [.slice s_1_1.a s_1_1.len s_1_1.cap]) := by
  have q := isD_st h
  obtain ⟨_, _, rfl, i_0, q⟩ := isF_cons q
  obtain ⟨_, _, rfl, i_1, q⟩ := isF_cons q
  obtain rfl := isF_nil q
  obtain ⟨s_0, rfl⟩ := isD_sl_s i_0
  have is_0 := i_0
  have is_1 := i_1
  obtain ⟨s_1_1, rfl, ws_1_0, is_1_1⟩ := cells_Frames i_1
  exact ⟨s_0, s_1_1, rfl, is_0, is_1, ws_1_0, is_1_1⟩
/- toByteS -/
theorem c92 {l : List Dat} {a0 : Sl} {w : World} (ht : ∀ e, e ∈ l → Has (.int .u8) e) (h : IsD w (.sl 1 l) [.slice a0.a a0.len a0.cap]) (hs : (Dat.sl 1 l).sz ≤ 4194304) : CallW Try.prog 92 #[.slice a0.a a0.len a0.cap] w (fun v w' => ∃ s : Sl, v = .slice s.a s.len s.cap ∧ Fr w.heap.size w'.heap.size w' (.sl 1 l) [.slice s.a s.len s.cap] ∧ Ext w w') := by
  refine go92 ?_
  unfold W92
  obtain ⟨hlen, hmax, hel⟩ := isD_sl h
  simp only [Dat.sz] at hs
  rw [hlen]; simp only [Int.toNat_natCast]
  refine ⟨by omega, by omega, by omega, by omega, LetW_iff.2 ?_⟩
  have hs0 := ToInv.start (w := w) (z := 1) (zero := ti5.zero) (e := 5) l rfl
  generalize w.alloc (.cells ⟨zerosOf ti5.zero l.length⟩ 5) = w1 at *
  refine LoopW.m1 (fun (i : Int) w' => ∃ (k : Nat) (bs : List Nat) (vs : List Value), i = k ∧ ToInv w w' w.heap.size 1 l k bs vs) (fun (i : Int) _ => (l.length - i).toNat) ⟨0, [], _, rfl, hs0⟩ ?_
  rintro (i : Int) w4 ⟨k, bs, vs, rfl, hi⟩ J hJ
  refine BIf.dec (fun hlt => ?_) (fun hge => ?_)
  · obtain ⟨d, hd⟩ : ∃ d, l[k]? = some d := ⟨_, List.getElem?_eq_getElem (by omega)⟩
    have hsz := szs_get hd
    obtain ⟨p, es, hp, he, hc, his⟩ := isD_at (IsD.ext hi.ext _ _ h) hd
    have ht0 := ht d (mem_get hd)
    obtain ⟨x, rfl⟩ := has_int ht0
    obtain ⟨rfl, ws⟩ := isD_int his
    obtain ⟨b1, ho, hn, hb⟩ := fr_int (lo := w4.heap.size) (hi := w4.heap.size) (w := w4) ws
    obtain ⟨hm, hi2⟩ := hi.step hd (Only.refl _ _) ho hn (fun c hc => (hb c hc).1) rfl
    rw [puts_one] at hi2
    refine ⟨by omega, by omega, p, hp, _, hc 0 _ rfl, by omega, by omega, _, rfl, mayN_one hm, LetW_iff.2 ?_⟩
    rw [w64 (by omega) (by omega)]
    exact hJ _ _ ⟨k + 1, _, _, by omega, hi2⟩ (by omega)
  · exact ⟨⟨some ⟨w.heap.size, 0, none⟩, l.length, l.length⟩, rfl, (hi.done (by omega) hmax).fr, hi.ext⟩

/- toBlock -/
theorem c187 {d : Dat} {cs : List Value} {w : World} (ht : Has TyBlock d) (h : IsD w d cs) (hs : d.sz ≤ 4194304) : CallW Try.prog 187 #[.agg ⟨cs⟩] w (fun v w' => ∃ cs', v = .agg ⟨cs'⟩ ∧ Fr w.heap.size w'.heap.size w' d cs' ∧ Ext w w') := by
  obtain ⟨x_0, x_1, rfl⟩ := has_Block ht
  obtain ⟨rfl, ws_0, ws_1⟩ := cells_Block h
  show CallW Try.prog 187 #[.agg #[.int .i64 x_0, .int .i64 x_1]] w _
  refine go187 ?_
  unfold W187
  refine alloc_step (fun w1 e1 ha n1 => ?_)
  refine alloc_step (fun w2 e2 hc n2 => ?_)
  have ha := ha.ext e2
  refine alloc_step (fun w3 e3 hb n3 => ?_)
  have ha := ha.ext e3
  have hc := hc.ext e3
  have e := Only.trans e1 (Only.trans e2 e3)
  refine ⟨_, ha.cell 0, ?_⟩
  refine set_step hb (by simp) (fun w4 o4 hb n4 => ?_)
  have ha := ha.only o4 (by omega)
  have hc := hc.only o4 (by omega)
  have e := Ext.own e o4 (fun k hk => by omega)
  refine ⟨_, ha.cell 1, ?_⟩
  refine set_step hb (by simp) (fun w5 o5 hb n5 => ?_)
  have ha := ha.only o5 (by omega)
  have hc := hc.only o5 (by omega)
  have e := Ext.own e o5 (fun k hk => by omega)
  refine ⟨_, hb.cell 0, _, hb.cell 1, ?_⟩
  refine put_step hc rfl rfl (fun w6 o6 hc n6 => ?_)
  have e := Ext.own e o6 (fun k hk => by omega)
  refine ⟨_, hc.cell 0, _, hc.cell 1, ?_⟩
  exact ⟨[.int .i64 x_0, .int .i64 x_1], rfl, frF_st (frF_cons (m := w.heap.size) (fr_int ws_0) (frF_cons (m := w.heap.size) (fr_int ws_1) (frF_nil) (by omega) (by omega)) (by omega) (by omega)), e⟩

/- toBlockS -/
theorem c154 {l : List Dat} {a0 : Sl} {w : World} (ht : ∀ e, e ∈ l → Has TyBlock e) (h : IsD w (.sl 2 l) [.slice a0.a a0.len a0.cap]) (hs : (Dat.sl 2 l).sz ≤ 4194304) : CallW Try.prog 154 #[.slice a0.a a0.len a0.cap] w (fun v w' => ∃ s : Sl, v = .slice s.a s.len s.cap ∧ Fr w.heap.size w'.heap.size w' (.sl 2 l) [.slice s.a s.len s.cap] ∧ Ext w w') := by
  refine go154 ?_
  unfold W154
  obtain ⟨hlen, hmax, hel⟩ := isD_sl h
  simp only [Dat.sz] at hs
  rw [hlen]; simp only [Int.toNat_natCast]
  refine ⟨by omega, by omega, by omega, by omega, LetW_iff.2 ?_⟩
  have hs0 := ToInv.start (w := w) (z := 2) (zero := ti123.zero) (e := 123) l rfl
  generalize w.alloc (.cells ⟨zerosOf ti123.zero l.length⟩ 123) = w1 at *
  refine LoopW.m1 (fun (i : Int) w' => ∃ (k : Nat) (bs : List Nat) (vs : List Value), i = k ∧ ToInv w w' w.heap.size 2 l k bs vs) (fun (i : Int) _ => (l.length - i).toNat) ⟨0, [], _, rfl, hs0⟩ ?_
  rintro (i : Int) w4 ⟨k, bs, vs, rfl, hi⟩ J hJ
  refine BIf.dec (fun hlt => ?_) (fun hge => ?_)
  · obtain ⟨d, hd⟩ : ∃ d, l[k]? = some d := ⟨_, List.getElem?_eq_getElem (by omega)⟩
    have hsz := szs_get hd
    obtain ⟨p, es, hp, he, hc, his⟩ := isD_at (IsD.ext hi.ext _ _ h) hd
    have ht0 := ht d (mem_get hd)
    obtain ⟨x_0, x_1, rfl⟩ := has_Block ht0
    have his0 := his
    obtain ⟨rfl, ws_0, ws_1⟩ := cells_Block his
    refine ⟨by omega, by omega, p, hp, _, hc 0 _ rfl, _, hc 1 _ rfl, (c187 (cs := [.int .i64 x_0, .int .i64 x_1]) ht0 his0 (by omega)).mono ?_⟩
    rintro _ w9 ⟨r, rfl, f, e9⟩
    have hr := f.is
    obtain ⟨rfl, wr_0, wr_1⟩ := cells_Block hr
    obtain ⟨b1, ho, hn, hb⟩ := f
    obtain ⟨hm, hi2⟩ := hi.step hd e9 ho hn (fun c hc => (hb c hc).1) rfl
    refine ⟨_, _, rfl, by omega, by omega, _, rfl, hm, LetW_iff.2 ?_⟩
    rw [w64 (by omega) (by omega)]
    exact hJ _ _ ⟨k + 1, _, _, by omega, hi2⟩ (by omega)
  · exact ⟨⟨some ⟨w.heap.size, 0, none⟩, l.length, l.length⟩, rfl, (hi.done (by omega) hmax).fr, hi.ext⟩

/- toFrames -/
theorem c93 {d : Dat} {cs : List Value} {w : World} (ht : Has TyFrames d) (h : IsD w d cs) (hs : d.sz ≤ 4194304) : CallW Try.prog 93 #[.agg ⟨cs⟩] w (fun v w' => ∃ cs', v = .agg ⟨cs'⟩ ∧ Fr w.heap.size w'.heap.size w' d cs' ∧ Ext w w') := by
  obtain ⟨x_0, l_1, rfl, t_1⟩ := has_Frames ht
  obtain ⟨s_1, rfl, ws_0, is_1⟩ := cells_Frames h
  show CallW Try.prog 93 #[.agg #[.int .i64 x_0, .slice s_1.a s_1.len s_1.cap]] w _
  refine go93 ?_
  unfold W93
  refine alloc_step (fun w1 e1 ha n1 => ?_)
  refine alloc_step (fun w2 e2 hc n2 => ?_)
  have ha := ha.ext e2
  refine alloc_step (fun w3 e3 hb n3 => ?_)
  have ha := ha.ext e3
  have hc := hc.ext e3
  have e := Only.trans e1 (Only.trans e2 e3)
  refine ⟨_, ha.cell 0, ?_⟩
  refine set_step hb (by simp) (fun w4 o4 hb n4 => ?_)
  have ha := ha.only o4 (by omega)
  have hc := hc.only o4 (by omega)
  have e := Ext.own e o4 (fun k hk => by omega)
  refine ⟨s_1, ha.cell 1, ?_⟩
  refine (c154 t_1 (IsD.ext e _ _ is_1) (by simp only [Dat.sz, Dat.szs] at hs ⊢; omega)).mono ?_
  rintro _ w5 ⟨r_1, rfl, f_1, e5⟩
  refine ⟨r_1, rfl, ?_⟩
  have ha := ha.ext e5
  have hb := hb.ext e5
  have hc := hc.ext e5
  have e := Only.trans e e5
  have z5 := e5.size
  refine set_step hb (by simp) (fun w6 o6 hb n6 => ?_)
  have ha := ha.only o6 (by omega)
  have hc := hc.only o6 (by omega)
  have e := Ext.own e o6 (fun k hk => by omega)
  have f_1 := f_1.only o6 (fun k _ _ => by omega)
  refine ⟨_, hb.cell 0, r_1, hb.cell 1, ?_⟩
  refine put_step hc rfl rfl (fun w7 o7 hc n7 => ?_)
  have e := Ext.own e o7 (fun k hk => by omega)
  have f_1 := f_1.only o7 (fun k _ _ => by omega)
  refine ⟨_, hc.cell 0, r_1, hc.cell 1, ?_⟩
  exact ⟨[.int .i64 x_0, .slice r_1.a r_1.len r_1.cap], rfl, frF_st (frF_cons (m := w.heap.size) (fr_int ws_0) (frF_cons (m := w5.heap.size) (f_1.mono (by omega) (Nat.le_refl _)) (frF_nil) (by omega) (by omega)) (by omega) (by omega)), e⟩

/- toPool -/
theorem c34 {d : Dat} {cs : List Value} {w : World} (ht : Has TyPool d) (h : IsD w d cs) (hs : d.sz ≤ 4194304) : CallW Try.prog 34 #[.agg ⟨cs⟩] w (fun v w' => ∃ cs', v = .agg ⟨cs'⟩ ∧ Fr w.heap.size w'.heap.size w' d cs' ∧ Ext w w') := by
  obtain ⟨l_0, x_1_0, l_1_1, rfl, t_0, h_1k, t_1_1⟩ := has_Pool ht
  obtain ⟨s_0, s_1_1, rfl, is_0, is_1, ws_1_0, is_1_1⟩ := cells_Pool h
  show CallW Try.prog 34 #[.agg #[.slice s_0.a s_0.len s_0.cap, .int .i64 x_1_0, .slice s_1_1.a s_1_1.len s_1_1.cap]] w _
  refine go34 ?_
  unfold W34
  refine alloc_step (fun w1 e1 ha n1 => ?_)
  refine alloc_step (fun w2 e2 hc n2 => ?_)
  have ha := ha.ext e2
  refine alloc_step (fun w3 e3 hb n3 => ?_)
  have ha := ha.ext e3
  have hc := hc.ext e3
  have e := Only.trans e1 (Only.trans e2 e3)
  refine ⟨s_0, ha.cell 0, ?_⟩
  refine (c92 t_0 (IsD.ext e _ _ is_0) (by simp only [Dat.sz, Dat.szs] at hs ⊢; omega)).mono ?_
  rintro _ w4 ⟨r_0, rfl, f_0, e4⟩
  refine ⟨r_0, rfl, ?_⟩
  have ha := ha.ext e4
  have hb := hb.ext e4
  have hc := hc.ext e4
  have e := Only.trans e e4
  have z4 := e4.size
  refine set_step hb (by simp) (fun w5 o5 hb n5 => ?_)
  have ha := ha.only o5 (by omega)
  have hc := hc.only o5 (by omega)
  have e := Ext.own e o5 (fun k hk => by omega)
  have f_0 := f_0.only o5 (fun k _ _ => by omega)
  refine ⟨_, ha.cell 1, s_1_1, ha.cell 2, ?_⟩
  refine (c93 (cs := [.int .i64 x_1_0, .slice s_1_1.a s_1_1.len s_1_1.cap]) h_1k (IsD.ext e _ _ is_1) (by simp only [Dat.sz, Dat.szs] at hs ⊢; omega)).mono ?_
  rintro _ w6 ⟨r_1, rfl, f_1, e6⟩
  have hr_1 := f_1.is
  obtain ⟨r_1_1, rfl, wr_1_0, ir_1_1⟩ := cells_Frames hr_1
  refine ⟨_, r_1_1, rfl, ?_⟩
  have ha := ha.ext e6
  have hb := hb.ext e6
  have hc := hc.ext e6
  have e := Only.trans e e6
  have z6 := e6.size
  have f_0 := f_0.ext e6
  refine putAt_step hb rfl (by simp [setAll_length]) (fun w7 o7 hb n7 => ?_)
  have ha := ha.only o7 (by omega)
  have hc := hc.only o7 (by omega)
  have e := Ext.own e o7 (fun k hk => by omega)
  have f_0 := f_0.only o7 (fun k _ _ => by omega)
  have f_1 := f_1.only o7 (fun k _ _ => by omega)
  refine ⟨r_0, hb.cell 0, _, hb.cell 1, r_1_1, hb.cell 2, ?_⟩
  refine put_step hc rfl rfl (fun w8 o8 hc n8 => ?_)
  have e := Ext.own e o8 (fun k hk => by omega)
  have f_0 := f_0.only o8 (fun k _ _ => by omega)
  have f_1 := f_1.only o8 (fun k _ _ => by omega)
  refine ⟨r_0, hc.cell 0, _, hc.cell 1, r_1_1, hc.cell 2, ?_⟩
  exact ⟨[.slice r_0.a r_0.len r_0.cap, .int .i64 x_1_0, .slice r_1_1.a r_1_1.len r_1_1.cap], rfl, frF_st (frF_cons (m := w4.heap.size) (f_0.mono (by omega) (Nat.le_refl _)) (frF_cons (m := w6.heap.size) (f_1.mono (by omega) (Nat.le_refl _)) (frF_nil) (by omega) (by omega)) (by omega) (by omega)), e⟩

/- szByteS -/
theorem c89 {l : List Dat} {a0 : Sl} {left : Int} {w : World} (ht : ∀ e, e ∈ l → Has (.int .u8) e) (h : IsD w (.sl 1 l) [.slice a0.a a0.len a0.cap]) (h0 : 0 ≤ left) (hl : left ≤ 4611686018427387904) : CallW Try.prog 89 #[.slice a0.a a0.len a0.cap, .int .i64 left] w (fun v w' => SzPost (Dat.sl 1 l).sz left v ∧ Ext w w') := by
  refine go89 ?_
  unfold W89
  obtain ⟨hlen, hmax, hel⟩ := isD_sl h
  have hmx : maxLen = 9223372036854775807 := rfl
  rw [hlen, w64 (by omega) (by omega)]
  have hz : Dat.szs l = 0 := by
    refine szs_zero (fun d hd => ?_)
    have ht0 := ht d hd
    obtain ⟨x, rfl⟩ := has_int ht0
    rfl
  refine BIf.dec (fun hn => ⟨⟨_, rfl, .inr ⟨by omega, by simp only [Dat.sz]; omega⟩⟩, Only.refl _ _⟩) (fun hp => ⟨⟨_, rfl, .inl ⟨by simp only [Dat.sz]; omega, by omega⟩⟩, Only.refl _ _⟩)

/- szBlockS -/
theorem c151 {l : List Dat} {a0 : Sl} {left : Int} {w : World} (ht : ∀ e, e ∈ l → Has TyBlock e) (h : IsD w (.sl 2 l) [.slice a0.a a0.len a0.cap]) (h0 : 0 ≤ left) (hl : left ≤ 4611686018427387904) : CallW Try.prog 151 #[.slice a0.a a0.len a0.cap, .int .i64 left] w (fun v w' => SzPost (Dat.sl 2 l).sz left v ∧ Ext w w') := by
  refine go151 ?_
  unfold W151
  obtain ⟨hlen, hmax, hel⟩ := isD_sl h
  have hmx : maxLen = 9223372036854775807 := rfl
  rw [hlen, w64 (by omega) (by omega)]
  have hz : Dat.szs l = 0 := by
    refine szs_zero (fun d hd => ?_)
    have ht0 := ht d hd
    obtain ⟨x_0, x_1, rfl⟩ := has_Block ht0
    rfl
  refine BIf.dec (fun hn => ⟨⟨_, rfl, .inr ⟨by omega, by simp only [Dat.sz]; omega⟩⟩, Only.refl _ _⟩) (fun hp => ⟨⟨_, rfl, .inl ⟨by simp only [Dat.sz]; omega, by omega⟩⟩, Only.refl _ _⟩)

/- szFrames -/
theorem c90 {d : Dat} {cs : List Value} {left : Int} {w : World} (ht : Has TyFrames d) (h : IsD w d cs) (h0 : 0 ≤ left) (hl : left ≤ 4611686018427387904) : CallW Try.prog 90 #[.agg ⟨cs⟩, .int .i64 left] w (fun v w' => SzPost d.sz left v ∧ Ext w w') := by
  obtain ⟨x_0, l_1, rfl, t_1⟩ := has_Frames ht
  obtain ⟨s_1, rfl, ws_0, is_1⟩ := cells_Frames h
  show CallW Try.prog 90 #[.agg #[.int .i64 x_0, .slice s_1.a s_1.len s_1.cap], .int .i64 left] w _
  refine go90 ?_
  unfold W90
  refine alloc_step (fun w1 e ha n1 => ?_)
  have hmx : maxLen = 9223372036854775807 := rfl
  have hx : (0 : Int) ≤ left ∧ left ≤ left := ⟨h0, Int.le_refl _⟩
  have hd := Int.sub_zero left
  refine ⟨s_1, ha.cell 1, (c151 t_1 (IsD.ext e _ _ is_1) (by omega) (by omega)).mono ?_⟩
  rintro _ w2 ⟨⟨r2, rfl, hr2⟩, e2⟩
  have ha := ha.ext e2
  have e := Only.trans e e2
  refine ⟨r2, rfl, BIf.dec (fun hn => ⟨⟨_, rfl, .inr ⟨by omega, by simp only [Dat.sz, Dat.szs] at *; omega⟩⟩, e⟩) (fun hp2 => ?_)⟩
  exact ⟨⟨_, rfl, .inl ⟨by simp only [Dat.sz, Dat.szs] at *; omega, by omega⟩⟩, e⟩

/- szPool -/
theorem c32 {d : Dat} {cs : List Value} {left : Int} {w : World} (ht : Has TyPool d) (h : IsD w d cs) (h0 : 0 ≤ left) (hl : left ≤ 4611686018427387904) : CallW Try.prog 32 #[.agg ⟨cs⟩, .int .i64 left] w (fun v w' => SzPost d.sz left v ∧ Ext w w') := by
  obtain ⟨l_0, x_1_0, l_1_1, rfl, t_0, h_1k, t_1_1⟩ := has_Pool ht
  obtain ⟨s_0, s_1_1, rfl, is_0, is_1, ws_1_0, is_1_1⟩ := cells_Pool h
  show CallW Try.prog 32 #[.agg #[.slice s_0.a s_0.len s_0.cap, .int .i64 x_1_0, .slice s_1_1.a s_1_1.len s_1_1.cap], .int .i64 left] w _
  refine go32 ?_
  unfold W32
  refine alloc_step (fun w1 e ha n1 => ?_)
  have hmx : maxLen = 9223372036854775807 := rfl
  have hx : (0 : Int) ≤ left ∧ left ≤ left := ⟨h0, Int.le_refl _⟩
  have hd := Int.sub_zero left
  refine ⟨s_0, ha.cell 0, (c89 t_0 (IsD.ext e _ _ is_0) (by omega) (by omega)).mono ?_⟩
  rintro _ w2 ⟨⟨r2, rfl, hr2⟩, e2⟩
  have ha := ha.ext e2
  have e := Only.trans e e2
  refine ⟨r2, rfl, BIf.dec (fun hn => ⟨⟨_, rfl, .inr ⟨by omega, by simp only [Dat.sz, Dat.szs] at *; omega⟩⟩, e⟩) (fun hp2 => ?_)⟩
  refine ⟨_, ha.cell 1, s_1_1, ha.cell 2, (c90 (cs := [.int .i64 x_1_0, .slice s_1_1.a s_1_1.len s_1_1.cap]) h_1k (IsD.ext e _ _ is_1) (by omega) (by omega)).mono ?_⟩
  rintro _ w3 ⟨⟨r3, rfl, hr3⟩, e3⟩
  have ha := ha.ext e3
  have e := Only.trans e e3
  refine ⟨r3, rfl, BIf.dec (fun hn => ⟨⟨_, rfl, .inr ⟨by omega, by simp only [Dat.sz, Dat.szs] at *; omega⟩⟩, e⟩) (fun hp3 => ?_)⟩
  exact ⟨⟨_, rfl, .inl ⟨by simp only [Dat.sz, Dat.szs] at *; omega, by omega⟩⟩, e⟩

/- eqByteS -/
theorem c97 {l : List Dat} {a0 a1 : Sl} {w : World} (ht : ∀ e, e ∈ l → Has (.int .u8) e) (h : IsD w (.sl 1 l) [.slice a0.a a0.len a0.cap]) (h2 : IsD w (.sl 1 l) [.slice a1.a a1.len a1.cap]) : CallW Try.prog 97 #[.slice a0.a a0.len a0.cap, .slice a1.a a1.len a1.cap] w (fun v w' => v = .bool true ∧ Ext w w') := by
  refine go97 ?_
  unfold W97
  obtain ⟨hlen, hmax, hel⟩ := isD_sl h
  obtain ⟨hlen2, _, hel2⟩ := isD_sl h2
  have hmx : maxLen = 9223372036854775807 := rfl
  rw [hlen, hlen2]
  refine BIf.f (by simp) ?_
  refine LoopW.m1 (fun (i : Int) w' => ∃ k : Nat, i = k ∧ k ≤ l.length ∧ Ext w w') (fun (i : Int) _ => (l.length - i).toNat) ⟨0, rfl, by omega, Only.refl _ _⟩ ?_
  rintro (i : Int) w4 ⟨k, rfl, hk, e4⟩ J hJ
  refine BIf.dec (fun hlt => ?_) (fun hge => ⟨rfl, e4⟩)
  obtain ⟨d, hd⟩ : ∃ d, l[k]? = some d := ⟨_, List.getElem?_eq_getElem (by omega)⟩
  have e4 := Only.trans e4 (ext_drew w4)
  obtain ⟨p, es, hp, he, hc, his⟩ := isD_at (IsD.ext e4 _ _ h) hd
  obtain ⟨p2, es2, hp2, he2, hc2, his2⟩ := isD_at (IsD.ext e4 _ _ h2) hd
  have ht0 := ht d (mem_get hd)
  have ht1 := ht0
  obtain ⟨x, rfl⟩ := has_int ht1
  obtain ⟨rfl, ws⟩ := isD_int his
  obtain ⟨rfl, wu⟩ := isD_int his2
  refine ⟨by omega, by omega, p, hp, _, hc 0 _ rfl, by omega, by omega, p2, hp2, _, hc2 0 _ rfl, BIf.f (by simp) ?_⟩
  rw [w64 (by omega) (by omega)]
  exact hJ _ _ ⟨k + 1, by omega, by omega, e4⟩ (by omega)

/- eqBlock -/
theorem c188 {d : Dat} {cs1 cs2 : List Value} {w : World} (ht : Has TyBlock d) (h : IsD w d cs1) (h2 : IsD w d cs2) : CallW Try.prog 188 #[.agg ⟨cs1⟩, .agg ⟨cs2⟩] w (fun v w' => v = .bool true ∧ Ext w w') := by
  obtain ⟨x_0, x_1, rfl⟩ := has_Block ht
  obtain ⟨rfl, ws_0, ws_1⟩ := cells_Block h
  obtain ⟨rfl, wu_0, wu_1⟩ := cells_Block h2
  show CallW Try.prog 188 #[.agg #[.int .i64 x_0, .int .i64 x_1], .agg #[.int .i64 x_0, .int .i64 x_1]] w _
  refine go188 ?_
  unfold W188
  refine alloc_step (fun w1 e1 ha n1 => ?_)
  refine alloc_step (fun w2 e2 hb n2 => ?_)
  have ha := ha.ext e2
  have e := Only.trans e1 e2
  refine ⟨_, ha.cell 0, _, hb.cell 0, BIf.f (by simp) ?_⟩
  refine ⟨_, ha.cell 1, _, hb.cell 1, BIf.f (by simp) ?_⟩
  exact ⟨rfl, e⟩

/- eqBlockS -/
theorem c158 {l : List Dat} {a0 a1 : Sl} {w : World} (ht : ∀ e, e ∈ l → Has TyBlock e) (h : IsD w (.sl 2 l) [.slice a0.a a0.len a0.cap]) (h2 : IsD w (.sl 2 l) [.slice a1.a a1.len a1.cap]) : CallW Try.prog 158 #[.slice a0.a a0.len a0.cap, .slice a1.a a1.len a1.cap] w (fun v w' => v = .bool true ∧ Ext w w') := by
  refine go158 ?_
  unfold W158
  obtain ⟨hlen, hmax, hel⟩ := isD_sl h
  obtain ⟨hlen2, _, hel2⟩ := isD_sl h2
  have hmx : maxLen = 9223372036854775807 := rfl
  rw [hlen, hlen2]
  refine BIf.f (by simp) ?_
  refine LoopW.m1 (fun (i : Int) w' => ∃ k : Nat, i = k ∧ k ≤ l.length ∧ Ext w w') (fun (i : Int) _ => (l.length - i).toNat) ⟨0, rfl, by omega, Only.refl _ _⟩ ?_
  rintro (i : Int) w4 ⟨k, rfl, hk, e4⟩ J hJ
  refine BIf.dec (fun hlt => ?_) (fun hge => ⟨rfl, e4⟩)
  obtain ⟨d, hd⟩ : ∃ d, l[k]? = some d := ⟨_, List.getElem?_eq_getElem (by omega)⟩
  have e4 := Only.trans e4 (ext_drew w4)
  obtain ⟨p, es, hp, he, hc, his⟩ := isD_at (IsD.ext e4 _ _ h) hd
  obtain ⟨p2, es2, hp2, he2, hc2, his2⟩ := isD_at (IsD.ext e4 _ _ h2) hd
  have ht0 := ht d (mem_get hd)
  have ht1 := ht0
  obtain ⟨x_0, x_1, rfl⟩ := has_Block ht1
  have his0 := his
  have his20 := his2
  obtain ⟨rfl, ws_0, ws_1⟩ := cells_Block his
  obtain ⟨rfl, wu_0, wu_1⟩ := cells_Block his2
  refine ⟨by omega, by omega, p, hp, _, hc 0 _ rfl, _, hc 1 _ rfl, by omega, by omega, p2, hp2, _, hc2 0 _ rfl, _, hc2 1 _ rfl, (c188 (cs1 := [.int .i64 x_0, .int .i64 x_1]) (cs2 := [.int .i64 x_0, .int .i64 x_1]) ht0 his0 his20).mono ?_⟩
  rintro _ w9 ⟨rfl, e9⟩
  refine ⟨true, rfl, BIf.f rfl ?_⟩
  rw [w64 (by omega) (by omega)]
  exact hJ _ _ ⟨k + 1, by omega, by omega, Only.trans e4 e9⟩ (by omega)

/- eqFrames -/
theorem c98 {d : Dat} {cs1 cs2 : List Value} {w : World} (ht : Has TyFrames d) (h : IsD w d cs1) (h2 : IsD w d cs2) : CallW Try.prog 98 #[.agg ⟨cs1⟩, .agg ⟨cs2⟩] w (fun v w' => v = .bool true ∧ Ext w w') := by
  obtain ⟨x_0, l_1, rfl, t_1⟩ := has_Frames ht
  obtain ⟨s_1, rfl, ws_0, is_1⟩ := cells_Frames h
  obtain ⟨u_1, rfl, wu_0, iu_1⟩ := cells_Frames h2
  show CallW Try.prog 98 #[.agg #[.int .i64 x_0, .slice s_1.a s_1.len s_1.cap], .agg #[.int .i64 x_0, .slice u_1.a u_1.len u_1.cap]] w _
  refine go98 ?_
  unfold W98
  refine alloc_step (fun w1 e1 ha n1 => ?_)
  refine alloc_step (fun w2 e2 hb n2 => ?_)
  have ha := ha.ext e2
  have e := Only.trans e1 e2
  refine ⟨_, ha.cell 0, _, hb.cell 0, BIf.f (by simp) ?_⟩
  refine ⟨s_1, ha.cell 1, u_1, hb.cell 1, (c158 t_1 (IsD.ext e _ _ is_1) (IsD.ext e _ _ iu_1)).mono ?_⟩
  rintro _ w3 ⟨rfl, e3⟩
  have ha := ha.ext e3
  have hb := hb.ext e3
  have e := Only.trans e e3
  refine ⟨true, rfl, BIf.f rfl ?_⟩
  exact ⟨rfl, e⟩

/- eqPool -/
theorem c36 {d : Dat} {cs1 cs2 : List Value} {w : World} (ht : Has TyPool d) (h : IsD w d cs1) (h2 : IsD w d cs2) : CallW Try.prog 36 #[.agg ⟨cs1⟩, .agg ⟨cs2⟩] w (fun v w' => v = .bool true ∧ Ext w w') := by
  obtain ⟨l_0, x_1_0, l_1_1, rfl, t_0, h_1k, t_1_1⟩ := has_Pool ht
  obtain ⟨s_0, s_1_1, rfl, is_0, is_1, ws_1_0, is_1_1⟩ := cells_Pool h
  obtain ⟨u_0, u_1_1, rfl, iu_0, iu_1, wu_1_0, iu_1_1⟩ := cells_Pool h2
  show CallW Try.prog 36 #[.agg #[.slice s_0.a s_0.len s_0.cap, .int .i64 x_1_0, .slice s_1_1.a s_1_1.len s_1_1.cap], .agg #[.slice u_0.a u_0.len u_0.cap, .int .i64 x_1_0, .slice u_1_1.a u_1_1.len u_1_1.cap]] w _
  refine go36 ?_
  unfold W36
  refine alloc_step (fun w1 e1 ha n1 => ?_)
  refine alloc_step (fun w2 e2 hb n2 => ?_)
  have ha := ha.ext e2
  have e := Only.trans e1 e2
  refine ⟨s_0, ha.cell 0, u_0, hb.cell 0, (c97 t_0 (IsD.ext e _ _ is_0) (IsD.ext e _ _ iu_0)).mono ?_⟩
  rintro _ w3 ⟨rfl, e3⟩
  have ha := ha.ext e3
  have hb := hb.ext e3
  have e := Only.trans e e3
  refine ⟨true, rfl, BIf.f rfl ?_⟩
  refine ⟨_, ha.cell 1, s_1_1, ha.cell 2, _, hb.cell 1, u_1_1, hb.cell 2, (c98 (cs1 := [.int .i64 x_1_0, .slice s_1_1.a s_1_1.len s_1_1.cap]) (cs2 := [.int .i64 x_1_0, .slice u_1_1.a u_1_1.len u_1_1.cap]) h_1k (IsD.ext e _ _ is_1) (IsD.ext e _ _ iu_1)).mono ?_⟩
  rintro _ w4 ⟨rfl, e4⟩
  have ha := ha.ext e4
  have hb := hb.ext e4
  have e := Only.trans e e4
  refine ⟨true, rfl, BIf.f rfl ?_⟩
  exact ⟨rfl, e⟩

end Go.Proofs.Ytkgoanjemhbjgaa

/- FnExactSpaceOk: both sides, for the walk. Conditions: none. -/
set_option linter.unusedVariables false
set_option linter.unusedSimpArgs false
namespace Go.Proofs.Ytkgoanjemhbjgaa
open Go Go.Den
theorem pool_of {x : DPool} {w : World} {cs : List Value} (h : IsD w x.dat cs) (hs : x.dat.sz ≤ 1048576) : ∃ sm sf : Sl, cs = [.slice sm.a sm.len sm.cap, .int .i64 x.Free.Total, .slice sf.a sf.len sf.cap] ∧ Bytes w sm x.Mem ∧ FrAt w sf x.Free.Free := by
  obtain ⟨sm, sf, rfl, im, _, _, iff⟩ := cells_Pool h
  have hsz : x.dat.sz = (Dat.sl 1 (x.Mem.map (Dat.int .u8))).sz + ((0 + (((x.Free.Free.map DBlock.dat).length + Dat.szs (x.Free.Free.map DBlock.dat)) + 0)) + 0) := rfl
  rw [sz_nums, List.length_map] at hsz
  have hm := isD_len im
  have hf := isD_len iff
  exact ⟨sm, sf, rfl, ⟨hm.1, isD_cap im, isD_nums im, fun y hy => wf_u8_rng (isD_wf im y hy), by omega⟩, ⟨hf.1, isD_row iff (fun _ => rfl) (fun es y hy => DBlock.is_cells hy), by omega⟩⟩
end Go.Proofs.Ytkgoanjemhbjgaa

/- Frames: the list of blocks of a set, on both sides: greedy, and by halves. Conditions: none. -/
set_option linter.unusedVariables false
set_option linter.unusedSimpArgs false
namespace Go.Proofs.Ytkgoanjemhbjgaa
open Go Go.Den
/-! ## The plain law -/
/-! ## Bools that are lent -/
/-! ## The reference's side -/
/-! ## The program's side -/
end Go.Proofs.Ytkgoanjemhbjgaa

/- Frames: one taken, on both sides. Conditions: none. -/
set_option linter.unusedVariables false
set_option linter.unusedSimpArgs false
namespace Go.Proofs.Ytkgoanjemhbjgaa
open Go Go.Den
/-! ## The best block -/
end Go.Proofs.Ytkgoanjemhbjgaa

/- Frames: one taken, on the program's side; pools: a frame taken and cleared. Conditions: none. -/
set_option linter.unusedVariables false
set_option linter.unusedSimpArgs false
namespace Go.Proofs.Ytkgoanjemhbjgaa
open Go Go.Den
/-! ## A frame's bytes cleared -/
end Go.Proofs.Ytkgoanjemhbjgaa

/- Spaces: a pool copied, a frame taken from a pool, both sides. Conditions: none. -/
set_option linter.unusedVariables false
set_option linter.unusedSimpArgs false
namespace Go.Proofs.Ytkgoanjemhbjgaa
open Go Go.Den
/-! ## A frame taken from a pool -/
end Go.Proofs.Ytkgoanjemhbjgaa

/- Spaces: a space made, both sides. Conditions: none. -/
set_option linter.unusedVariables false
set_option linter.unusedSimpArgs false
namespace Go.Proofs.Ytkgoanjemhbjgaa
open Go Go.Den
/-! ## As a tree -/
end Go.Proofs.Ytkgoanjemhbjgaa

/- FnExactSpaceNew: both sides, for the walk. Conditions: none. -/
set_option linter.unusedVariables false
set_option linter.unusedSimpArgs false
namespace Go.Proofs.Ytkgoanjemhbjgaa
open Go Go.Den
theorem pool_few {x : DPool} (hs : x.dat.sz ≤ 1048576) : x.Mem.length ≤ 1048576 ∧ x.Free.Free.length ≤ 1048576 := by
  have hsz : x.dat.sz = (Dat.sl 1 (x.Mem.map (Dat.int .u8))).sz + ((0 + (((x.Free.Free.map DBlock.dat).length + Dat.szs (x.Free.Free.map DBlock.dat)) + 0)) + 0) := rfl
  rw [sz_nums, List.length_map] at hsz
  omega
theorem cnts_nums {k : IntKind} : ∀ l : List Int, Dat.cnts (l.map (Dat.int k)) = l.length
  | [] => rfl
  | a :: r => by simp only [List.map_cons, Dat.cnts, Dat.cnt, cnts_nums r, List.length_cons]; omega
theorem cnts_blks : ∀ l : List DBlock, Dat.cnts (l.map DBlock.dat) = 2 * l.length
  | [] => rfl
  | a :: r => by simp only [List.map_cons, DBlock.dat, Dat.cnts, Dat.cnt, List.length_cons]; have := cnts_blks r; omega
theorem cnt_pool (x : DPool) : x.dat.cntT = x.Mem.length + 2 * x.Free.Free.length := by
  simp only [DPool.dat, DFrames.dat, Dat.cntT, Dat.cntTs, cnts_nums, cnts_blks]; omega
theorem pool_cnt {x : DPool} (hs : x.dat.sz ≤ 1048576) : x.dat.cntT ≤ 4194304 := by
  have := pool_few hs
  rw [cnt_pool]; omega
end Go.Proofs.Ytkgoanjemhbjgaa

/- Frames: given back, on both sides. Conditions: none. -/
set_option linter.unusedVariables false
set_option linter.unusedSimpArgs false
namespace Go.Proofs.Ytkgoanjemhbjgaa
open Go Go.Den
end Go.Proofs.Ytkgoanjemhbjgaa

/- Frames: held, on both sides. Conditions: none. -/
set_option linter.unusedVariables false
set_option linter.unusedSimpArgs false
namespace Go.Proofs.Ytkgoanjemhbjgaa
open Go Go.Den
end Go.Proofs.Ytkgoanjemhbjgaa

/- Frames: a list of free runs can be. Conditions: none. -/
set_option linter.unusedVariables false
set_option linter.unusedSimpArgs false
namespace Go.Proofs.Ytkgoanjemhbjgaa
open Go Go.Den
end Go.Proofs.Ytkgoanjemhbjgaa

/- Frames: new ones, how many are left. Conditions: none. -/
set_option linter.unusedVariables false
set_option linter.unusedSimpArgs false
namespace Go.Proofs.Ytkgoanjemhbjgaa
open Go Go.Den
end Go.Proofs.Ytkgoanjemhbjgaa

/- Frames: one operation, on the reference's side. Conditions: none. -/
set_option linter.unusedVariables false
set_option linter.unusedSimpArgs false
namespace Go.Proofs.Ytkgoanjemhbjgaa
open Go Go.Den
def oneF (b : Bool) : Int := if b then 1 else 0
theorem c86 {b : Bool} {w : World} : CallW Try.prog 86 #[.bool b] w (fun v w' => v = .int .u64 (oneF b) ∧ w' = w) := by
  refine go86 ?_
  unfold W86
  cases b
  · exact BIf.f rfl ⟨rfl, rfl⟩
  · exact BIf.t rfl ⟨rfl, rfl⟩
end Go.Proofs.Ytkgoanjemhbjgaa

/- The law's own functions over trees: copies, sizes, comparisons, marks; printed by a program. Conditions: none. -/
set_option linter.unusedVariables false
set_option linter.unusedSimpArgs false
set_option maxRecDepth 4000
namespace Go.Proofs.Ytkgoanjemhbjgaa
open Go Go.Den


/- markByteS -/
theorem c104 {l : List Dat} {a0 : Sl} {bs : List Nat} {k0 : Int} {w : World} (ht : ∀ e, e ∈ l → Has (.int .u8) e) (h : OwnD w (.sl 1 l) bs [.slice a0.a a0.len a0.cap]) (hn : bs.Nodup) (h0 : 1 ≤ k0) (hk : k0 + Dat.cnts l ≤ 1099511627776) : CallW Try.prog 104 #[.slice a0.a a0.len a0.cap, .int .i64 k0] w (fun v w' => v = .int .i64 (k0 + Dat.cnts l) ∧ ∃ l', l'.length = l.length ∧ Dat.cnts l' = Dat.cnts l ∧ (∀ e, e ∈ l' → Has (.int .u8) e) ∧ MarkedF TXT l' k0 ∧ OwnD w' (.sl 1 l') bs [.slice a0.a a0.len a0.cap] ∧ Only (fun k => k ∈ bs) w w') := by
  refine go104 ?_
  unfold W104
  obtain ⟨hlen, hmax⟩ := ownD_len h
  have hmx : maxLen = 9223372036854775807 := rfl
  rw [hlen]
  refine LoopW.m2 (fun (x i : Int) w' => ∃ (k : Nat) (l' : List Dat), i = k ∧ k ≤ l.length ∧ l'.length = k ∧ x = k0 + Dat.cnts l' ∧ Dat.cnts l' = Dat.cnts (l.take k) ∧ (∀ e, e ∈ l' → Has (.int .u8) e) ∧ MarkedF TXT l' k0 ∧ OwnD w' (.sl 1 (l' ++ l.drop k)) bs [.slice a0.a a0.len a0.cap] ∧ Only (fun k => k ∈ bs) w w') (fun _ (i : Int) _ => (l.length - i).toNat) ⟨0, [], rfl, by omega, rfl, by simp [Dat.cnts], by simp [Dat.cnts], fun e he => (by cases he), markedF_nil, by simpa using h, Only.refl _ _⟩ ?_
  rintro (kx : Int) (i : Int) w4 ⟨k, l', rfl, hkl, hl', hx, hcn, hty, hmk, ho, o4⟩ J hJ
  refine BIf.dec (fun hlt => ?_) (fun hge => ?_)
  · obtain ⟨d, hd⟩ : ∃ d, l[k]? = some d := ⟨_, List.getElem?_eq_getElem (by omega)⟩
    have hcg := cnts_get hd
    have hct := cnts_take hd
    have ht0 := ht d (mem_get hd)
    obtain ⟨x, rfl⟩ := has_int ht0
    simp only [Dat.cnt, Dat.cnts] at hcg hct
    obtain ⟨b, bp, b1, bq, vp, v1, vq, ha, hbs, hvp, hod, hm, hvl, hlc, _⟩ := ownD_at ho (get_app hl' hd)
    rw [(take_app hl').1, (take_app hl').2] at hm
    have hv0 := hm.len
    have hbs0 := hbs
    rw [Int.toNat_natCast, ← hvp]
    simp (disch := omega) only [w64]
    refine ⟨by omega, by omega, _, ha, ?_⟩
    obtain ⟨hmay, hm2, o5⟩ := hm.set (fun c hc he => by rw [hbs] at hn; simp only [List.nodup_cons, List.mem_append, not_or] at hn; subst he; rcases hc with hc | hc; exact hn.1.1 hc; exact hn.1.2.2 hc) (j := 0) (by omega) (.int .u8 (IntKind.wrap .u8 (kx)))
    refine ⟨hmay, LetW_iff.2 ?_⟩
    have o4 := Only.trans o4 (o5.mono (fun c _ hc => by subst hc; rw [hbs]; simp))
    have hrow := row_close (bs := bs) (a0 := a0) (d' := .int .u8 (IntKind.wrap .u8 (kx))) hm2 (bd := b1) (by obtain ⟨hb1, hc1⟩ := sc_int _ _ hod; subst hb1; obtain ⟨y, rfl⟩ : ∃ y, v1 = [y] := by { match v1, hc1 with | [y], _ => exact ⟨y, rfl⟩ }; exact own_int wf_u8w) hvp hl' (by omega) ha (by rw [hlen]) hbs (by have : (l' ++ l.drop k).length = l.length := (by simp; omega); omega) hmax hv0 hvl
    refine hJ _ _ _ ⟨k + 1, l' ++ [_], by omega, by omega, by simp; omega, ?_, ?_, has_snoc hty mk_int, markedF_snoc hmk (marked_int rfl) hx, hrow, o4⟩ (by omega)
    · rw [cnts_snoc]; simp only [Dat.cnt, Dat.cnts]; omega
    · rw [cnts_snoc, hct]; simp only [Dat.cnt, Dat.cnts]; omega
  · have hkl2 : k = l.length := by omega
    subst hkl2
    rw [List.take_length] at hcn
    rw [List.drop_length, List.append_nil, hlen] at ho
    exact ⟨by rw [hx, hcn], l', hl', hcn, hty, hmk, ho, o4⟩

/- markBlockS -/
theorem c164 {l : List Dat} {a0 : Sl} {bs : List Nat} {k0 : Int} {w : World} (ht : ∀ e, e ∈ l → Has TyBlock e) (h : OwnD w (.sl 2 l) bs [.slice a0.a a0.len a0.cap]) (hn : bs.Nodup) (h0 : 1 ≤ k0) (hk : k0 + Dat.cnts l ≤ 1099511627776) : CallW Try.prog 164 #[.slice a0.a a0.len a0.cap, .int .i64 k0] w (fun v w' => v = .int .i64 (k0 + Dat.cnts l) ∧ ∃ l', l'.length = l.length ∧ Dat.cnts l' = Dat.cnts l ∧ (∀ e, e ∈ l' → Has TyBlock e) ∧ MarkedF TXT l' k0 ∧ OwnD w' (.sl 2 l') bs [.slice a0.a a0.len a0.cap] ∧ Only (fun k => k ∈ bs) w w') := by
  refine go164 ?_
  unfold W164
  obtain ⟨hlen, hmax⟩ := ownD_len h
  have hmx : maxLen = 9223372036854775807 := rfl
  rw [hlen]
  refine LoopW.m2 (fun (x i : Int) w' => ∃ (k : Nat) (l' : List Dat), i = k ∧ k ≤ l.length ∧ l'.length = k ∧ x = k0 + Dat.cnts l' ∧ Dat.cnts l' = Dat.cnts (l.take k) ∧ (∀ e, e ∈ l' → Has TyBlock e) ∧ MarkedF TXT l' k0 ∧ OwnD w' (.sl 2 (l' ++ l.drop k)) bs [.slice a0.a a0.len a0.cap] ∧ Only (fun k => k ∈ bs) w w') (fun _ (i : Int) _ => (l.length - i).toNat) ⟨0, [], rfl, by omega, rfl, by simp [Dat.cnts], by simp [Dat.cnts], fun e he => (by cases he), markedF_nil, by simpa using h, Only.refl _ _⟩ ?_
  rintro (kx : Int) (i : Int) w4 ⟨k, l', rfl, hkl, hl', hx, hcn, hty, hmk, ho, o4⟩ J hJ
  refine BIf.dec (fun hlt => ?_) (fun hge => ?_)
  · obtain ⟨d, hd⟩ : ∃ d, l[k]? = some d := ⟨_, List.getElem?_eq_getElem (by omega)⟩
    have hcg := cnts_get hd
    have hct := cnts_take hd
    have ht0 := ht d (mem_get hd)
    obtain ⟨x_0, x_1, rfl⟩ := has_Block ht0
    simp only [Dat.cnt, Dat.cnts] at hcg hct
    obtain ⟨b, bp, b1, bq, vp, v1, vq, ha, hbs, hvp, hod, hm, hvl, hlc, _⟩ := ownD_at ho (get_app hl' hd)
    rw [(take_app hl').1, (take_app hl').2] at hm
    have hv0 := hm.len
    have hbs0 := hbs
    rw [Int.toNat_natCast, ← hvp]
    simp (disch := omega) only [w64]
    have hbs : bs = b :: (bp ++ (([] ++ b1) ++ bq)) := hbs
    have me : ME w4 b 2 l' (l.drop (k + 1)) bp bq vp vq [] _ [] b1 [] v1 := ⟨hm, by unfold OwnF; exact ⟨rfl, rfl⟩, ownD_st hod, by rw [← hbs]; exact hn⟩
    refine ⟨by omega, by omega, _, ha, ?_⟩
    refine me.sc (d' := .int .i64 (kx)) sc_int (fun w => own_int (wf_i64 (by omega) (by omega))) rfl (fun w5 cr5 o5 me => ?_)
    have o4 := Only.trans o4 (o5.mono (fun c _ hc => by subst hc; rw [hbs]; simp))
    refine ⟨by omega, by omega, _, ha, ?_⟩
    refine me.sc (d' := .int .i64 (kx + 1)) sc_int (fun w => own_int (wf_i64 (by omega) (by omega))) rfl (fun w6 cr6 o6 me => ?_)
    have o4 := Only.trans o4 (o6.mono (fun c _ hc => by subst hc; rw [hbs]; simp))
    obtain ⟨hm2, hod2, hbr⟩ := me.fin
    subst hbr
    have hrow := row_close (bs := bs) (a0 := a0) hm2 hod2 hvp hl' (by omega) ha (by rw [hlen]) (by rw [hbs, List.append_nil]) (by have : (l' ++ l.drop k).length = l.length := (by simp; omega); omega) hmax hv0 hvl
    have hmkd : Marked TXT (.st [.int .i64 (kx), .int .i64 (kx + 1)]) kx := marked_st (markedF_cons (k := kx) (k' := kx + 1) (marked_int (by rw [w64 (by omega) (by omega)])) (markedF_cons (k := kx + 1) (k' := kx + 1 + 1) (marked_int (by rw [w64 (by omega) (by omega)])) (markedF_nil (k := kx + 1 + 1)) (by simp only [Dat.cnt]; omega)) (by simp only [Dat.cnt]; omega))
    have hhas : Has TyBlock (.st [.int .i64 (kx), .int .i64 (kx + 1)]) := mk_st (mkF_cons mk_int (mkF_cons mk_int (mkF_nil)))
    refine hJ _ _ _ ⟨k + 1, l' ++ [_], by omega, by omega, by simp; omega, ?_, ?_, has_snoc hty hhas, markedF_snoc hmk hmkd hx, hrow, o4⟩ (by omega)
    · rw [cnts_snoc]; simp only [Dat.cnt, Dat.cnts]; omega
    · rw [cnts_snoc, hct]; simp only [Dat.cnt, Dat.cnts]; omega
  · have hkl2 : k = l.length := by omega
    subst hkl2
    rw [List.take_length] at hcn
    rw [List.drop_length, List.append_nil, hlen] at ho
    exact ⟨by rw [hx, hcn], l', hl', hcn, hty, hmk, ho, o4⟩

/- markFrames -/
theorem c105 {d : Dat} {cs : List Value} {bs : List Nat} {k0 : Int} {w : World} (ht : Has TyFrames d) (h : OwnD w d bs cs) (hn : bs.Nodup) (h0 : 1 ≤ k0) (hk : k0 + d.cntT ≤ 1099511627776) : CallW Try.prog 105 #[.agg ⟨cs⟩, .int .i64 k0] w (fun v w' => v = .int .i64 (k0 + d.cntT) ∧ ∃ d', d'.cntT = d.cntT ∧ Has TyFrames d' ∧ MarkedT TXT d' k0 ∧ OwnD w' d' bs cs ∧ Only (fun k => k ∈ bs) w w') := by
 obtain ⟨x_0, l_1, rfl, t_1⟩ := has_Frames ht
 simp only [Dat.cntT, Dat.cntTs] at hk
 have f_ := ownD_st h
 obtain ⟨b_0, r_0, c_0, u_0, rfl, rfl, h_0, f_0⟩ := ownF_cons f_
 obtain ⟨b_1, r_1, c_1, u_1, rfl, rfl, h_1, f_1⟩ := ownF_cons f_0
 obtain ⟨rfl, rfl⟩ := ownF_nil f_1
 obtain ⟨rfl, rfl, wo_0⟩ := ownD_i h_0
 obtain ⟨s_1, rfl⟩ := ownD_sl_s h_1
 have nd0 := (List.nodup_append.1 hn).1
 have dj0 := (List.nodup_append.1 hn).2.2
 have hn0 := (List.nodup_append.1 hn).2.1
 have nd1 := (List.nodup_append.1 hn0).1
 have dj1 := (List.nodup_append.1 hn0).2.2
 have hn1 := (List.nodup_append.1 hn0).2.1
 have lt1 := OwnD.lt _ _ _ h_1
 show CallW Try.prog 105 #[.agg #[.int .i64 x_0, .slice s_1.a s_1.len s_1.cap], .int .i64 k0] w _
 refine go105 ?_
 unfold W105
 refine alloc_step (fun w1 e1 hb n1 => ?_)
 have o_1 := OwnD.only e1 _ _ _ (fun _ _ x => x) h_1
 have ot : Only (fun k => k ∈ b_1) w w1 := Ext.any e1
 refine ⟨s_1, hb.cell 1, (c164 t_1 o_1 nd1 (by omega) (by omega)).mono ?_⟩
 rintro _ w3 ⟨rfl, m_1, _, cn_1, hs_1, mk_1, ow_1, oo⟩
 refine ⟨_, rfl, ?_⟩
 have hb := hb.only oo (fun hk => by have := lt1 _ hk; omega)
 have ot := Only.trans ot (oo.mono (fun c _ hc => by (try simp only [List.mem_append, List.not_mem_nil, or_false, false_or] at hc); (try simp only [List.mem_append, List.not_mem_nil, or_false, false_or]); first | (simp [hc]; done) | (rcases hc with hc | hc <;> simp [hc]; done) | (rcases hc with hc | hc | hc <;> simp [hc])))
 refine ⟨by congr 1; simp only [Dat.cntT, Dat.cntTs]; omega, .st [.int .i64 x_0, .sl 2 m_1], by simp only [Dat.cntT, Dat.cntTs]; omega, mk_st (mkF_cons mk_int (mkF_cons (mk_sl hs_1) (mkF_nil))), markedT_st (markedTF_cons (k' := k0) markedT_int (markedTF_cons (k' := k0 + (Dat.cnts l_1 : Nat)) (marked_slT mk_1) (markedTF_nil) (by simp only [Dat.cntT, Dat.cntTs] at *; omega)) (by simp only [Dat.cntT]; omega)), ownD_mkSt (ownF_mk (own_int wo_0) (ownF_mk ow_1 (ownF_mk0))), ot.mono (fun c _ hc => by (try simp only [List.mem_append, List.not_mem_nil, or_false, false_or] at hc); (try simp only [List.mem_append, List.not_mem_nil, or_false, false_or]); first | (simp [hc]; done) | (rcases hc with hc | hc <;> simp [hc]; done) | (rcases hc with hc | hc | hc <;> simp [hc]))⟩

/- markPool -/
theorem c39 {d : Dat} {cs : List Value} {bs : List Nat} {k0 : Int} {w : World} (ht : Has TyPool d) (h : OwnD w d bs cs) (hn : bs.Nodup) (h0 : 1 ≤ k0) (hk : k0 + d.cntT ≤ 1099511627776) : CallW Try.prog 39 #[.agg ⟨cs⟩, .int .i64 k0] w (fun v w' => v = .int .i64 (k0 + d.cntT) ∧ ∃ d', d'.cntT = d.cntT ∧ Has TyPool d' ∧ MarkedT TXT d' k0 ∧ OwnD w' d' bs cs ∧ Only (fun k => k ∈ bs) w w') := by
 obtain ⟨l_0, x_1_0, l_1_1, rfl, t_0, h_1k, t_1_1⟩ := has_Pool ht
 simp only [Dat.cntT, Dat.cntTs] at hk
 have f_ := ownD_st h
 obtain ⟨b_0, r_0, c_0, u_0, rfl, rfl, h_0, f_0⟩ := ownF_cons f_
 obtain ⟨b_1, r_1, c_1, u_1, rfl, rfl, h_1, f_1⟩ := ownF_cons f_0
 obtain ⟨rfl, rfl⟩ := ownF_nil f_1
 obtain ⟨s_0, rfl⟩ := ownD_sl_s h_0
 have f_1 := ownD_st h_1
 obtain ⟨b_1_0, r_1_0, c_1_0, u_1_0, rfl, rfl, h_1_0, f_1_0⟩ := ownF_cons f_1
 obtain ⟨b_1_1, r_1_1, c_1_1, u_1_1, rfl, rfl, h_1_1, f_1_1⟩ := ownF_cons f_1_0
 obtain ⟨rfl, rfl⟩ := ownF_nil f_1_1
 obtain ⟨rfl, rfl, wo_1_0⟩ := ownD_i h_1_0
 obtain ⟨s_1_1, rfl⟩ := ownD_sl_s h_1_1
 have nd0 := (List.nodup_append.1 hn).1
 have dj0 := (List.nodup_append.1 hn).2.2
 have hn0 := (List.nodup_append.1 hn).2.1
 have nd1 := (List.nodup_append.1 hn0).1
 have dj1 := (List.nodup_append.1 hn0).2.2
 have hn1 := (List.nodup_append.1 hn0).2.1
 have lt0 := OwnD.lt _ _ _ h_0
 have lt1 := OwnD.lt _ _ _ h_1
 show CallW Try.prog 39 #[.agg #[.slice s_0.a s_0.len s_0.cap, .int .i64 x_1_0, .slice s_1_1.a s_1_1.len s_1_1.cap], .int .i64 k0] w _
 refine go39 ?_
 unfold W39
 refine alloc_step (fun w1 e1 hb n1 => ?_)
 have o_0 := OwnD.only e1 _ _ _ (fun _ _ x => x) h_0
 have o_1 := OwnD.only e1 _ _ _ (fun _ _ x => x) h_1
 have ot : Only (fun k => k ∈ b_0 ∨ k ∈ ([] ++ (b_1_1 ++ []))) w w1 := Ext.any e1
 refine ⟨s_0, hb.cell 0, (c104 t_0 o_0 nd0 (by omega) (by omega)).mono ?_⟩
 rintro _ w2 ⟨rfl, m_0, _, cn_0, hs_0, mk_0, ow_0, oo⟩
 refine ⟨_, rfl, ?_⟩
 have hb := hb.only oo (fun hk => by have := lt0 _ hk; omega)
 have ot := Only.trans ot (oo.mono (fun c _ hc => by (try simp only [List.mem_append, List.not_mem_nil, or_false, false_or] at hc); (try simp only [List.mem_append, List.not_mem_nil, or_false, false_or]); first | (simp [hc]; done) | (rcases hc with hc | hc <;> simp [hc]; done) | (rcases hc with hc | hc | hc <;> simp [hc])))
 have o_1 := OwnD.only oo _ _ _ (fun c hc hd => dj0 c hd c (by (try simp only [List.mem_append, List.not_mem_nil, or_false, false_or] at hc); (try simp only [List.mem_append, List.not_mem_nil, or_false, false_or]); first | (simp [hc]; done) | (rcases hc with hc | hc <;> simp [hc]; done) | (rcases hc with hc | hc | hc <;> simp [hc])) rfl) o_1
 refine ⟨_, hb.cell 1, s_1_1, hb.cell 2, (c105 (d := .st [.int .i64 x_1_0, .sl 2 l_1_1]) h_1k o_1 nd1 (by omega) (by simp only [Dat.cntT, Dat.cntTs]; omega)).mono ?_⟩
 rintro _ w3 ⟨rfl, m_1, cn_1, hs_1, mk_1, ow_1, oo⟩
 simp only [Dat.cntT, Dat.cntTs] at cn_1
 refine ⟨_, rfl, ?_⟩
 have hb := hb.only oo (fun hk => by have := lt1 _ hk; omega)
 have ot := Only.trans ot (oo.mono (fun c _ hc => by (try simp only [List.mem_append, List.not_mem_nil, or_false, false_or] at hc); (try simp only [List.mem_append, List.not_mem_nil, or_false, false_or]); first | (simp [hc]; done) | (rcases hc with hc | hc <;> simp [hc]; done) | (rcases hc with hc | hc | hc <;> simp [hc])))
 have ow_0 := OwnD.only oo _ _ _ (fun c hc hd => dj0 c hc c (by (try simp only [List.mem_append, List.not_mem_nil, or_false, false_or] at hd); (try simp only [List.mem_append, List.not_mem_nil, or_false, false_or]); first | (simp [hd]; done) | (rcases hd with hd | hd <;> simp [hd]; done) | (rcases hd with hd | hd | hd <;> simp [hd])) rfl) ow_0
 refine ⟨by congr 1; simp only [Dat.cntT, Dat.cntTs]; omega, .st [.sl 1 m_0, m_1], by simp only [Dat.cntT, Dat.cntTs]; omega, mk_st (mkF_cons (mk_sl hs_0) (mkF_cons hs_1 (mkF_nil))), markedT_st (markedTF_cons (k' := k0 + (Dat.cnts l_0 : Nat)) (marked_slT mk_0) (markedTF_cons (k' := k0 + (Dat.cnts l_0 : Nat) + ((Dat.st [.int .i64 x_1_0, .sl 2 l_1_1]).cntT : Nat)) (mk_1) (markedTF_nil) (by simp only [Dat.cntT, Dat.cntTs] at *; omega)) (by simp only [Dat.cntT, Dat.cntTs] at *; omega)), ownD_mkSt (ownF_mk ow_0 (ownF_mk ow_1 (ownF_mk0))), ot.mono (fun c _ hc => by (try simp only [List.mem_append, List.not_mem_nil, or_false, false_or] at hc); (try simp only [List.mem_append, List.not_mem_nil, or_false, false_or]); first | (simp [hc]; done) | (rcases hc with hc | hc <;> simp [hc]; done) | (rcases hc with hc | hc | hc <;> simp [hc]))⟩

/- heldByteS -/
/- heldBlockS -/
/- heldFrames -/
/- heldPool -/
end Go.Proofs.Ytkgoanjemhbjgaa

/- Pools as memory in parts: copies, frames cleared and given back, both sides. Conditions: none. -/
set_option linter.unusedVariables false
set_option linter.unusedSimpArgs false
namespace Go.Proofs.Ytkgoanjemhbjgaa
open Go Go.Den
/-! ## A pool copied -/
end Go.Proofs.Ytkgoanjemhbjgaa

/- Frames of a pool cleared and given back, in parts, both sides. Conditions: none. -/
set_option linter.unusedVariables false
set_option linter.unusedSimpArgs false
namespace Go.Proofs.Ytkgoanjemhbjgaa
open Go Go.Den
/-! ## All tables of a space given back -/
/-- The tables of a space are frames of its pool. -/
theorem scanT_mem {Q : Int → Prop} {x : Int → Int} {lvl : Int} {rec : Int → List Int → Option (List Int)} (hr : ∀ t S S', rec t S = some S' → (∀ y, y ∈ S → Q y) → ∀ y, y ∈ S' → Q y) : ∀ (k : Nat) (S : List Int) (any : Bool) (S' : List Int) (any' : Bool), scanT x lvl rec k S any = some (S', any') → (∀ y, y ∈ S → Q y) → ∀ y, y ∈ S' → Q y
  | 0, S, any, S', any', h, hS => by unfold scanT at h; injection h with h; injection h with h1 h2; subst h1; exact hS
  | k + 1, S, any, S', any', h, hS => by
    unfold scanT at h
    split at h
    · exact scanT_mem hr k S any S' any' h hS
    · split at h
      · cases h
      · exact scanT_mem hr k S true S' any' h hS
      · split at h
        · cases h
        · rename_i S2 h2
          exact scanT_mem hr k S2 true S' any' h (hr _ _ _ h2 hS)
theorem tblStep_mem {m : List Int} {free : List Bool} {lvl : Nat} {rec : Int → List Int → Option (List Int)} (hr : ∀ t S S', rec t S = some S' → (∀ y, y ∈ S → 0 ≤ y ∧ y < (free.length : Int)) → ∀ y, y ∈ S' → 0 ≤ y ∧ y < (free.length : Int)) {t : Int} {S S' : List Int} (h : tblStep m free lvl rec t S = some S') (hS : ∀ y, y ∈ S → 0 ≤ y ∧ y < (free.length : Int)) : ∀ y, y ∈ S' → 0 ≤ y ∧ y < (free.length : Int) := by
  unfold tblStep at h
  split at h
  · cases h
  · rename_i hn
    split at h
    · rename_i S2 h2
      injection h with h; subst h
      refine scanT_mem hr 32 _ _ _ _ h2 (fun y hy => ?_)
      rcases List.mem_append.1 hy with hy | hy
      · exact hS y hy
      · rw [List.mem_singleton.1 hy]
        exact ⟨by by_cases hh : t < 0; exact absurd (.inl hh) hn; omega, by by_cases hh : (free.length : Int) ≤ t; exact absurd (.inr (.inl hh)) hn; omega⟩
    · cases h
theorem tblF_mem {m : List Int} {free : List Bool} : ∀ (lvl : Nat) {t : Int} {S S' : List Int}, tblF m free lvl t S = some S' → (∀ y, y ∈ S → 0 ≤ y ∧ y < (free.length : Int)) → ∀ y, y ∈ S' → 0 ≤ y ∧ y < (free.length : Int)
  | 0, t, S, S', h, hS => tblStep_mem (fun t S S' h => by cases h) h hS
  | n + 1, t, S, S', h, hS => tblStep_mem (fun t S S' h2 => tblF_mem n h2) h hS
theorem spaceT_mem {m : List Int} {T : Int} {fr : List DBlock} {root : Int} {S : List Int} (h : spaceT m T fr root = some S) : POk m T fr ∧ S.length ≤ 1057 ∧ ∀ y, y ∈ S → 0 ≤ y ∧ y < T := by
  by_cases hok : POk m T fr
  · rw [spaceT_pos hok] at h
    have hfree : ((freeL T fr).length : Int) = T := by rw [freeL_len]; have := hok.2.2.1.1; omega
    refine ⟨hok, ?_, fun y hy => by have := tblF_mem 2 h (fun y hy => by cases hy) y hy; omega⟩
    obtain ⟨a, h1, h2⟩ := tblF_adds.2.2 _ _ _ h
    rw [h1]; simpa using h2
  · rw [spaceT_neg hok] at h; cases h
end Go.Proofs.Ytkgoanjemhbjgaa

/- SpaceDrop, both sides. Conditions: none. -/
set_option linter.unusedVariables false
set_option linter.unusedSimpArgs false
namespace Go.Proofs.Ytkgoanjemhbjgaa
open Go Go.Den
/-! ## Results that are pools -/
/-! ## SpaceDrop -/
/-! ## As the law asks it -/
end Go.Proofs.Ytkgoanjemhbjgaa

/- The way through a space's tables. Conditions: none. -/
set_option linter.unusedVariables false
set_option linter.unusedSimpArgs false
namespace Go.Proofs.Ytkgoanjemhbjgaa
open Go Go.Den
/-! ## Tables that can be -/
theorem scanT_at {x : Int → Int} {lvl : Int} {rec : Int → List Int → Option (List Int)} (hr : ∀ t S S', rec t S = some S' → ∀ y, y ∈ S → y ∈ S') : ∀ (k : Nat) (S : List Int) (any : Bool) (S' : List Int) (any' : Bool), scanT x lvl rec k S any = some (S', any') → ∀ j : Nat, j < k → x (31 - (j : Int)) ≠ 0 →
    cls (x (31 - (j : Int))) lvl = some true ∨ (cls (x (31 - (j : Int))) lvl = some false ∧ ∃ S1 S2, rec (efr (x (31 - (j : Int)))) S1 = some S2 ∧ ∀ y, y ∈ S → y ∈ S1)
  | 0, S, any, S', any', h, j, hj, hx => by omega
  | k + 1, S, any, S', any', h, j, hj, hx => by
    unfold scanT at h
    by_cases hk : j = k
    · subst hk
      rw [if_neg hx] at h
      split at h
      · cases h
      · rename_i hc; exact .inl hc
      · rename_i hc
        split at h
        · cases h
        · rename_i S2 h2
          exact .inr ⟨hc, S, S2, h2, fun y hy => hy⟩
    · split at h
      · exact scanT_at hr k S any S' any' h j (by omega) hx
      · split at h
        · cases h
        · exact scanT_at hr k S true S' any' h j (by omega) hx
        · split at h
          · cases h
          · rename_i S2 h2
            rcases scanT_at hr k S2 true S' any' h j (by omega) hx with h3 | ⟨h3, S3, S4, h4, h5⟩
            · exact .inl h3
            · exact .inr ⟨h3, S3, S4, h4, fun y hy => h5 y (hr _ _ _ h2 y hy)⟩
theorem scanT_sub {x : Int → Int} {lvl : Int} {rec : Int → List Int → Option (List Int)} (hr : ∀ t S S', rec t S = some S' → ∀ y, y ∈ S → y ∈ S') : ∀ (k : Nat) (S : List Int) (any : Bool) (S' : List Int) (any' : Bool), scanT x lvl rec k S any = some (S', any') → ∀ y, y ∈ S → y ∈ S'
  | 0, S, any, S', any', h, y, hy => by unfold scanT at h; injection h with h; injection h with h1 h2; subst h1; exact hy
  | k + 1, S, any, S', any', h, y, hy => by
    unfold scanT at h
    split at h
    · exact scanT_sub hr k S any S' any' h y hy
    · split at h
      · cases h
      · exact scanT_sub hr k S true S' any' h y hy
      · split at h
        · cases h
        · rename_i S2 h2
          exact scanT_sub hr k S2 true S' any' h y (hr _ _ _ h2 y hy)
theorem tblStep_sub {m : List Int} {free : List Bool} {lvl : Nat} {rec : Int → List Int → Option (List Int)} (hr : ∀ t S S', rec t S = some S' → ∀ y, y ∈ S → y ∈ S') {t : Int} {S S' : List Int} (h : tblStep m free lvl rec t S = some S') : (∀ y, y ∈ S → y ∈ S') ∧ t ∈ S' := by
  unfold tblStep at h
  split at h
  · cases h
  · split at h
    · rename_i S2 h2
      injection h with h; subst h
      have := scanT_sub hr 32 _ _ _ _ h2
      exact ⟨fun y hy => this y (by simp [hy]), this t (by simp)⟩
    · cases h
theorem tblF_sub {m : List Int} {free : List Bool} : ∀ (lvl : Nat) {t : Int} {S S' : List Int}, tblF m free lvl t S = some S' → ∀ y, y ∈ S → y ∈ S'
  | 0, t, S, S', h => (tblStep_sub (fun t S S' h => by cases h) h).1
  | n + 1, t, S, S', h => (tblStep_sub (fun t S S' h2 => tblF_sub n h2) h).1
/-- A table that can be, behind those of S. -/
def Tab (m : List Int) (free : List Bool) (n : Nat) (t : Int) (S : List Int) : Prop := ∃ S', tblF m free n t S = some S'
theorem cls_true {x lvl : Int} (h : cls x lvl = some true) : x < 1048576 ∧ ¬ 0 < lvl := by
  unfold cls at h
  split at h
  · cases h
  · rename_i hn
    split at h
    · cases h
    · have hk : kindS x lvl = 1 := by
        rcases kindS_cases x lvl with hh | hh | hh | hh | hh <;> first | (exfalso; exact hn (.inl (by omega))) | (exfalso; omega) | exact hh
      exact ⟨kindS_small (.inr hk), fun hl => hn (.inr ⟨hk, hl⟩)⟩
theorem cls_false {x lvl : Int} (h : cls x lvl = some false) : x < 1048576 ∧ kindS x lvl = 0 := by
  unfold cls at h
  split at h
  · cases h
  · split at h
    · rename_i hk; exact ⟨kindS_small (.inl hk), hk⟩
    · cases h
theorem Tab.rng {m : List Int} {free : List Bool} {n : Nat} {t : Int} {S : List Int} (h : Tab m free n t S) : 0 ≤ t ∧ t < (free.length : Int) ∧ t ∉ S := by
  obtain ⟨S', h⟩ := h
  have hstep : ∃ rec, tblStep m free n rec t S = some S' := by cases n <;> exact ⟨_, h⟩
  obtain ⟨rec, h⟩ := hstep
  unfold tblStep at h
  split at h
  · cases h
  · rename_i hn
    exact ⟨by by_cases hh : t < 0; exact absurd (.inl hh) hn; omega, by by_cases hh : (free.length : Int) ≤ t; exact absurd (.inr (.inl hh)) hn; omega, fun hh => hn (.inr (.inr (.inr hh)))⟩
theorem tblStep_at {m : List Int} {free : List Bool} {lvl : Nat} {rec : Int → List Int → Option (List Int)} (hr : ∀ t S S', rec t S = some S' → ∀ y, y ∈ S → y ∈ S') {t : Int} {S S' : List Int} (h : tblStep m free lvl rec t S = some S') {i : Int} (h0 : 0 ≤ i) (h1 : i < 32) (hx : entAt m t i ≠ 0) :
    cls (entAt m t i) lvl = some true ∨ (cls (entAt m t i) lvl = some false ∧ ∃ S1 S2, rec (efr (entAt m t i)) S1 = some S2 ∧ ∀ y, y ∈ S ++ [t] → y ∈ S1) := by
  unfold tblStep at h
  split at h
  · cases h
  · split at h
    · rename_i S2 h2
      have := scanT_at hr 32 _ _ _ _ h2 (31 - i).toNat (by omega)
      rw [show (31 - (((31 - i).toNat : Nat) : Int)) = i by omega] at this
      exact this hx
    · cases h
theorem Tab.ent {m : List Int} {free : List Bool} {n : Nat} {t : Int} {S : List Int} (h : Tab m free n t S) {i : Int} (h0 : 0 ≤ i) (h1 : i < 32) (hx : entAt m t i ≠ 0) : entAt m t i < 1048576 := by
  obtain ⟨S', h⟩ := h
  have hstep : ∃ rec, (∀ t S S', rec t S = some S' → ∀ y, y ∈ S → y ∈ S') ∧ tblStep m free n rec t S = some S' := by
    cases n with
    | zero => exact ⟨_, (fun t S S' h => by cases h), h⟩
    | succ k => exact ⟨_, (fun t S S' h => tblF_sub k h), h⟩
  obtain ⟨rec, hr, h⟩ := hstep
  rcases tblStep_at hr h h0 h1 hx with h2 | ⟨h2, _⟩
  · exact (cls_true h2).1
  · exact (cls_false h2).1
theorem Tab.sub {m : List Int} {free : List Bool} {n : Nat} {t : Int} {S : List Int} (h : Tab m free (n + 1) t S) {i : Int} (h0 : 0 ≤ i) (h1 : i < 32) (hx : entAt m t i ≠ 0) : kindS (entAt m t i) ((n + 1 : Nat) : Int) = 0 ∧ ∃ S1, Tab m free n (efr (entAt m t i)) S1 ∧ ∀ y, y ∈ S ++ [t] → y ∈ S1 := by
  obtain ⟨S', h⟩ := h
  rcases tblStep_at (fun t S S' h => tblF_sub n h) h h0 h1 hx with h2 | ⟨h2, S1, S2, h3, h4⟩
  · have := (cls_true h2).2; omega
  · exact ⟨(cls_false h2).2, S1, ⟨S2, h3⟩, h4⟩
theorem Tab.leaf {m : List Int} {free : List Bool} {t : Int} {S : List Int} (h : Tab m free 0 t S) {i : Int} (h0 : 0 ≤ i) (h1 : i < 32) (hx : entAt m t i ≠ 0) : kindS (entAt m t i) 0 = 1 := by
  obtain ⟨S', h⟩ := h
  rcases tblStep_at (fun t S S' h => by cases h) h h0 h1 hx with h2 | ⟨h2, S1, S2, h3, h4⟩
  · unfold cls at h2
    split at h2
    · cases h2
    · rename_i hn
      split at h2
      · cases h2
      · rcases kindS_cases (entAt m t i) 0 with hh | hh | hh | hh | hh <;> first | (exfalso; exact hn (.inl (by show kindS (entAt m t i) 0 < 0; omega))) | (exfalso; simp_all; done) | exact hh
  · cases h3
theorem tab_root {m : List Int} {T : Int} {fr : List DBlock} {root : Int} {S : List Int} (h : spaceT m T fr root = some S) : Tab m (freeL T fr) 2 root [] := by
  have hok := (spaceT_mem h).1
  rw [spaceT_pos hok] at h
  exact ⟨S, h⟩
/-! ## The way to a page -/
end Go.Proofs.Ytkgoanjemhbjgaa

/- The way through a space's tables, in memory; words written. Conditions: none. -/
set_option linter.unusedVariables false
set_option linter.unusedSimpArgs false
namespace Go.Proofs.Ytkgoanjemhbjgaa
open Go Go.Den
/-! ## A word written -/
/-! ## The way -/
theorem tab_room {m : List Int} {free : List Bool} {n : Nat} {t : Int} {S : List Int} (h : Tab m free n t S) (hm : m.length = 256 * free.length) : 0 ≤ t ∧ t * 256 + 256 ≤ m.length := by
  have := h.rng; omega
end Go.Proofs.Ytkgoanjemhbjgaa

/- The way through a space's tables, the reference's; a page's entry. Conditions: none. -/
set_option linter.unusedVariables false
set_option linter.unusedSimpArgs false
namespace Go.Proofs.Ytkgoanjemhbjgaa
open Go Go.Den
/-! ## A page's entry -/
end Go.Proofs.Ytkgoanjemhbjgaa

/- UnmapPage: what it comes to; what is asked, empty tables. Conditions: none. -/
set_option linter.unusedVariables false
set_option linter.unusedSimpArgs false
namespace Go.Proofs.Ytkgoanjemhbjgaa
open Go Go.Den
/-! ## What is asked -/
/-! ## Empty tables -/
end Go.Proofs.Ytkgoanjemhbjgaa

/- UnmapPage, both sides. Conditions: none. -/
set_option linter.unusedVariables false
set_option linter.unusedSimpArgs false
namespace Go.Proofs.Ytkgoanjemhbjgaa
open Go Go.Den
/-! ## What it comes to -/
end Go.Proofs.Ytkgoanjemhbjgaa

/- UnmapPage, both sides: the walks. Conditions: none. -/
set_option linter.unusedVariables false
set_option linter.unusedSimpArgs false
namespace Go.Proofs.Ytkgoanjemhbjgaa
open Go Go.Den
theorem addrOf_mk {a : Addr} {K : Addr → Prop} (h : K a) : addrOf (some (.pointer (some a))) K := h
end Go.Proofs.Ytkgoanjemhbjgaa

/- The types of the laws' parameters, as values of Lean's. Conditions: none. -/
set_option linter.unusedVariables false
set_option maxRecDepth 100000
namespace Go.Proofs.Ytkgoanjemhbjgaa
open Go Go.Den
structure DEntry where
  Valid : Bool
  Read : Bool
  Write : Bool
  Exec : Bool
  User : Bool
  Seen : Bool
  Dirty : Bool
  Soft : Bool
  Frame : Int
def DEntry.cells (x : DEntry) : List Value := [.bool x.Valid, .bool x.Read, .bool x.Write, .bool x.Exec, .bool x.User, .bool x.Seen, .bool x.Dirty, .bool x.Soft, .int .i64 x.Frame]
end Go.Proofs.Ytkgoanjemhbjgaa

/- The law's own functions over trees: copies, sizes, comparisons, marks; printed by a program. Conditions: none. -/
set_option linter.unusedVariables false
set_option linter.unusedSimpArgs false
set_option maxRecDepth 4000
namespace Go.Proofs.Ytkgoanjemhbjgaa
open Go Go.Den

/- toEntry -/
/- eqEntry -/
end Go.Proofs.Ytkgoanjemhbjgaa

/- UnmapPage as the law asks it. Conditions: none. -/
set_option linter.unusedVariables false
set_option linter.unusedSimpArgs false
namespace Go.Proofs.Ytkgoanjemhbjgaa
open Go Go.Den
end Go.Proofs.Ytkgoanjemhbjgaa

/- Entries put into words, both sides. Conditions: none. -/
set_option linter.unusedVariables false
set_option linter.unusedSimpArgs false
namespace Go.Proofs.Ytkgoanjemhbjgaa
open Go Go.Den
def lowB (bs : List Bool) : Nat → Nat
  | 0 => 0
  | k + 1 => (if bs.getD k false then 2 ^ k else 0) + lowB bs k
theorem lowB_lt (bs : List Bool) : ∀ k, lowB bs k < 2 ^ k
  | 0 => Nat.lt_succ_self 0
  | k + 1 => by
    have := lowB_lt bs k
    have h2 : 2 ^ (k + 1) = 2 ^ k * 2 := Nat.pow_succ 2 k
    unfold lowB
    split <;> omega
def DEntry.flags (e : DEntry) : List Bool := [e.Valid, e.Read, e.Write, e.Exec, e.User, e.Seen, e.Dirty, e.Soft]
def frOk (e : DEntry) : Bool := decide (0 ≤ e.Frame) && decide (e.Frame ≤ 4095)
def putX (e : DEntry) : Int := if frOk e then e.Frame * 256 + (lowB e.flags 8 : Int) else 0
theorem or_low {fr : Nat} {bs : List Bool} {k : Nat} (hk : k < 8) (hfr : fr ≤ 4095) : orI .u64 (((fr * 256 + lowB bs k : Nat)) : Int) (shlI .u64 (oneF (bs.getD k false)) (k : Int)) = ((fr * 256 + lowB bs (k + 1) : Nat) : Int) := by
  have hl := lowB_lt bs k
  have hp : (2 : Nat) ^ k ≤ 2 ^ 7 := Nat.pow_le_pow_right (by omega) (by omega)
  have h7 : (2 : Nat) ^ 7 = 128 := rfl
  have hsh : shlI .u64 (oneF (bs.getD k false)) (k : Int) = (((if bs.getD k false then 2 ^ k else 0 : Nat)) : Int) := by
    unfold shlI
    rw [Int.toNat_natCast, show min k (IntKind.u64.bits) = k from Nat.min_eq_left (by show k ≤ 64; omega)]
    unfold oneF
    split
    · rw [Int.one_mul, show ((2 : Int) ^ k) = ((2 ^ k : Nat) : Int) by norm_cast, wu64 (by omega) (by omega)]
    · rw [Int.zero_mul]; rfl
  rw [hsh]
  obtain ⟨c, hc⟩ : ∃ c, c = (if bs.getD k false then 2 ^ k else 0 : Nat) := ⟨_, rfl⟩
  rw [← hc]
  have hlow : lowB bs (k + 1) = c + lowB bs k := by rw [lowB, hc]
  have hcle : c ≤ 128 := by rw [hc]; split <;> omega
  unfold orI
  show IntKind.u64.wrap (((BitVec.ofInt 64 ((fr * 256 + lowB bs k : Nat) : Int) ||| BitVec.ofInt 64 (c : Int)).toNat : Nat) : Int) = _
  rw [BitVec.toNat_or, bv_nat (by omega) (by omega), bv_nat (by omega) (by omega), Int.toNat_natCast, Int.toNat_natCast]
  have hor : (fr * 256 + lowB bs k) ||| c = fr * 256 + (c + lowB bs k) := by
    have h1 : fr * 256 + lowB bs k = 2 ^ 8 * fr ||| lowB bs k := by
      rw [← Nat.two_pow_add_eq_or_of_lt (show lowB bs k < 2 ^ 8 by omega)]; omega
    have h2 : lowB bs k ||| c = c + lowB bs k := by
      rw [hc]
      split
      · have := Nat.two_pow_add_eq_or_of_lt hl 1
        rw [Nat.mul_one] at this
        rw [this, Nat.or_comm]
      · simp
    rw [h1, Nat.or_assoc, h2, ← Nat.two_pow_add_eq_or_of_lt (show c + lowB bs k < 2 ^ 8 by
      have := lowB_lt bs (k + 1); rw [hlow] at this
      have hp2 : (2 : Nat) ^ (k + 1) ≤ 2 ^ 8 := Nat.pow_le_pow_right (by omega) (by omega)
      omega)]
    omega
  rw [hor, hlow, wu64 (by omega) (by omega)]
theorem c132 {e : DEntry} {w : World} : CallW Try.prog 132 #[.agg ⟨e.cells⟩] w (fun v w' => v = .tuple #[.int .u64 (putX e), .bool (frOk e)] ∧ Ext w w') := by
  refine go132 ?_
  unfold W132
  refine (SH.start w).alloc (fun w1 h1 e1 n1 => ?_)
  refine ⟨e.Frame, h1.cell 0 rfl rfl, join_or_ex e.Frame (h1.cell 0 rfl rfl) ?_⟩
  have hfr : (decide (e.Frame < 0) || decide (e.Frame > 4095)) = !frOk e := by
    unfold frOk
    by_cases h0 : e.Frame < 0
    · simp [h0]
    · by_cases h2 : e.Frame > 4095
      · simp [h2]
      · simp [h0, h2]; omega
  rw [hfr]
  refine BIf.not (BIf.of (fun hok => ?_) (fun hno => ?_))
  · have hr : 0 ≤ e.Frame ∧ e.Frame ≤ 4095 := by unfold frOk at hok; simpa using hok
    refine ⟨e.Frame, h1.cell 0 rfl rfl, by omega, _, h1.cell 0 rfl rfl, _, h1.cell 0 rfl rfl, _, h1.cell 0 rfl rfl, _, h1.cell 0 rfl rfl, _, h1.cell 0 rfl rfl, _, h1.cell 0 rfl rfl, _, h1.cell 0 rfl rfl, _, h1.cell 0 rfl rfl, h1.alloc (fun w15 h15 e15 n15 => ?_)⟩
    have hsh : shlI .u64 (IntKind.wrap .u64 e.Frame) 8 = (((e.Frame.toNat * 256 + lowB e.flags 0 : Nat)) : Int) := by
      rw [wu64 (by omega) (by omega), shl_byte (by omega) (by omega)]
      show _ = ((e.Frame.toNat * 256 + 0 : Nat) : Int)
      omega
    rw [hsh]
    refine LoopW.m2 (fun (y : Int) (i : Int) w' => ∃ k : Nat, i = k ∧ k ≤ 8 ∧ y = ((e.Frame.toNat * 256 + lowB e.flags k : Nat) : Int) ∧ w' = w15) (fun _ (i : Int) _ => (8 - i).toNat) ⟨0, rfl, by omega, rfl, rfl⟩ ?_
    rintro (y : Int) (i : Int) w19 ⟨k, rfl, hk, rfl, rfl⟩ J hJ
    refine BIf.dec (fun hlt => ?_) (fun hge => ?_)
    · have hk8 : k < 8 := by omega
      have hb : e.flags[k]? = some (e.flags.getD k false) := by
        rw [List.getD_eq_getElem?_getD, List.getElem?_eq_getElem (show k < e.flags.length from hk8)]; rfl
      have hcell : w19.cell? ⟨w1.heap.size, k, none⟩ = some (.bool (e.flags.getD k false)) := by
        refine h15.cell 0 (i := k) (l := e.flags.map (fun b => Ce.v (.bool b))) rfl ?_
        rw [List.getElem?_map, hb]; rfl
      refine ⟨by omega, by omega, _, rfl, e.flags.getD k false, ?_, ?_⟩
      · rw [Int.toNat_natCast, add_mk, Nat.mul_one, Nat.zero_add]; exact hcell
      refine c86.mono ?_
      rintro _ w23 ⟨rfl, rfl⟩
      refine ⟨_, rfl, by omega, ?_⟩
      rw [or_low hk8 (by omega), w64 (by omega) (by omega)]
      exact hJ _ _ _ ⟨k + 1, by omega, by omega, rfl, rfl⟩ (by omega)
    · have hk8 : k = 8 := by omega
      subst hk8
      refine ⟨?_, h15.ext⟩
      rw [hok]
      unfold putX
      rw [if_pos hok]
      congr 3
      congr 1
      omega
  · refine ⟨?_, h1.ext⟩
    rw [hno]; unfold putX; rw [hno]; rfl
/-! ## Entries that a page may have -/
end Go.Proofs.Ytkgoanjemhbjgaa

/- SetPage, both sides. Conditions: none. -/
set_option linter.unusedVariables false
set_option linter.unusedSimpArgs false
namespace Go.Proofs.Ytkgoanjemhbjgaa
open Go Go.Den
/-! ## As the law asks it -/
end Go.Proofs.Ytkgoanjemhbjgaa

/- How many frames are free. Conditions: none. -/
set_option linter.unusedVariables false
set_option linter.unusedSimpArgs false
namespace Go.Proofs.Ytkgoanjemhbjgaa
open Go Go.Den
end Go.Proofs.Ytkgoanjemhbjgaa

/- MapPage: frames taken, what it comes to. Conditions: none. -/
set_option linter.unusedVariables false
set_option linter.unusedSimpArgs false
namespace Go.Proofs.Ytkgoanjemhbjgaa
open Go Go.Den
/-! ## What MapPage comes to -/
end Go.Proofs.Ytkgoanjemhbjgaa

/- MapPage, both sides. Conditions: none. -/
set_option linter.unusedVariables false
set_option linter.unusedSimpArgs false
namespace Go.Proofs.Ytkgoanjemhbjgaa
open Go Go.Den
end Go.Proofs.Ytkgoanjemhbjgaa

/- MapPage as the law asks it. Conditions: none. -/
set_option linter.unusedVariables false
set_option linter.unusedSimpArgs false
namespace Go.Proofs.Ytkgoanjemhbjgaa
open Go Go.Den
end Go.Proofs.Ytkgoanjemhbjgaa

/- The pages of a space: by page number. Conditions: none. -/
set_option linter.unusedVariables false
set_option linter.unusedSimpArgs false
namespace Go.Proofs.Ytkgoanjemhbjgaa
open Go Go.Den
structure Leaf where
  va : Int
  lvl : Int
  x : Int
def Leaf.cells (l : Leaf) : List Value := [.int .i64 l.va, .int .i64 l.lvl, .int .u64 l.x]
/-- The entry of a page, found from a table down; none: there is no page. -/
def desc (m : List Int) : Nat → Int → Nat → Option Int
  | 0, t, j => if entAt m t ((j % 32 : Nat) : Int) = 0 then none else some (entAt m t ((j % 32 : Nat) : Int))
  | n + 1, t, j => if entAt m t ((j / 32 ^ (n + 1) % 32 : Nat) : Int) = 0 then none else desc m n (efr (entAt m t ((j / 32 ^ (n + 1) % 32 : Nat) : Int))) j
def seg (f : Nat → Option Int) (b : Nat) : Nat → List Leaf
  | 0 => []
  | k + 1 => seg f b k ++ (match f (b + k) with | none => [] | some x => [⟨((256 * (b + k) : Nat) : Int), 0, x⟩])
theorem seg_add (f : Nat → Option Int) (b k : Nat) : ∀ l, seg f b (k + l) = seg f b k ++ seg f (b + k) l
  | 0 => by simp [seg]
  | l + 1 => by
    rw [← Nat.add_assoc, seg, seg_add f b k l, seg, Nat.add_assoc b k l, List.append_assoc]
theorem seg_congr {f g : Nat → Option Int} {b : Nat} : ∀ k, (∀ j, b ≤ j → j < b + k → f j = g j) → seg f b k = seg g b k
  | 0, h => rfl
  | k + 1, h => by rw [seg, seg, seg_congr k (fun j h1 h2 => h j h1 (by omega)), h (b + k) (by omega) (by omega)]
theorem seg_none {f : Nat → Option Int} {b : Nat} : ∀ k, (∀ j, b ≤ j → j < b + k → f j = none) → seg f b k = []
  | 0, h => rfl
  | k + 1, h => by rw [seg, seg_none k (fun j h1 h2 => h j h1 (by omega)), h (b + k) (by omega) (by omega)]; rfl
theorem seg_some {f : Nat → Option Int} {b : Nat} {x : Int} (h : f b = some x) : seg f b 1 = [⟨((256 * b : Nat) : Int), 0, x⟩] := by
  simp [seg, h]
theorem seg_len (f : Nat → Option Int) (b : Nat) : ∀ k, (seg f b k).length ≤ k
  | 0 => Nat.le_refl _
  | k + 1 => by
    have := seg_len f b k
    rw [seg, List.length_append]
    split <;> simp <;> omega
/-- Indices of pages of one group. -/
theorem grp_idx {n b i j : Nat} (hb : b % 32 ^ (n + 1) = 0) (hi : i < 32) (h1 : b + i * 32 ^ n ≤ j) (h2 : j < b + i * 32 ^ n + 32 ^ n) : j / 32 ^ n % 32 = i := by
  have hp : 0 < 32 ^ n := Nat.pow_pos (by omega)
  obtain ⟨c, hc⟩ := Nat.dvd_of_mod_eq_zero hb
  have h3 : j / 32 ^ n = 32 * c + i := by
    rw [hc, Nat.pow_succ] at h1 h2
    have e1 : 32 ^ n * 32 * c + i * 32 ^ n = 32 ^ n * (32 * c + i) := by rw [Nat.mul_add, Nat.mul_assoc, Nat.mul_comm i]
    rw [e1] at h1 h2
    have e2 : 32 ^ n * (32 * c + i) + 32 ^ n = 32 ^ n * (32 * c + i + 1) := by rw [Nat.mul_succ]
    rw [e2] at h2
    refine Nat.le_antisymm ?_ ?_
    · exact Nat.le_of_lt_succ ((Nat.div_lt_iff_lt_mul hp).2 (by rw [Nat.mul_comm]; exact h2))
    · exact (Nat.le_div_iff_mul_le hp).2 (by rw [Nat.mul_comm]; exact h1)
  rw [h3]; omega
theorem desc_none {m : List Int} {t : Int} : ∀ {n j : Nat}, entAt m t ((j / 32 ^ n % 32 : Nat) : Int) = 0 → desc m n t j = none
  | 0, j, h => by unfold desc; rw [if_pos (by simpa using h)]
  | n + 1, j, h => by unfold desc; rw [if_pos h]
theorem desc_sub {m : List Int} {t : Int} {n j : Nat} (h : entAt m t ((j / 32 ^ (n + 1) % 32 : Nat) : Int) ≠ 0) : desc m (n + 1) t j = desc m n (efr (entAt m t ((j / 32 ^ (n + 1) % 32 : Nat) : Int))) j := by rw [desc, if_neg h]
theorem desc_leaf {m : List Int} {t : Int} {j : Nat} (h : entAt m t ((j % 32 : Nat) : Int) ≠ 0) : desc m 0 t j = some (entAt m t ((j % 32 : Nat) : Int)) := by rw [desc, if_neg h]
/-- The level at which the walk to a page ends. -/
def lvF (m : List Int) (root : Int) (k : Nat) : Nat :=
  if entAt m root ((k / 1024 % 32 : Nat) : Int) = 0 then 2
  else if entAt m (efr (entAt m root ((k / 1024 % 32 : Nat) : Int))) ((k / 32 % 32 : Nat) : Int) = 0 then 1 else 0
theorem lv_next {m : List Int} {root : Int} {k : Nat} (h : k % 32 ^ lvF m root k = 0) : (k + 32 ^ lvF m root k) % 32 ^ lvF m root (k + 32 ^ lvF m root k) = 0 := by
  obtain ⟨k', hk'⟩ : ∃ k', k' = k + 32 ^ lvF m root k := ⟨_, rfl⟩
  rw [← hk']
  have p1 : (32 : Nat) ^ 1 = 32 := rfl
  have p2 : (32 : Nat) ^ 2 = 1024 := rfl
  have p0 : (32 : Nat) ^ 0 = 1 := rfl
  by_cases a2 : entAt m root ((k / 1024 % 32 : Nat) : Int) = 0
  · have hl : lvF m root k = 2 := by unfold lvF; rw [if_pos a2]
    rw [hl, p2] at h hk'
    unfold lvF
    split
    · omega
    · split
      · omega
      · omega
  · by_cases a1 : entAt m (efr (entAt m root ((k / 1024 % 32 : Nat) : Int))) ((k / 32 % 32 : Nat) : Int) = 0
    · have hl : lvF m root k = 1 := by unfold lvF; rw [if_neg a2, if_pos a1]
      rw [hl, p1] at h hk'
      unfold lvF
      split
      · rename_i b2
        by_cases hm : k' % 1024 = 0
        · omega
        · exfalso; apply a2; rw [← b2]; congr 3; omega
      · split
        · omega
        · omega
    · have hl : lvF m root k = 0 := by unfold lvF; rw [if_neg a2, if_neg a1]
      rw [hl, p0] at hk'
      unfold lvF
      split
      · rename_i b2
        by_cases hm : k' % 1024 = 0
        · omega
        · exfalso; apply a2; rw [← b2]; congr 3; omega
      · rename_i b2
        split
        · rename_i b1
          by_cases hm : k' % 32 = 0
          · omega
          · exfalso; apply a1; rw [← b1]
            have e1 : k' / 1024 = k / 1024 := by omega
            have e2 : k' / 32 = k / 32 := by omega
            rw [e1, e2]
        · omega
/-- No pages in the group of an entry that is not there. -/
theorem lv_none {m : List Int} {root : Int} {k : Nat} (h : k % 32 ^ lvF m root k = 0) (hz : 0 < lvF m root k ∨ desc m 2 root k = none) : seg (desc m 2 root) k (32 ^ lvF m root k) = [] := by
  have p1 : (32 : Nat) ^ 1 = 32 := rfl
  have p2 : (32 : Nat) ^ 2 = 1024 := rfl
  have p0 : (32 : Nat) ^ 0 = 1 := rfl
  by_cases a2 : entAt m root ((k / 1024 % 32 : Nat) : Int) = 0
  · have hl : lvF m root k = 2 := by unfold lvF; rw [if_pos a2]
    rw [hl, p2] at h ⊢
    refine seg_none _ (fun j h1 h2 => desc_none ?_)
    rw [p2, ← a2]; congr 3; omega
  · by_cases a1 : entAt m (efr (entAt m root ((k / 1024 % 32 : Nat) : Int))) ((k / 32 % 32 : Nat) : Int) = 0
    · have hl : lvF m root k = 1 := by unfold lvF; rw [if_neg a2, if_pos a1]
      rw [hl, p1] at h ⊢
      refine seg_none _ (fun j h1 h2 => ?_)
      have e1 : j / 1024 = k / 1024 := by omega
      have e2 : j / 32 = k / 32 := by omega
      rw [desc_sub (by show entAt m root ((j / 1024 % 32 : Nat) : Int) ≠ 0; rw [e1]; exact a2)]
      refine desc_none ?_
      show entAt m (efr (entAt m root ((j / 1024 % 32 : Nat) : Int))) ((j / 32 % 32 : Nat) : Int) = 0
      rw [e1, e2]; exact a1
    · have hl : lvF m root k = 0 := by unfold lvF; rw [if_neg a2, if_neg a1]
      rw [hl, p0]
      refine seg_none _ (fun j h1 h2 => ?_)
      obtain rfl : j = k := by omega
      rcases hz with hz | hz
      · omega
      · exact hz
end Go.Proofs.Ytkgoanjemhbjgaa

/- The pages of a space, the reference's way: by levels. Conditions: none. -/
set_option linter.unusedVariables false
set_option linter.unusedSimpArgs false
namespace Go.Proofs.Ytkgoanjemhbjgaa
open Go Go.Den
abbrev rowL (s : Sl) (l : List Leaf) : Asr := aRow s 3 (recs Leaf.cells l)
theorem pgs_pow {n : Nat} (h : n ≤ 2) : pgs (n : Int) = ((32 ^ n : Nat) : Int) := by
  have : n = 0 ∨ n = 1 ∨ n = 2 := by omega
  rcases this with rfl | rfl | rfl <;> rfl
theorem pow_le_1024 {n : Nat} (h : n ≤ 2) : 1 ≤ 32 ^ n ∧ 32 ^ n ≤ 1024 := by
  have : n = 0 ∨ n = 1 ∨ n = 2 := by omega
  rcases this with rfl | rfl | rfl <;> decide
theorem plain_leaf (l : Leaf) : ∀ v, v ∈ l.cells → plainB v = true := fun v hv => by
  simp [Leaf.cells] at hv
  rcases hv with rfl | rfl | rfl <;> rfl
theorem plain_leafs (l : List Leaf) : ∀ e, e ∈ recs Leaf.cells l → ∀ x, Ce.v x ∈ e → plainB x = true := fun e he x hx => by
  obtain ⟨y, _, rfl⟩ := List.mem_map.1 he
  obtain ⟨v, hv, hh⟩ := List.mem_map.1 hx
  injection hh with hh
  subst hh
  exact plain_leaf y v hv
theorem kind0 {lvl : Int} : kindS 0 lvl = -4 := by unfold kindS; rw [if_pos (by rfl)]
set_option maxHeartbeats 1000000 in
theorem s166 {n : Nat} (hn : n ≤ 2) {sm : Sl} {m : List Int} {free : List Bool}
    (hrec : ∀ k, n = k + 1 → ∀ {w : World} {t : Int} {S : List Int} {b : Nat}, Bytes w sm m → Tab m free k t S → b % 32 ^ (k + 1) = 0 → b + 32 ^ (k + 1) ≤ 32768 → CallW Try.prog 166 #[.slice sm.a sm.len sm.cap, .int .i64 t, .int .i64 (k : Int), .int .i64 ((256 * b : Nat) : Int)] w (fun v w' => ∃ l : Sl, v = .slice l.a l.len l.cap ∧ SH w w' [rowL l (seg (desc m k t) b (32 ^ (k + 1)))]))
    {w : World} {t : Int} {S : List Int} {b : Nat} (hm : Bytes w sm m) (hT : Tab m free n t S) (hml : m.length = 256 * free.length) (hs : m.length ≤ 262144) (hb : b % 32 ^ (n + 1) = 0) (hb2 : b + 32 ^ (n + 1) ≤ 32768) :
    CallW Try.prog 166 #[.slice sm.a sm.len sm.cap, .int .i64 t, .int .i64 (n : Int), .int .i64 ((256 * b : Nat) : Int)] w (fun v w' => ∃ l : Sl, v = .slice l.a l.len l.cap ∧ SH w w' [rowL l (seg (desc m n t) b (32 ^ (n + 1)))]) := by
  refine go166 ?_
  unfold W166
  refine (SH.start w).alloc (fun w1 h1 e1 n1 => ?_)
  have h1 := h1.drop
  have hl := hm.len
  have hcap := hm.cap
  have hr := hm.rng
  have hrg := hT.rng
  have hpw := pow_le_1024 hn
  have hps : 32 ^ (n + 1) = 32 ^ n * 32 := Nat.pow_succ ..
  refine JoinW.cut1 (fun (c : Bool) w' => c = false ∧ w' = w1) ?_ ?_
  · refine BIf.f (decide_eq_false (by omega)) ⟨by omega, ?_, rfl⟩
    rw [Int.tdiv_eq_ediv_of_nonneg (by omega), w64 (by omega) (by omega)]
    exact decide_eq_false (by omega)
  rintro (c : Bool) w' ⟨rfl, rfl⟩
  refine BIf.f rfl ?_
  refine LoopW.m2 (fun (l : Sl) (i : Int) w' => ∃ k : Nat, i = k ∧ k ≤ 32 ∧ SH w w' [rowL l (seg (desc m n t) b (k * 32 ^ n))]) (fun (l : Sl) (i : Int) _ => (32 - i).toNat) ⟨0, rfl, by omega, by rw [Nat.zero_mul]; exact h1.nil _ 3⟩ ?_
  rintro (l5 : Sl) (i : Int) w8 ⟨k, rfl, hk, h8⟩ J hJ
  have hm8 := hm.ext h8.ext
  refine BIf.dec (fun hlt => ?_) (fun hge => ?_)
  rotate_left
  · have hk32 : k = 32 := by omega
    refine ⟨l5, rfl, ?_⟩
    have h32 : k * 32 ^ n = 32 ^ n * 32 := by rw [hk32, Nat.mul_comm]
    rw [hps, ← h32]; exact h8
  have hk31 : k < 32 := by omega
  have hroom := tab_room hT hml
  rw [w64 (n := t * 256) (by omega) (by omega), w64 (n := 8 * (k : Int)) (by omega) (by omega), w64 (n := t * 256 + 8 * (k : Int)) (by omega) (by omega), w64 (n := t * 256 + 8 * (k : Int) + 8) (by omega) (by omega)]
  refine ⟨by omega, by omega, by omega, by omega, ?_⟩
  obtain ⟨a, ha⟩ := Int.eq_ofNat_of_zero_le (show 0 ≤ t * 256 + 8 * (k : Int) by omega)
  rw [ha, Int.toNat_natCast, show ((a : Int) + 8).toNat - a = 8 by omega]
  refine (c174 (hm8.cut (a := a) (by omega)) (by omega) (by simp; omega)).mono ?_
  rintro _ w10 ⟨rfl, rfl⟩
  refine ⟨_, _, rfl, ?_⟩
  rw [word_cut, ← ha]
  have hxe : word m (t * 256 + 8 * (k : Int)) = entAt m t (k : Int) := rfl
  rw [hxe]
  have hxr : 0 ≤ entAt m t (k : Int) ∧ entAt m t (k : Int) < 18446744073709551616 := word_rng hr _
  refine (c177 (by omega) (by omega)).mono ?_
  rintro _ w14 ⟨rfl, rfl⟩
  refine ⟨_, rfl, ?_⟩
  rw [pgs_pow hn]
  refine (c186 hxr.1 hxr.2 (by omega) (by omega)).mono ?_
  rintro _ w17 ⟨rfl, e17⟩
  have h17 := h8.to e17
  refine ⟨_, rfl, ?_⟩
  have hkp : k * 32 ^ n + 32 ^ n ≤ 32 ^ (n + 1) := by
    rw [hps, ← Nat.succ_mul, Nat.mul_comm (32 ^ n)]
    exact Nat.mul_le_mul_right _ (by omega)
  have hadd : seg (desc m n t) b ((k + 1) * 32 ^ n) = seg (desc m n t) b (k * 32 ^ n) ++ seg (desc m n t) (b + k * 32 ^ n) (32 ^ n) := by rw [Nat.succ_mul, seg_add]
  have hidx : ∀ j, b + k * 32 ^ n ≤ j → j < b + k * 32 ^ n + 32 ^ n → j / 32 ^ n % 32 = k := fun j g1 g2 => grp_idx hb hk31 g1 g2
  have hva : IntKind.i64.wrap (((256 * b : Nat) : Int) + IntKind.i64.wrap (IntKind.i64.wrap ((k : Int) * 256) * ((32 ^ n : Nat) : Int))) = ((256 * (b + k * 32 ^ n) : Nat) : Int) := by
    have g1 : IntKind.i64.wrap ((k : Int) * 256) = ((k * 256 : Nat) : Int) := by rw [w64 (by omega) (by omega)]; omega
    have g2 : k * 256 * 32 ^ n = 256 * (k * 32 ^ n) := by rw [Nat.mul_comm k 256, Nat.mul_assoc]
    rw [g1, ← Int.natCast_mul, g2, w64 (n := ((256 * (k * 32 ^ n) : Nat) : Int)) (by omega) (by omega), w64 (by omega) (by omega)]
    omega
  have hsl := seg_len (desc m n t) b (k * 32 ^ n)
  by_cases hx0 : entAt m t (k : Int) = 0
  · rw [hx0, kind0]
    refine BIf.f rfl (BIf.f rfl ?_)
    rw [w64 (by omega) (by omega)]
    refine hJ _ _ _ ⟨k + 1, by omega, by omega, ?_⟩ (by omega)
    rw [hadd, seg_none (f := desc m n t) (b := b + k * 32 ^ n) (32 ^ n) (fun j g1 g2 => desc_none (by rw [hidx j g1 g2]; exact hx0)), List.append_nil]
    exact h17
  cases n with
  | zero =>
    have hkd := hT.leaf (i := (k : Int)) (by omega) (by omega) hx0
    refine BIf.f (by show (kindS _ 0 == 0) = false; rw [hkd]; rfl) (BIf.t (by show (kindS _ 0 == 1) = true; rw [hkd]; rfl) ?_)
    rw [hva]
    refine LetW_iff.2 (SH.appendR1 (x := (⟨((256 * (b + k * 32 ^ 0) : Nat) : Int), 0, entAt m t (k : Int)⟩ : Leaf)) h17 rfl rfl rfl (by decide) (by show (_ + 1) * 24 ≤ _; omega) (plain_leaf _) (fun s' w41 h41 g1 g2 => ?_))
    rw [w64 (by omega) (by omega)]
    refine hJ _ _ _ ⟨k + 1, by omega, by omega, ?_⟩ (by omega)
    have hd : desc m 0 t (b + k * 32 ^ 0) = some (entAt m t (k : Int)) := by
      have := hidx (b + k * 32 ^ 0) (by omega) (by omega)
      rw [Nat.pow_zero, Nat.div_one] at this
      rw [Nat.pow_zero, desc_leaf (by rw [this]; exact hx0), this]
    rw [hadd, show (32 : Nat) ^ 0 = 1 from rfl] at *
    rw [seg_some hd]
    exact h41
  | succ j =>
    obtain ⟨hkd, S1, hT1, _⟩ := hT.sub (i := (k : Int)) (by omega) (by omega) hx0
    refine BIf.t (by rw [hkd]; rfl) ?_
    have hsm := hT.ent (i := (k : Int)) (by omega) (by omega) hx0
    refine (c123 hxr.1 hsm).mono ?_
    rintro _ w20 ⟨rfl, e20⟩
    have h20 := h17.to e20
    refine ⟨_, _, _, _, _, _, _, _, _, _, rfl, h20.alloc (fun w31 h31 e31 n31 => h31.put 0 rfl rfl rfl (fun w32 h32 n32 => ?_))⟩
    refine ⟨_, h32.cell 0 (i := 8) rfl rfl, ?_⟩
    rw [hva]
    have hl1 : IntKind.i64.wrap (((j + 1 : Nat) : Int) - 1) = (j : Int) := by rw [w64 (by omega) (by omega)]; omega
    rw [hl1]
    have hbm : (b + k * 32 ^ (j + 1)) % 32 ^ (j + 1) = 0 := by
      rw [Nat.add_mul_mod_self_right]
      exact Nat.mod_eq_zero_of_dvd (Nat.dvd_trans ⟨32, hps⟩ (Nat.dvd_of_mod_eq_zero hb))
    refine (hrec j rfl (hm.ext h32.ext) hT1 hbm (by omega)).mono ?_
    rintro _ w35 ⟨l36, rfl, g35⟩
    have h35 := h32.seq g35
    refine ⟨l36, rfl, ?_⟩
    have hsl2 := seg_len (desc m j (efr (entAt m t (k : Int)))) (b + k * 32 ^ (j + 1)) (32 ^ (j + 1))
    refine SH.appendRow ((h35.front (n := 2) rfl)) rfl rfl (by decide) (by rw [recs_len, recs_len]; show (_ + _) * 24 ≤ _; omega) (plain_leafs _) (fun s' w38 h38 g1 g2 => ?_)
    rw [w64 (by omega) (by omega)]
    refine hJ _ _ _ ⟨k + 1, by omega, by omega, ?_⟩ (by omega)
    have hc : seg (desc m (j + 1) t) (b + k * 32 ^ (j + 1)) (32 ^ (j + 1)) = seg (desc m j (efr (entAt m t (k : Int)))) (b + k * 32 ^ (j + 1)) (32 ^ (j + 1)) :=
      seg_congr _ (fun i g1 g2 => by
        have := hidx i g1 g2
        rw [desc_sub (by rw [this]; exact hx0), this])
    rw [hadd, hc]
    have h39 := h38.one
    rw [← recs_app] at h39
    exact h39
theorem spec_below {sm : Sl} {m : List Int} {free : List Bool} {w : World} {t : Int} {S : List Int} (hm : Bytes w sm m) (hT : Tab m free 2 t S) (hml : m.length = 256 * free.length) (hs : m.length ≤ 262144) :
    CallW Try.prog 166 #[.slice sm.a sm.len sm.cap, .int .i64 t, .int .i64 2, .int .i64 0] w (fun v w' => ∃ l : Sl, v = .slice l.a l.len l.cap ∧ SH w w' [rowL l (seg (desc m 2 t) 0 32768)]) := by
  refine s166 (n := 2) (b := 0) (by omega) ?_ hm hT hml hs (by omega) (by decide)
  intro k hk w t S b hm hT hb hb2
  obtain rfl : k = 1 := by omega
  refine s166 (n := 1) (by omega) ?_ hm hT hml hs hb hb2
  intro k hk w t S b hm hT hb hb2
  obtain rfl : k = 0 := by omega
  exact s166 (n := 0) (by omega) (fun k hk => by omega) hm hT hml hs hb hb2
theorem s108 {sm : Sl} {m : List Int} {free : List Bool} {w : World} {t : Int} {S : List Int} (hm : Bytes w sm m) (hok : mOk m = true) (hT : Tab m free 2 t S) (hml : m.length = 256 * free.length) (hs : m.length ≤ 262144) :
    CallW Try.prog 108 #[.slice sm.a sm.len sm.cap, .int .i64 t] w (fun v w' => ∃ l : Sl, v = .slice l.a l.len l.cap ∧ SH w w' [rowL l (seg (desc m 2 t) 0 32768)]) := by
  refine go108 ?_
  unfold W108
  refine (c159 hm.len).mono ?_
  rintro _ w ⟨rfl, rfl⟩
  refine ⟨_, rfl, BIf.not (BIf.t hok ?_)⟩
  refine (spec_below hm hT hml hs).mono ?_
  rintro _ w6 ⟨l, rfl, h6⟩
  exact ⟨l, rfl, l, rfl, h6⟩
end Go.Proofs.Ytkgoanjemhbjgaa

/- The pages of a space, the program's way: address by address. Conditions: none. -/
set_option linter.unusedVariables false
set_option linter.unusedSimpArgs false
namespace Go.Proofs.Ytkgoanjemhbjgaa
open Go Go.Den
def tz5 : List Value := [.int .i64 0, .int .i64 0, .int .i64 0, .int .i64 0, .int .u64 0]
theorem s189 {w0 w : World} {As : List Asr} {i j b1 b2 : Nat} {c n2 n3 : Int} (h : SH w0 w As) (hi : As[i]? = some (aB b1 [.v (.int .i64 n2)])) (hj : As[j]? = some (aB b2 [.v (.int .i64 n3)])) : CallW Try.prog 189 #[.int .i64 c, .pointer (some ⟨b1, 0, none⟩), .pointer (some ⟨b2, 0, none⟩)] w (fun v w' => v = .agg #[.int .i64 c, .int .i64 n2, .int .i64 n3, .int .i64 0, .int .u64 0] ∧ SH w0 w' As) := by
  refine go189 ?_
  unfold W189
  refine h.alloc (fun w1 h1 e1 n1 => ?_)
  refine ⟨n2, h1.cell (i + 1) (by simpa using hi) rfl, n3, h1.cell (j + 1) (by simpa using hj) rfl, h1.put 0 rfl rfl rfl (fun w4 h4 n4 => ?_)⟩
  exact ⟨_, h4.cell 0 rfl rfl, _, h4.cell 0 rfl rfl, _, h4.cell 0 rfl rfl, _, h4.cell 0 rfl rfl, _, h4.cell 0 rfl rfl, rfl, h4.drop⟩
/-- What a leaf's and a pointer's bits are. -/
theorem kind_leaf {x lvl : Int} (h : kindS x lvl = 1) : ebit x 0 = true ∧ x < 1048576 ∧ (ebit x 2 = true → ebit x 1 = true) ∧ (ebit x 1 || ebit x 2 || ebit x 3) = true := by
  unfold kindS at h
  split at h
  · omega
  · rename_i h0
    split at h
    · omega
    · split at h
      · omega
      · rename_i h2
        split at h
        · split at h <;> omega
        · rename_i h3
          refine ⟨by simpa using h0, by omega, ?_⟩
          clear h h0
          revert h2 h3
          generalize ebit x 1 = a
          generalize ebit x 2 = b
          generalize ebit x 3 = c
          intro h2 h3
          cases a <;> cases b <;> cases c <;> simp_all
theorem kind_ptr {x lvl : Int} (h : kindS x lvl = 0) : ebit x 0 = true ∧ x < 1048576 ∧ ebit x 1 = false ∧ ebit x 2 = false ∧ ebit x 3 = false ∧ ebit x 4 = false ∧ ebit x 5 = false ∧ ebit x 6 = false := by
  unfold kindS at h
  split at h
  · omega
  · rename_i h0
    split at h
    · omega
    · split at h
      · omega
      · split at h
        · rename_i h3
          split at h
          · omega
          · rename_i h4
            have g0 : ebit x 0 = true := by simpa using h0
            refine ⟨g0, by omega, ?_⟩
            clear h h0 g0
            revert h3 h4
            generalize ebit x 1 = a
            generalize ebit x 2 = b
            generalize ebit x 3 = c
            generalize ebit x 4 = d
            generalize ebit x 5 = e
            generalize ebit x 6 = f
            intro h3 h4
            cases a <;> cases b <;> cases c <;> cases d <;> cases e <;> cases f <;> simp_all
        · split at h <;> omega
theorem shr_20 {x : Int} (h0 : 0 ≤ x) (h1 : x < 1048576) : (shrI .u64 x 20 != 0) = false := by
  have : shrI .u64 x ((20 : Nat) : Int) = x / ((2 ^ 20 : Nat) : Int) := shrI_u64 (by omega)
  have h2 : shrI .u64 x 20 = 0 := by
    show shrI .u64 x ((20 : Nat) : Int) = 0
    rw [this]; omega
  rw [h2]; rfl
def E2 (m : List Int) (root : Int) (k : Nat) : Int := entAt m root ((k / 1024 % 32 : Nat) : Int)
def E1 (m : List Int) (root : Int) (k : Nat) : Int := entAt m (efr (E2 m root k)) ((k / 32 % 32 : Nat) : Int)
def Lk (m : List Int) (root : Int) (k n : Nat) (t : Int) : Prop := (n = 2 ∧ t = root) ∨ (n = 1 ∧ E2 m root k ≠ 0 ∧ t = efr (E2 m root k)) ∨ (n = 0 ∧ E2 m root k ≠ 0 ∧ E1 m root k ≠ 0 ∧ t = efr (E1 m root k))
theorem lk_lv {m : List Int} {root t : Int} {k n : Nat} (h : Lk m root k n t) (hz : entAt m t ((k / 32 ^ n % 32 : Nat) : Int) = 0 ∨ n = 0) : lvF m root k = n := by
  rcases h with ⟨rfl, rfl⟩ | ⟨rfl, h2, rfl⟩ | ⟨rfl, h2, h1, rfl⟩
  · rcases hz with hz | hz
    · unfold lvF; rw [if_pos hz]
    · omega
  · rcases hz with hz | hz
    · have h2' : entAt m root ((k / 1024 % 32 : Nat) : Int) ≠ 0 := h2
      unfold lvF
      rw [if_neg h2']
      exact if_pos hz
    · omega
  · have h2' : entAt m root ((k / 1024 % 32 : Nat) : Int) ≠ 0 := h2
    unfold lvF
    rw [if_neg h2']
    exact if_neg h1
theorem lk_next {m : List Int} {root t : Int} {k n : Nat} (h : Lk m root k (n + 1) t) (hx : entAt m t ((k / 32 ^ (n + 1) % 32 : Nat) : Int) ≠ 0) : Lk m root k n (efr (entAt m t ((k / 32 ^ (n + 1) % 32 : Nat) : Int))) := by
  rcases h with ⟨hn, rfl⟩ | ⟨hn, h2, rfl⟩ | ⟨hn, _⟩
  · obtain rfl : n = 1 := by omega
    exact .inr (.inl ⟨rfl, hx, rfl⟩)
  · obtain rfl : n = 0 := by omega
    exact .inr (.inr ⟨rfl, h2, hx, rfl⟩)
  · omega
def TrP (m : List Int) (root : Int) (k : Nat) (w : World) (v : Value) (w' : World) : Prop := ∃ code lvl at_ pa wd : Int, v = .agg #[.int .i64 code, .int .i64 lvl, .int .i64 at_, .int .i64 pa, .int .u64 wd] ∧ Ext w w' ∧ lvl = (lvF m root k : Int) ∧
  ((code = 4 ∧ (0 < lvF m root k ∨ desc m 2 root k = none)) ∨ ((code = 0 ∨ code = 7 ∨ code = 8) ∧ lvF m root k = 0 ∧ 0 ≤ at_ ∧ at_ + 8 ≤ m.length ∧ desc m 2 root k = some (word m at_)))
set_option maxRecDepth 8000 in
set_option maxHeartbeats 2000000 in
theorem s167 {w : World} {sm : Sl} {m : List Int} {free : List Bool} {root : Int} {S0 : List Int} {k : Nat} (hm : Bytes w sm m) (hT : Tab m free 2 root S0) (hml : m.length = 256 * free.length) (hs : m.length ≤ 262144) (hk : k < 32768) :
    CallW Try.prog 167 #[.slice sm.a sm.len sm.cap, .int .i64 root, .int .u64 ((256 * k : Nat) : Int), .int .i64 0, .bool true] w (TrP m root k w) := by
  refine go167 ?_
  unfold W167
  have hr := hm.rng
  have hl := hm.len
  refine (SH.start w).alloc (fun w1 h1 e1 n1 => h1.alloc (fun w2 h2 e2 n2 => ?_))
  refine h2.setV 0 (vs := [.int .i64 0]) rfl rfl (fun w3 h3 n3 => ?_)
  refine LoopW.m2 (fun (t : Int) (p : Option Addr) w' => ∃ (n bl : Nat) (S : List Int), p = some ⟨bl, 0, none⟩ ∧ n ≤ 2 ∧ Tab m free n t S ∧ Lk m root k n t ∧ desc m 2 root k = desc m n t k ∧ SH w w' [aB bl ([Value.int .i64 (n : Int)].map Ce.v), aB w.heap.size (tz5.map Ce.v)]) (fun (t : Int) (p : Option Addr) w' => match p with | some q => (match w'.cell? q with | some (.int _ n) => n.toNat | _ => 0) | none => 0) ⟨2, w1.heap.size, S0, rfl, by omega, hT, .inl ⟨rfl, rfl⟩, rfl, h3⟩ ?_
  rintro (t : Int) (p : Option Addr) w7 ⟨n, bl, S, rfl, hn, hTt, hLk, hd, h7⟩ J hJ
  have hroom := tab_room hTt hml
  have hrg := hTt.rng
  refine JoinW.cut1 (fun (c : Bool) w' => c = false ∧ w' = w7) ?_ ?_
  · refine BIf.f (decide_eq_false (by omega)) ⟨by omega, ?_, rfl⟩
    rw [Int.tdiv_eq_ediv_of_nonneg (by omega), w64 (by omega) (by omega)]
    exact decide_eq_false (by omega)
  rintro (c : Bool) wq ⟨rfl, rfl⟩
  refine BIf.f rfl (addrOf_mk ?_)
  refine ⟨(n : Int), h7.cell 0 rfl rfl, ?_⟩
  have hsh : IntKind.i64.wrap (8 + IntKind.i64.wrap (5 * (n : Int))) = ((8 + 5 * n : Nat) : Int) := by rw [w64 (n := 5 * (n : Int)) (by omega) (by omega), w64 (by omega) (by omega)]; omega
  have hidx : IntKind.i64.wrap (andI .u64 (shrI .u64 ((256 * k : Nat) : Int) (IntKind.i64.wrap (8 + IntKind.i64.wrap (5 * (n : Int))))) 31) = ((k / 32 ^ n % 32 : Nat) : Int) := by
    rw [hsh, shrI_u64 (by omega)]
    have h31 : (31 : Int) = ((2 ^ 5 - 1 : Nat) : Int) := rfl
    have hp5 : ((2 ^ 5 : Nat) : Int) = 32 := rfl
    have hq : ((256 * k : Nat) : Int) / ((2 ^ (8 + 5 * n) : Nat) : Int) = ((k / 32 ^ n : Nat) : Int) := by
      have : n = 0 ∨ n = 1 ∨ n = 2 := by omega
      rcases this with rfl | rfl | rfl
      · show ((256 * k : Nat) : Int) / 256 = ((k / 1 : Nat) : Int); omega
      · show ((256 * k : Nat) : Int) / 8192 = ((k / 32 : Nat) : Int); omega
      · show ((256 * k : Nat) : Int) / 262144 = ((k / 1024 : Nat) : Int); omega
    have hle : k / 32 ^ n ≤ k := Nat.div_le_self _ _
    obtain ⟨q, hqe⟩ : ∃ q, q = k / 32 ^ n := ⟨_, rfl⟩
    rw [← hqe] at hle hq ⊢
    rw [hq, h31, andI_mask 5 (by omega) (by omega) (by omega), hp5, w64 (by omega) (by omega)]
    omega
  have hix : k / 32 ^ n % 32 < 32 := Nat.mod_lt _ (by omega)
  obtain ⟨i, hi⟩ : ∃ i, i = k / 32 ^ n % 32 := ⟨_, rfl⟩
  rw [← hi] at hidx hix
  refine ⟨by rw [hsh]; omega, h7.alloc (fun w21 h21 e21 n21 => ?_)⟩
  rw [hidx, w64 (n := t * 256) (by omega) (by omega), w64 (n := (i : Int) * 8) (by omega) (by omega), w64 (n := t * 256 + (i : Int) * 8) (by omega) (by omega)]
  refine h21.setV 0 (vs := [.int .i64 0]) rfl rfl (fun w22 h22 n22 => ?_)
  refine ⟨_, h22.cell 0 rfl rfl, (c168 (hm.ext h22.ext) (by omega) (by omega)).mono ?_⟩
  rintro _ w25 ⟨rfl, rfl⟩
  refine ⟨_, _, rfl, ?_⟩
  obtain ⟨x, hx⟩ : ∃ x, x = word m (t * 256 + (i : Int) * 8) := ⟨_, rfl⟩
  have hxe : x = entAt m t (i : Int) := by rw [hx]; unfold entAt; rw [Int.mul_comm (i : Int)]
  have hxr : 0 ≤ x ∧ x < 18446744073709551616 := by rw [hx]; exact word_rng hr _
  rw [← hx]
  refine (c127 hxr.1 hxr.2).mono ?_
  rintro _ w29 ⟨rfl, e29⟩
  have h29 := h22.to e29
  refine ⟨_, _, _, _, _, _, _, _, _, rfl, h29.alloc (fun w39 h39 e39 n39 => h39.put 0 rfl rfl rfl (fun w40 h40 n40 => ?_))⟩
  have h40 : SH w w40 [aB w29.heap.size ((eCells x).map Ce.v), aB wq.heap.size ([Value.int .i64 (t * 256 + (i : Int) * 8)].map Ce.v), aB bl ([Value.int .i64 (n : Int)].map Ce.v), aB w.heap.size (tz5.map Ce.v)] := h40
  have hhd : ∀ (w9 : World) (c0 a1 b1 c1 d1 : Int), SH w w9 [aB w.heap.size (tz5.map Ce.v)] → TrP m root k w (.agg #[.int .i64 c0, .int .i64 a1, .int .i64 b1, .int .i64 c1, .int .u64 d1]) w9 → MayN w9 ⟨w.heap.size, 0, none⟩ 5 ∧ LetW (Den.puts w9 ⟨w.heap.size, 0, none⟩ 0 [.int .i64 c0, .int .i64 a1, .int .i64 b1, .int .i64 c1, .int .u64 d1]) fun w10 => ∃ x1 : Int, w10.cell? ⟨w.heap.size, 0, none⟩ = some (.int .i64 x1) ∧ ∃ x2 : Int, w10.cell? ⟨w.heap.size, 1, none⟩ = some (.int .i64 x2) ∧ ∃ x3 : Int, w10.cell? ⟨w.heap.size, 2, none⟩ = some (.int .i64 x3) ∧ ∃ x4 : Int, w10.cell? ⟨w.heap.size, 3, none⟩ = some (.int .i64 x4) ∧ ∃ x5 : Int, w10.cell? ⟨w.heap.size, 4, none⟩ = some (.int .u64 x5) ∧ TrP m root k w (.agg #[.int .i64 x1, .int .i64 x2, .int .i64 x3, .int .i64 x4, .int .u64 x5]) w10 := by
    intro w9 c0 a1 b1 c1 d1 h9 hp
    refine h9.put 0 rfl rfl rfl (fun w10 h10 n10 => ?_)
    refine ⟨_, h10.cell 0 rfl rfl, _, h10.cell 0 rfl rfl, _, h10.cell 0 rfl rfl, _, h10.cell 0 rfl rfl, _, h10.cell 0 rfl rfl, ?_⟩
    obtain ⟨g1, g2, g3, g4, g5, hv, _, hq⟩ := hp
    exact ⟨g1, g2, g3, g4, g5, hv, h10.ext, hq⟩
  have c0 := h40.cell 0 (i := 0) rfl rfl
  have c1 := h40.cell 0 (i := 1) rfl rfl
  have c2 := h40.cell 0 (i := 2) rfl rfl
  have c3 := h40.cell 0 (i := 3) rfl rfl
  have c4 := h40.cell 0 (i := 4) rfl rfl
  have c5 := h40.cell 0 (i := 5) rfl rfl
  have c6 := h40.cell 0 (i := 6) rfl rfl
  have c8 := h40.cell 0 (i := 8) rfl rfl
  have cl := h40.cell 2 (i := 0) rfl rfl
  refine ⟨ebit x 0, c0, BIf.not ?_⟩
  by_cases hz : x = 0
  · -- no entry
    refine BIf.f (by rw [hz]; rfl) ?_
    refine (s189 (i := 2) (j := 1) (b1 := bl) (b2 := wq.heap.size) h40 rfl rfl).mono ?_
    rintro _ w43 ⟨rfl, h43⟩
    refine ⟨_, _, _, _, _, rfl, hhd w43 _ _ _ _ _ (h43.front (n := 3) rfl).one ?_⟩
    have hlv := lk_lv hLk (.inl (by rw [← hi, ← hxe]; exact hz))
    refine ⟨_, _, _, _, _, rfl, h43.ext, by rw [hlv], .inl ⟨rfl, .inr ?_⟩⟩
    rw [hd]
    exact desc_none (by rw [← hi, ← hxe]; exact hz)
  have hnz : entAt m t (i : Int) ≠ 0 := by rw [← hxe]; exact hz
  cases n with
  | succ j =>
    obtain ⟨hkd, S1, hT1, _⟩ := hTt.sub (i := (i : Int)) (by omega) (by omega) hnz
    rw [← hxe] at hkd hT1
    obtain ⟨b0, hxs, b1, b2, b3, b4, b5, b6⟩ := kind_ptr hkd
    refine BIf.t b0 ⟨by omega, ?_⟩
    refine JoinW.cut1 (fun (c : Bool) w' => c = false ∧ w' = w40) ?_ ?_
    · exact BIf.f (shr_20 hxr.1 hxs) ⟨_, c2, BIf.f b2 ⟨rfl, rfl⟩⟩
    rintro (c : Bool) w' ⟨rfl, rfl⟩
    refine BIf.f rfl ⟨_, c1, ?_⟩
    refine JoinW.cut1 (fun (c : Bool) w'' => c = true ∧ w'' = w') ?_ ?_
    · exact BIf.t (by rw [b1]; rfl) ⟨_, c2, by rw [b2]; rfl, rfl⟩
    rintro (c : Bool) w' ⟨rfl, rfl⟩
    refine JoinW.cut1 (fun (c : Bool) w'' => c = true ∧ w'' = w') ?_ ?_
    · exact BIf.t rfl ⟨_, c3, by rw [b3]; rfl, rfl⟩
    rintro (c : Bool) w' ⟨rfl, rfl⟩
    refine BIf.t rfl ⟨_, c4, ?_⟩
    refine JoinW.cut1 (fun (c : Bool) w'' => c = false ∧ w'' = w') ?_ ?_
    · exact BIf.f b4 ⟨_, c5, b5, rfl⟩
    rintro (c : Bool) w' ⟨rfl, rfl⟩
    refine JoinW.cut1 (fun (c : Bool) w'' => c = false ∧ w'' = w') ?_ ?_
    · exact BIf.f rfl ⟨_, c6, b6, rfl⟩
    rintro (c : Bool) w' ⟨rfl, rfl⟩
    refine JoinW.cut1 (fun (c : Bool) w'' => c = false ∧ w'' = w') ?_ ?_
    · refine BIf.f rfl (addrOf_mk ⟨_, cl, ?_, rfl⟩)
      show ((((j + 1 : Nat) : Int)) == 0) = false
      rw [beq_eq_false_iff_ne]; omega
    rintro (c : Bool) w' ⟨rfl, rfl⟩
    refine BIf.f rfl ⟨_, c8, addrOf_mk ⟨_, cl, ?_⟩⟩
    refine h40.alloc (fun w104 h104 e104 n104 => h104.setV 0 (vs := [.int .i64 0]) rfl rfl (fun w105 h105 n105 => ?_))
    refine ⟨_, h105.cell 0 rfl rfl, h105.setV 0 (vs := [.int .i64 (((j + 1 : Nat) : Int))]) rfl rfl (fun w107 h107 n107 => ?_)⟩
    have hl1 : IntKind.i64.wrap (((j + 1 : Nat) : Int) - 1) = (j : Int) := by rw [w64 (by omega) (by omega)]; omega
    rw [hl1] at h107
    have hLk2 := lk_next hLk (by rw [← hi]; exact hnz)
    rw [← hi, ← hxe] at hLk2
    have h108 : SH w w107 [aB w'.heap.size ([Value.int .i64 (j : Int)].map Ce.v), aB w.heap.size (tz5.map Ce.v)] := ((((h107.front (n := 3) rfl).drop).front (n := 2) rfl).drop.front (n := 1) rfl).drop
    refine hJ _ _ _ ⟨j, w'.heap.size, S1, rfl, by omega, hT1, hLk2, ?_, h108⟩ ?_
    · rw [hd, desc_sub (by rw [← hi]; exact hnz), ← hi, ← hxe]
    · have g1 := h108.cell 0 (i := 0) rfl rfl
      have g2 := h7.cell 0 (i := 0) rfl rfl
      simp only [g1, g2]
      omega
  | zero =>
    have hkd := hTt.leaf (i := (i : Int)) (by omega) (by omega) hnz
    rw [← hxe] at hkd
    obtain ⟨b0, hxs, b12, b123⟩ := kind_leaf hkd
    have hlv := lk_lv hLk (.inr rfl)
    have hi0 : i = k % 32 := by rw [hi, Nat.pow_zero, Nat.div_one]
    have hdx : desc m 2 root k = some x := by
      rw [hd, desc_leaf (by rw [← hi0]; exact hnz), ← hi0, ← hxe]
    have hok : ∀ (w9 : World) (c9 pa wd : Int), Ext w w9 → (c9 = 0 ∨ c9 = 7 ∨ c9 = 8) → TrP m root k w (.agg #[.int .i64 c9, .int .i64 ((0 : Nat) : Int), .int .i64 (t * 256 + (i : Int) * 8), .int .i64 pa, .int .u64 wd]) w9 := by
      intro w9 c9 pa wd e9 h9
      exact ⟨_, _, _, _, _, rfl, e9, by rw [hlv], .inr ⟨h9, hlv, by omega, by omega, by rw [hdx, hx]⟩⟩
    refine BIf.t b0 ⟨by omega, ?_⟩
    refine JoinW.cut1 (fun (c : Bool) w' => c = false ∧ w' = w40) ?_ ?_
    · refine BIf.f (shr_20 hxr.1 hxs) ⟨_, c2, BIf.of (fun h2 => ⟨_, c1, by rw [b12 h2]; rfl, rfl⟩) (fun _ => ⟨rfl, rfl⟩)⟩
    rintro (c : Bool) w' ⟨rfl, rfl⟩
    refine BIf.f rfl ⟨_, c1, ?_⟩
    refine JoinW.cut1 (fun (c : Bool) w'' => c = (!ebit x 1 && !ebit x 2) ∧ w'' = w') ?_ ?_
    · refine BIf.not (BIf.of (fun h1 => ⟨by rw [h1]; rfl, rfl⟩) (fun h1 => ⟨_, c2, by rw [h1]; rfl, rfl⟩))
    rintro (c : Bool) w' ⟨rfl, rfl⟩
    refine JoinW.cut1 (fun (c : Bool) w'' => c = false ∧ w'' = w') ?_ ?_
    · refine BIf.of (fun h1 => ⟨_, c3, ?_, rfl⟩) (fun h1 => ⟨rfl, rfl⟩)
      clear hkd b12 c0 c1 c2 c3
      revert h1 b123
      generalize ebit x 1 = a
      generalize ebit x 2 = b
      generalize ebit x 3 = d
      intro h1 b123
      cases a <;> cases b <;> cases d <;> simp_all
    rintro (c : Bool) w' ⟨rfl, rfl⟩
    have h41 := h40.drew
    have d1 := h41.cell 0 (i := 1) rfl rfl
    have d2 := h41.cell 0 (i := 2) rfl rfl
    have d3 := h41.cell 0 (i := 3) rfl rfl
    have d4 := h41.cell 0 (i := 4) rfl rfl
    have d8 := h41.cell 0 (i := 8) rfl rfl
    have dl := h41.cell 2 (i := 0) rfl rfl
    refine BIf.f rfl ⟨_, d8, addrOf_mk ⟨_, dl, ?_⟩⟩
    have h50 : IntKind.i64.wrap (5 * ((0 : Nat) : Int)) = 0 := rfl
    have hs1 : shlI .i64 1 0 = 1 := rfl
    rw [h50, hs1]
    refine ⟨by omega, by omega, BIf.f (by rw [Int.tmod_one]; rfl) ?_⟩
    refine JoinW.cut1 (fun (c : Bool) w'' => c = (!ebit x 4) ∧ w'' = w'.drew) ?_ ?_
    · exact BIf.t rfl ⟨_, d4, rfl, rfl⟩
    rintro (c : Bool) w'' ⟨rfl, rfl⟩
    refine BIf.of (fun hu => ?_) (fun hu => ?_)
    · refine (s189 (i := 2) (j := 1) (b1 := bl) (b2 := wq.heap.size) h41 rfl rfl).mono ?_
      rintro _ w132 ⟨rfl, h132⟩
      exact ⟨_, _, _, _, _, rfl, hhd _ _ _ _ _ _ (h132.front (n := 3) rfl).one (hok _ _ _ _ h132.ext (.inr (.inl rfl)))⟩
    refine JoinW.cut1 (fun (c : Bool) w'' => c = ebit x 1 ∧ w'' = w'.drew) ?_ ?_
    · exact BIf.t rfl ⟨_, d1, rfl, rfl⟩
    rintro (c : Bool) w'' ⟨rfl, rfl⟩
    refine JoinW.cut1 (fun (c : Bool) w'' => c = ebit x 1 ∧ w'' = w'.drew) ?_ ?_
    · refine BIf.of (fun h1 => ⟨h1.symm, rfl⟩) (fun h1 => BIf.f rfl ⟨h1.symm, rfl⟩)
    rintro (c : Bool) w'' ⟨rfl, rfl⟩
    refine JoinW.cut1 (fun (c : Bool) w'' => c = ebit x 1 ∧ w'' = w'.drew) ?_ ?_
    · refine BIf.of (fun h1 => ⟨h1.symm, rfl⟩) (fun h1 => BIf.f rfl ⟨h1.symm, rfl⟩)
    rintro (c : Bool) w'' ⟨rfl, rfl⟩
    refine BIf.not (BIf.of (fun hb => ?_) (fun hb => ?_))
    rotate_left
    · refine (s189 (i := 2) (j := 1) (b1 := bl) (b2 := wq.heap.size) h41 rfl rfl).mono ?_
      rintro _ w132 ⟨rfl, h132⟩
      exact ⟨_, _, _, _, _, rfl, hhd _ _ _ _ _ _ (h132.front (n := 3) rfl).one (hok _ _ _ _ h132.ext (.inr (.inr rfl)))⟩
    refine h41.setV 0 (vs := eCells x) rfl rfl (fun w166 h166 n166 => ?_)
    refine JoinW.cut0 (fun w'' => w'' = w166) ?_ ?_
    · exact BIf.f rfl rfl
    rintro w'' rfl
    refine ⟨_, h166.cell 0 rfl rfl, _, h166.cell 0 rfl rfl, _, h166.cell 0 rfl rfl, _, h166.cell 0 rfl rfl, _, h166.cell 0 rfl rfl, _, h166.cell 0 rfl rfl, _, h166.cell 0 rfl rfl, _, h166.cell 0 rfl rfl, _, h166.cell 0 rfl rfl, ?_⟩
    refine (c132 (e := ⟨ebit x 0, ebit x 1, ebit x 2, ebit x 3, ebit x 4, true, ebit x 6, ebit x 7, efr x⟩)).mono ?_
    rintro _ w179 ⟨rfl, e179⟩
    have h179 := (h166.to e179).drew
    refine ⟨_, _, rfl, addrOf_mk ⟨_, h179.cell 2 rfl rfl, _, h179.cell 1 rfl rfl, _, h179.cell 0 (i := 8) rfl rfl, by decide, ?_⟩⟩
    exact hhd _ _ _ _ _ _ (h179.front (n := 3) rfl).one (hok _ _ _ _ h179.ext (.inl rfl))
end Go.Proofs.Ytkgoanjemhbjgaa

/- SpacePages, both sides. Conditions: none. -/
set_option linter.unusedVariables false
set_option linter.unusedSimpArgs false
namespace Go.Proofs.Ytkgoanjemhbjgaa
open Go Go.Den
noncomputable def pgN : Nat := Classical.choose (⟨32768, rfl⟩ : ∃ z, z = 32768)
theorem pgN_eq : pgN = 32768 := Classical.choose_spec (⟨32768, rfl⟩ : ∃ z, z = 32768)
theorem lv_le (m : List Int) (root : Int) (k : Nat) : lvF m root k ≤ 2 := by unfold lvF; split; omega; split <;> omega
theorem lv_room {k n : Nat} (hn : n ≤ 2) (hk : k < 32768) (h : k % 32 ^ n = 0) : k + 32 ^ n ≤ 32768 := by
  have : n = 0 ∨ n = 1 ∨ n = 2 := by omega
  rcases this with rfl | rfl | rfl
  · show k + 1 ≤ _; omega
  · have h : k % 32 = 0 := h
    show k + 32 ≤ _; omega
  · have h : k % 1024 = 0 := h
    show k + 1024 ≤ _; omega
theorem shl_lv {n : Nat} (hn : n ≤ 2) : shlI .u64 1 (IntKind.i64.wrap (8 + IntKind.i64.wrap (5 * (n : Int)))) = ((256 * 32 ^ n : Nat) : Int) := by
  have : n = 0 ∨ n = 1 ∨ n = 2 := by omega
  rcases this with rfl | rfl | rfl <;> decide
set_option maxRecDepth 8000 in
set_option maxHeartbeats 1000000 in
theorem s109 {sm : Sl} {m : List Int} {free : List Bool} {w : World} {t : Int} {S : List Int} (hm : Bytes w sm m) (hok : mOk m = true) (hT : Tab m free 2 t S) (hml : m.length = 256 * free.length) (hs : m.length ≤ 262144) :
    CallW Try.prog 109 #[.slice sm.a sm.len sm.cap, .int .i64 t] w (fun v w' => ∃ l : Sl, v = .slice l.a l.len l.cap ∧ SH w w' [rowL l (seg (desc m 2 t) 0 pgN)]) := by
  have hN := pgN_eq
  refine go109 ?_
  unfold W109
  refine (c155 hm.len).mono ?_
  rintro _ w ⟨rfl, rfl⟩
  refine ⟨_, rfl, BIf.not (BIf.t hok ?_)⟩
  refine LoopW.m2 (fun (l : Sl) (va : Int) w' => ∃ k : Nat, va = ((256 * k : Nat) : Int) ∧ k ≤ 32768 ∧ (k < 32768 → k % 32 ^ lvF m t k = 0) ∧ SH w w' [rowL l (seg (desc m 2 t) 0 k)]) (fun (l : Sl) (va : Int) _ => (8388608 - va).toNat) ⟨0, rfl, by omega, fun _ => Nat.zero_mod _, (SH.start w).nil none 3⟩ ?_
  rintro (l : Sl) (va : Int) w7 ⟨k, hva, hk, hal, h7⟩ J hJ
  refine BIf.of (fun hlt => ?_) (fun hge => ?_)
  rotate_left
  · have hge := of_decide_eq_false hge
    have hk2 : k = pgN := by omega
    subst hk2
    exact ⟨l, rfl, h7⟩
  have hlt := of_decide_eq_true hlt
  subst hva
  have hk1 : k < 32768 := by omega
  have halk := hal hk1
  refine (s167 (hm.ext h7.ext) hT hml hs hk1).mono ?_
  rintro _ w9 ⟨code, lvl, at_, pa, wd, rfl, e9, rfl, hcase⟩
  have h9 := h7.to e9
  have hlv := lv_le m t k
  obtain ⟨n, hn⟩ : ∃ n, n = lvF m t k := ⟨_, rfl⟩
  rw [← hn] at hlv halk hcase ⊢
  have hroom := lv_room hlv hk1 halk
  have hpow := pow_le_1024 hlv
  refine ⟨code, _, at_, pa, wd, rfl, h9.alloc (fun w15 h15 e15 n15 => h15.put 0 rfl rfl rfl (fun w16 h16 n16 => ?_))⟩
  refine ⟨_, h16.cell 0 (i := 1) rfl rfl, by rw [w64 (n := 5 * (n : Int)) (by omega) (by omega), w64 (by omega) (by omega)]; omega, ?_⟩
  have hnext : seg (desc m 2 t) 0 (k + 32 ^ n) = seg (desc m 2 t) 0 k ++ seg (desc m 2 t) k (32 ^ n) := by
    have := seg_add (desc m 2 t) 0 k (32 ^ n)
    rwa [Nat.zero_add] at this
  have hsl := seg_len (desc m 2 t) 0 k
  refine JoinW.cut1 (fun (l' : Sl) w'' => SH w w'' [rowL l' (seg (desc m 2 t) 0 (k + 32 ^ n)), aB w9.heap.size ([Value.int .i64 code, .int .i64 (n : Int), .int .i64 at_, .int .i64 pa, .int .u64 wd].map Ce.v)]) ?_ ?_
  · refine ⟨code, h16.cell 0 rfl rfl, ?_⟩
    refine JoinW.cut1 (fun (c : Bool) w'' => (c = true ↔ code = 0 ∨ code = 7) ∧ w'' = w16) ?_ ?_
    · refine BIf.eq (fun h0 => ⟨⟨fun _ => .inl h0, fun _ => rfl⟩, rfl⟩) (fun h0 => ⟨code, h16.cell 0 rfl rfl, ?_, rfl⟩)
      rw [beq_iff_eq]
      exact ⟨fun hh => .inr hh, fun hh => by rcases hh with hh | hh; exact absurd hh h0; exact hh⟩
    rintro (c : Bool) w'' ⟨hc, rfl⟩
    refine JoinW.cut1 (fun (c : Bool) w3 => (c = true ↔ code = 0 ∨ code = 7 ∨ code = 8) ∧ w3 = w'') ?_ ?_
    · refine BIf.of (fun h1 => ⟨⟨fun _ => by rcases hc.1 h1 with h | h; exact .inl h; exact .inr (.inl h), fun _ => rfl⟩, rfl⟩) (fun h1 => ⟨code, h16.cell 0 rfl rfl, ?_, rfl⟩)
      rw [beq_iff_eq]
      have hn2 : ¬ (code = 0 ∨ code = 7) := fun hh => by rw [hc.2 hh] at h1; cases h1
      exact ⟨fun hh => .inr (.inr hh), fun hh => by rcases hh with hh | hh | hh; exact absurd (.inl hh) hn2; exact absurd (.inr hh) hn2; exact hh⟩
    rintro (c2 : Bool) w3 ⟨hc2, rfl⟩
    rcases hcase with ⟨h4, hnone⟩ | ⟨h078, hl0, ha0, ha1, hd⟩
    · have hcf : c2 = false := by
        cases c2
        · rfl
        · have := hc2.1 rfl; omega
      refine BIf.f hcf ?_
      show SH w w3 _
      rw [hnext, hn, lv_none (by rw [← hn]; exact halk) (by rw [← hn]; exact hnone), List.append_nil, ← hn]
      exact h16.p1
    · have hct : c2 = true := hc2.2 h078
      refine BIf.t hct ⟨at_, h16.cell 0 rfl rfl, ?_⟩
      refine (c168 (hm.ext h16.ext) ha0 ha1).mono ?_
      rintro _ w32 ⟨rfl, rfl⟩
      refine ⟨_, _, rfl, _, h16.cell 0 rfl rfl, ?_⟩
      rw [w64 (n := ((256 * k : Nat) : Int)) (by omega) (by omega)]
      have hn0 : n = 0 := hl0
      subst hn0
      refine LetW_iff.2 (SH.appendR1 (x := (⟨((256 * k : Nat) : Int), 0, word m at_⟩ : Leaf)) h16.p1 rfl rfl rfl (by decide) (by show (_ + 1) * 24 ≤ _; omega) (plain_leaf _) (fun s' w38 h38 g1 g2 => ?_))
      rw [hnext, show (32 : Nat) ^ 0 = 1 from rfl, seg_some hd]
      exact h38
  rintro (l' : Sl) w20 h20
  refine ⟨code, h20.cell 1 rfl rfl, ?_⟩
  refine BIf.f (by rw [beq_eq_false_iff_ne]; rcases hcase with h | h <;> omega) ?_
  rw [shl_lv hlv, wu64 (by omega) (by omega)]
  refine hJ _ _ _ ⟨k + 32 ^ n, by omega, hroom, ?_, h20.one⟩ (by omega)
  intro _
  have := lv_next (by rw [← hn]; exact halk)
  rwa [← hn] at this
/-! ## SpacePages -/
noncomputable def pagesF (m : List Int) (T : Int) (fr : List DBlock) (root : Int) : List Leaf := match spaceT m T fr root with | none => [] | some _ => seg (desc m 2 root) 0 pgN
theorem mOk_of {m : List Int} {T : Int} {fr : List DBlock} (h : POk m T fr) : mOk m = true := by
  unfold mOk
  rw [Bool.and_eq_true, decide_eq_true_eq, decide_eq_true_eq]
  exact ⟨h.1, h.2.1⟩
theorem s41 {sm sf : Sl} {m : List Int} {T root : Int} {fr : List DBlock} {w : World} (hm : Bytes w sm m) (hf : FrAt w sf fr) :
    CallW Try.prog 41 #[.agg #[.slice sm.a sm.len sm.cap, .int .i64 T, .slice sf.a sf.len sf.cap], .int .i64 root] w (fun v w' => ∃ l : Sl, v = .slice l.a l.len l.cap ∧ SH w w' [rowL l (pagesF m T fr root)]) := by
  refine go41 ?_
  unfold W41
  refine (SH.start w).alloc (fun w1 h1 e1 n1 => ?_)
  refine ⟨sm, h1.cell 0 rfl rfl, _, h1.cell 0 rfl rfl, sf, h1.cell 0 rfl rfl, (c33 (hm.ext e1) (hf.ext e1)).mono ?_⟩
  rintro _ w6 ⟨rfl, e6⟩
  have h6 := h1.to e6
  refine ⟨_, rfl, ?_⟩
  rcases hsp : spaceT m T fr root with _ | S
  · refine BIf.t rfl (h6.alloc (fun w8 h8 e8 n8 => ?_))
    refine ⟨⟨some ⟨w6.heap.size, 0, none⟩, 0, 0⟩, rfl, ?_⟩
    have : pagesF m T fr root = [] := by unfold pagesF; rw [hsp]
    rw [this]
    exact ((h8.take 0).nil _ 3)
  · refine BIf.f rfl ⟨sm, h6.cell 0 rfl rfl, ?_⟩
    have hok := (spaceT_mem hsp).1
    refine (s108 (hm.ext h6.ext) (mOk_of hok) (tab_root hsp) hok.len hok.2.1).mono ?_
    rintro _ w11 ⟨l, rfl, h11⟩
    rw [← pgN_eq] at h11
    have : pagesF m T fr root = seg (desc m 2 root) 0 pgN := by unfold pagesF; rw [hsp]
    rw [this]
    exact ⟨l, rfl, l, rfl, (h6.seq h11).one⟩
theorem s42 {sm sf : Sl} {m : List Int} {T root : Int} {fr : List DBlock} {w : World} (hm : Bytes w sm m) (hf : FrAt w sf fr) :
    CallW Try.prog 42 #[.agg #[.slice sm.a sm.len sm.cap, .int .i64 T, .slice sf.a sf.len sf.cap], .int .i64 root] w (fun v w' => ∃ l : Sl, v = .slice l.a l.len l.cap ∧ SH w w' [rowL l (pagesF m T fr root)]) := by
  refine go42 ?_
  unfold W42
  refine (SH.start w).alloc (fun w1 h1 e1 n1 => ?_)
  refine ⟨sm, h1.cell 0 rfl rfl, _, h1.cell 0 rfl rfl, sf, h1.cell 0 rfl rfl, (c35 (hm.ext e1) (hf.ext e1)).mono ?_⟩
  rintro _ w6 ⟨rfl, e6⟩
  have h6 := h1.to e6
  refine ⟨_, rfl, ?_⟩
  rcases hsp : spaceT m T fr root with _ | S
  · refine BIf.t rfl ⟨⟨none, 0, 0⟩, rfl, ?_⟩
    have : pagesF m T fr root = [] := by unfold pagesF; rw [hsp]
    rw [this]
    exact ((h6.take 0).nil _ 3)
  · refine BIf.f rfl ⟨sm, h6.cell 0 rfl rfl, ?_⟩
    have hok := (spaceT_mem hsp).1
    refine (s109 (hm.ext h6.ext) (mOk_of hok) (tab_root hsp) hok.len hok.2.1).mono ?_
    rintro _ w11 ⟨l, rfl, h11⟩
    have : pagesF m T fr root = seg (desc m 2 root) 0 pgN := by unfold pagesF; rw [hsp]
    rw [this]
    exact ⟨l, rfl, l, rfl, (h6.seq h11).one⟩
end Go.Proofs.Ytkgoanjemhbjgaa

/- The types of the laws' parameters, as values of Lean's. Conditions: none. -/
set_option linter.unusedVariables false
set_option maxRecDepth 100000
namespace Go.Proofs.Ytkgoanjemhbjgaa
open Go Go.Den
structure DLeaf where
  Va : Int
  Level : Int
  Word : Int
abbrev TyLeaf : Ty := .st [(.int .i64), (.int .i64), (.int .u64)]
def DLeaf.dat (x : DLeaf) : Dat := .st [.int .i64 x.Va, .int .i64 x.Level, .int .u64 x.Word]
theorem DLeaf.has (x : DLeaf) : Has TyLeaf x.dat := mk_st (mkF_cons (mk_int) (mkF_cons (mk_int) (mkF_cons (mk_int) (mkF_nil))))
end Go.Proofs.Ytkgoanjemhbjgaa

/- The law's own functions over trees: copies, sizes, comparisons, marks; printed by a program. Conditions: none. -/
set_option linter.unusedVariables false
set_option linter.unusedSimpArgs false
set_option maxRecDepth 4000
namespace Go.Proofs.Ytkgoanjemhbjgaa
open Go Go.Den

theorem has_Leaf {d : Dat} (h : Has TyLeaf d) : ∃ x_0 : Int, ∃ x_1 : Int, ∃ x_2 : Int, d = .st [.int .i64 x_0, .int .i64 x_1, .int .u64 x_2] := by
  obtain ⟨_, rfl, g⟩ := has_st h
  obtain ⟨_, _, rfl, h_0, g⟩ := hasF_cons g
  obtain ⟨_, _, rfl, h_1, g⟩ := hasF_cons g
  obtain ⟨_, _, rfl, h_2, g⟩ := hasF_cons g
  obtain rfl := hasF_nil g
  obtain ⟨x_0, rfl⟩ := has_int h_0
  obtain ⟨x_1, rfl⟩ := has_int h_1
  obtain ⟨x_2, rfl⟩ := has_int h_2
  exact ⟨x_0, x_1, x_2, rfl⟩
theorem cells_Leaf {w : World} {x_0 : Int} {x_1 : Int} {x_2 : Int} {cs : List Value} (h : IsD w (.st [.int .i64 x_0, .int .i64 x_1, .int .u64 x_2]) cs) : cs = [.int .i64 x_0, .int .i64 x_1, .int .u64 x_2] ∧ ((Lit.int .i64 x_0).wf = true) ∧ ((Lit.int .i64 x_1).wf = true) ∧ ((Lit.int .u64 x_2).wf = true) := by
  have q := isD_st h
  obtain ⟨_, _, rfl, i_0, q⟩ := isF_cons q
  obtain ⟨_, _, rfl, i_1, q⟩ := isF_cons q
  obtain ⟨_, _, rfl, i_2, q⟩ := isF_cons q
  obtain rfl := isF_nil q
  obtain ⟨rfl, ws_0⟩ := isD_int i_0
  obtain ⟨rfl, ws_1⟩ := isD_int i_1
  obtain ⟨rfl, ws_2⟩ := isD_int i_2
  exact ⟨rfl, ws_0, ws_1, ws_2⟩
/- eqLeaf -/
theorem c110 {d : Dat} {cs1 cs2 : List Value} {w : World} (ht : Has TyLeaf d) (h : IsD w d cs1) (h2 : IsD w d cs2) : CallW Try.prog 110 #[.agg ⟨cs1⟩, .agg ⟨cs2⟩] w (fun v w' => v = .bool true ∧ Ext w w') := by
  obtain ⟨x_0, x_1, x_2, rfl⟩ := has_Leaf ht
  obtain ⟨rfl, ws_0, ws_1, ws_2⟩ := cells_Leaf h
  obtain ⟨rfl, wu_0, wu_1, wu_2⟩ := cells_Leaf h2
  show CallW Try.prog 110 #[.agg #[.int .i64 x_0, .int .i64 x_1, .int .u64 x_2], .agg #[.int .i64 x_0, .int .i64 x_1, .int .u64 x_2]] w _
  refine go110 ?_
  unfold W110
  refine alloc_step (fun w1 e1 ha n1 => ?_)
  refine alloc_step (fun w2 e2 hb n2 => ?_)
  have ha := ha.ext e2
  have e := Only.trans e1 e2
  refine ⟨_, ha.cell 0, _, hb.cell 0, BIf.f (by simp) ?_⟩
  refine ⟨_, ha.cell 1, _, hb.cell 1, BIf.f (by simp) ?_⟩
  refine ⟨_, ha.cell 2, _, hb.cell 2, BIf.f (by simp) ?_⟩
  exact ⟨rfl, e⟩

/- eqLeafS -/
theorem c43 {l : List Dat} {a0 a1 : Sl} {w : World} (ht : ∀ e, e ∈ l → Has TyLeaf e) (h : IsD w (.sl 3 l) [.slice a0.a a0.len a0.cap]) (h2 : IsD w (.sl 3 l) [.slice a1.a a1.len a1.cap]) : CallW Try.prog 43 #[.slice a0.a a0.len a0.cap, .slice a1.a a1.len a1.cap] w (fun v w' => v = .bool true ∧ Ext w w') := by
  refine go43 ?_
  unfold W43
  obtain ⟨hlen, hmax, hel⟩ := isD_sl h
  obtain ⟨hlen2, _, hel2⟩ := isD_sl h2
  have hmx : maxLen = 9223372036854775807 := rfl
  rw [hlen, hlen2]
  refine BIf.f (by simp) ?_
  refine LoopW.m1 (fun (i : Int) w' => ∃ k : Nat, i = k ∧ k ≤ l.length ∧ Ext w w') (fun (i : Int) _ => (l.length - i).toNat) ⟨0, rfl, by omega, Only.refl _ _⟩ ?_
  rintro (i : Int) w4 ⟨k, rfl, hk, e4⟩ J hJ
  refine BIf.dec (fun hlt => ?_) (fun hge => ⟨rfl, e4⟩)
  obtain ⟨d, hd⟩ : ∃ d, l[k]? = some d := ⟨_, List.getElem?_eq_getElem (by omega)⟩
  have e4 := Only.trans e4 (ext_drew w4)
  obtain ⟨p, es, hp, he, hc, his⟩ := isD_at (IsD.ext e4 _ _ h) hd
  obtain ⟨p2, es2, hp2, he2, hc2, his2⟩ := isD_at (IsD.ext e4 _ _ h2) hd
  have ht0 := ht d (mem_get hd)
  have ht1 := ht0
  obtain ⟨x_0, x_1, x_2, rfl⟩ := has_Leaf ht1
  have his0 := his
  have his20 := his2
  obtain ⟨rfl, ws_0, ws_1, ws_2⟩ := cells_Leaf his
  obtain ⟨rfl, wu_0, wu_1, wu_2⟩ := cells_Leaf his2
  refine ⟨by omega, by omega, p, hp, _, hc 0 _ rfl, _, hc 1 _ rfl, _, hc 2 _ rfl, by omega, by omega, p2, hp2, _, hc2 0 _ rfl, _, hc2 1 _ rfl, _, hc2 2 _ rfl, (c110 (cs1 := [.int .i64 x_0, .int .i64 x_1, .int .u64 x_2]) (cs2 := [.int .i64 x_0, .int .i64 x_1, .int .u64 x_2]) ht0 his0 his20).mono ?_⟩
  rintro _ w9 ⟨rfl, e9⟩
  refine ⟨true, rfl, BIf.f rfl ?_⟩
  rw [w64 (by omega) (by omega)]
  exact hJ _ _ ⟨k + 1, by omega, by omega, Only.trans e4 e9⟩ (by omega)

/- markLeafS -/
theorem c44 {l : List Dat} {a0 : Sl} {bs : List Nat} {k0 : Int} {w : World} (ht : ∀ e, e ∈ l → Has TyLeaf e) (h : OwnD w (.sl 3 l) bs [.slice a0.a a0.len a0.cap]) (hn : bs.Nodup) (h0 : 1 ≤ k0) (hk : k0 + Dat.cnts l ≤ 1099511627776) : CallW Try.prog 44 #[.slice a0.a a0.len a0.cap, .int .i64 k0] w (fun v w' => v = .int .i64 (k0 + Dat.cnts l) ∧ ∃ l', l'.length = l.length ∧ Dat.cnts l' = Dat.cnts l ∧ (∀ e, e ∈ l' → Has TyLeaf e) ∧ MarkedF TXT l' k0 ∧ OwnD w' (.sl 3 l') bs [.slice a0.a a0.len a0.cap] ∧ Only (fun k => k ∈ bs) w w') := by
  refine go44 ?_
  unfold W44
  obtain ⟨hlen, hmax⟩ := ownD_len h
  have hmx : maxLen = 9223372036854775807 := rfl
  rw [hlen]
  refine LoopW.m2 (fun (x i : Int) w' => ∃ (k : Nat) (l' : List Dat), i = k ∧ k ≤ l.length ∧ l'.length = k ∧ x = k0 + Dat.cnts l' ∧ Dat.cnts l' = Dat.cnts (l.take k) ∧ (∀ e, e ∈ l' → Has TyLeaf e) ∧ MarkedF TXT l' k0 ∧ OwnD w' (.sl 3 (l' ++ l.drop k)) bs [.slice a0.a a0.len a0.cap] ∧ Only (fun k => k ∈ bs) w w') (fun _ (i : Int) _ => (l.length - i).toNat) ⟨0, [], rfl, by omega, rfl, by simp [Dat.cnts], by simp [Dat.cnts], fun e he => (by cases he), markedF_nil, by simpa using h, Only.refl _ _⟩ ?_
  rintro (kx : Int) (i : Int) w4 ⟨k, l', rfl, hkl, hl', hx, hcn, hty, hmk, ho, o4⟩ J hJ
  refine BIf.dec (fun hlt => ?_) (fun hge => ?_)
  · obtain ⟨d, hd⟩ : ∃ d, l[k]? = some d := ⟨_, List.getElem?_eq_getElem (by omega)⟩
    have hcg := cnts_get hd
    have hct := cnts_take hd
    have ht0 := ht d (mem_get hd)
    obtain ⟨x_0, x_1, x_2, rfl⟩ := has_Leaf ht0
    simp only [Dat.cnt, Dat.cnts] at hcg hct
    obtain ⟨b, bp, b1, bq, vp, v1, vq, ha, hbs, hvp, hod, hm, hvl, hlc, _⟩ := ownD_at ho (get_app hl' hd)
    rw [(take_app hl').1, (take_app hl').2] at hm
    have hv0 := hm.len
    have hbs0 := hbs
    rw [Int.toNat_natCast, ← hvp]
    simp (disch := omega) only [w64]
    have hbs : bs = b :: (bp ++ (([] ++ b1) ++ bq)) := hbs
    have me : ME w4 b 3 l' (l.drop (k + 1)) bp bq vp vq [] _ [] b1 [] v1 := ⟨hm, by unfold OwnF; exact ⟨rfl, rfl⟩, ownD_st hod, by rw [← hbs]; exact hn⟩
    refine ⟨by omega, by omega, _, ha, ?_⟩
    refine me.sc (d' := .int .i64 (kx)) sc_int (fun w => own_int (wf_i64 (by omega) (by omega))) rfl (fun w5 cr5 o5 me => ?_)
    have o4 := Only.trans o4 (o5.mono (fun c _ hc => by subst hc; rw [hbs]; simp))
    refine ⟨by omega, by omega, _, ha, ?_⟩
    refine me.sc (d' := .int .i64 (kx + 1)) sc_int (fun w => own_int (wf_i64 (by omega) (by omega))) rfl (fun w6 cr6 o6 me => ?_)
    have o4 := Only.trans o4 (o6.mono (fun c _ hc => by subst hc; rw [hbs]; simp))
    refine ⟨by omega, by omega, _, ha, ?_⟩
    refine me.sc (d' := .int .u64 (IntKind.wrap .u64 (kx + 1 + 1))) sc_int (fun w => own_int (by rw [wu64 (by omega) (by omega)]; exact wf_u64 (by omega) (by omega))) rfl (fun w7 cr7 o7 me => ?_)
    have o4 := Only.trans o4 (o7.mono (fun c _ hc => by subst hc; rw [hbs]; simp))
    obtain ⟨hm2, hod2, hbr⟩ := me.fin
    subst hbr
    have hrow := row_close (bs := bs) (a0 := a0) hm2 hod2 hvp hl' (by omega) ha (by rw [hlen]) (by rw [hbs, List.append_nil]) (by have : (l' ++ l.drop k).length = l.length := (by simp; omega); omega) hmax hv0 hvl
    have hmkd : Marked TXT (.st [.int .i64 (kx), .int .i64 (kx + 1), .int .u64 (IntKind.wrap .u64 (kx + 1 + 1))]) kx := marked_st (markedF_cons (k := kx) (k' := kx + 1) (marked_int (by rw [w64 (by omega) (by omega)])) (markedF_cons (k := kx + 1) (k' := kx + 1 + 1) (marked_int (by rw [w64 (by omega) (by omega)])) (markedF_cons (k := kx + 1 + 1) (k' := kx + 1 + 1 + 1) (marked_int rfl) (markedF_nil (k := kx + 1 + 1 + 1)) (by simp only [Dat.cnt]; omega)) (by simp only [Dat.cnt]; omega)) (by simp only [Dat.cnt]; omega))
    have hhas : Has TyLeaf (.st [.int .i64 (kx), .int .i64 (kx + 1), .int .u64 (IntKind.wrap .u64 (kx + 1 + 1))]) := mk_st (mkF_cons mk_int (mkF_cons mk_int (mkF_cons mk_int (mkF_nil))))
    refine hJ _ _ _ ⟨k + 1, l' ++ [_], by omega, by omega, by simp; omega, ?_, ?_, has_snoc hty hhas, markedF_snoc hmk hmkd hx, hrow, o4⟩ (by omega)
    · rw [cnts_snoc]; simp only [Dat.cnt, Dat.cnts]; omega
    · rw [cnts_snoc, hct]; simp only [Dat.cnt, Dat.cnts]; omega
  · have hkl2 : k = l.length := by omega
    subst hkl2
    rw [List.take_length] at hcn
    rw [List.drop_length, List.append_nil, hlen] at ho
    exact ⟨by rw [hx, hcn], l', hl', hcn, hty, hmk, ho, o4⟩

/- heldLeafS -/
theorem c45 {l : List Dat} {a0 : Sl} {k0 : Int} {w : World} (ht : ∀ e, e ∈ l → Has TyLeaf e) (h : IsD w (.sl 3 l) [.slice a0.a a0.len a0.cap]) (hm : MarkedF TXT l k0) (h0 : 1 ≤ k0) (hk : k0 + Dat.cnts l ≤ 1099511627776) : CallW Try.prog 45 #[.slice a0.a a0.len a0.cap, .int .i64 k0] w (fun v w' => v = .int .i64 (k0 + Dat.cnts l) ∧ Ext w w') := by
  refine go45 ?_
  unfold W45
  obtain ⟨hlen, hmax, _⟩ := isD_sl h
  have hmx : maxLen = 9223372036854775807 := rfl
  rw [hlen]
  refine LoopW.m2 (fun (x i : Int) w' => ∃ k : Nat, i = k ∧ k ≤ l.length ∧ x = k0 + Dat.cnts (l.take k) ∧ Ext w w') (fun _ (i : Int) _ => (l.length - i).toNat) ⟨0, rfl, by omega, by simp [Dat.cnts], Only.refl _ _⟩ ?_
  rintro (kx : Int) (i : Int) w4 ⟨k, rfl, hkl, hx, e4⟩ J hJ
  refine BIf.dec (fun hlt => ?_) (fun hge => ?_)
  · obtain ⟨d, hd⟩ : ∃ d, l[k]? = some d := ⟨_, List.getElem?_eq_getElem (by omega)⟩
    have hcg := cnts_get hd
    have hct := cnts_take hd
    have hmd := markedF_get hm hd
    rw [← hx] at hmd
    have ht0 := ht d (mem_get hd)
    obtain ⟨p, es, hp, he, hc, his⟩ := isD_at (IsD.ext e4 _ _ h) hd
    obtain ⟨x_0, x_1, x_2, rfl⟩ := has_Leaf ht0
    obtain ⟨rfl, ws_0, ws_1, ws_2⟩ := cells_Leaf his
    simp only [Dat.cnt, Dat.cnts] at hcg hct
    simp only [Marked, MarkedF, Dat.cnt, Dat.cnts] at hmd
    obtain ⟨m_0, m_1, m_2, _⟩ := hmd
    try simp (disch := omega) only [w64]
    refine ⟨by omega, by omega, p, hp, _, hc 0 _ rfl, BIf.f (by rw [m_0, w64 (by omega) (by omega)]; first | (simp; done) | (simp; omega)) ?_⟩
    refine ⟨by omega, by omega, p, hp, _, hc 1 _ rfl, BIf.f (by rw [m_1, w64 (by omega) (by omega)]; first | (simp; done) | (simp; omega)) ?_⟩
    refine ⟨by omega, by omega, p, hp, _, hc 2 _ rfl, BIf.f (by rw [m_2]; first | (simp; done) | (simp; congr 1; omega)) ?_⟩
    exact hJ _ _ _ ⟨k + 1, by omega, by omega, by rw [hct]; omega, e4⟩ (by omega)
  · rw [List.take_of_length_le (by omega)] at hx
    exact ⟨by rw [hx], e4⟩

end Go.Proofs.Ytkgoanjemhbjgaa

/- SpacePages as the law asks it. Conditions: none. -/
set_option linter.unusedVariables false
set_option linter.unusedSimpArgs false
namespace Go.Proofs.Ytkgoanjemhbjgaa
open Go Go.Den
def Leaf.dat (l : Leaf) : Dat := .st [.int .i64 l.va, .int .i64 l.lvl, .int .u64 l.x]
theorem leafs_ceE (l : List Leaf) : Dat.ceE (l.map Leaf.dat) = recs Leaf.cells l := by
  rw [ceE_map]; unfold recs; congr 1
theorem desc_rng {m : List Int} (hr : ∀ x, x ∈ m → 0 ≤ x ∧ x ≤ 255) : ∀ {n : Nat} {t : Int} {j : Nat} {x : Int}, desc m n t j = some x → 0 ≤ x ∧ x < 18446744073709551616
  | 0, t, j, x, h => by
    unfold desc at h
    split at h
    · cases h
    · injection h with h; subst h; exact word_rng hr _
  | n + 1, t, j, x, h => by
    unfold desc at h
    split at h
    · cases h
    · exact desc_rng hr h
theorem seg_mem {f : Nat → Option Int} {b : Nat} : ∀ {k : Nat} {l : Leaf}, l ∈ seg f b k → ∃ j x, j < b + k ∧ f j = some x ∧ l = ⟨((256 * j : Nat) : Int), 0, x⟩
  | 0, l, h => by simp [seg] at h
  | k + 1, l, h => by
    rw [seg] at h
    rcases List.mem_append.1 h with h | h
    · obtain ⟨j, x, h1, h2, h3⟩ := seg_mem h
      exact ⟨j, x, by omega, h2, h3⟩
    · cases hf : f (b + k) with
      | none => rw [hf] at h; simp at h
      | some x => rw [hf] at h; exact ⟨b + k, x, by omega, hf, List.mem_singleton.1 h⟩
noncomputable def pagesP (x : DPool) (root : Int) : List Leaf := pagesF x.Mem x.Free.Total x.Free.Free root
theorem pages_out {m : List Int} {T : Int} {fr : List DBlock} {root : Int} (hr : ∀ x, x ∈ m → 0 ≤ x ∧ x ≤ 255) : (pagesF m T fr root).length ≤ 32768 ∧ ∀ l, l ∈ pagesF m T fr root → l.dat.fit := by
  have hN := pgN_eq
  unfold pagesF
  split
  · exact ⟨Nat.zero_le _, fun l hl => by cases hl⟩
  · refine ⟨by have := seg_len (desc m 2 root) 0 pgN; omega, fun l hl => ?_⟩
    obtain ⟨j, x, h1, h2, rfl⟩ := seg_mem hl
    have hx := desc_rng hr h2
    simp only [Leaf.dat, Dat.fit, Dat.fits]
    exact ⟨wf_i64 (by omega) (by omega), by decide, wf_u64 (by omega) (by omega), trivial⟩
theorem pages_has (x : DPool) (root : Int) : ∀ e, e ∈ (pagesP x root).map Leaf.dat → Has TyLeaf e := fun e he => by obtain ⟨y, _, rfl⟩ := List.mem_map.1 he; exact DLeaf.has ⟨y.va, y.lvl, y.x⟩
theorem leaf_cnts : ∀ l : List Leaf, Dat.cnts (l.map Leaf.dat) = 3 * l.length
  | [] => rfl
  | a :: r => by simp only [List.map_cons, Leaf.dat, Dat.cnts, Dat.cnt, List.length_cons]; have := leaf_cnts r; omega
theorem pages_cnt {x : DPool} {root : Int} {w : World} {cs : List Value} (h : IsD w x.dat cs) (hs : x.dat.sz ≤ 1048576) : Dat.cnts ((pagesP x root).map Leaf.dat) ≤ 98304 := by
  obtain ⟨sm, sf, rfl, hm, hf⟩ := pool_of h hs
  rw [leaf_cnts]
  have := (pages_out (T := x.Free.Total) (fr := x.Free.Free) (root := root) hm.rng).1
  unfold pagesP; omega
theorem pages_post {x : DPool} {root : Int} {w w' : World} {v : Value} (hr : ∀ y, y ∈ x.Mem → 0 ≤ y ∧ y ≤ 255) (h : ∃ l : Sl, v = .slice l.a l.len l.cap ∧ SH w w' [rowL l (pagesF x.Mem x.Free.Total x.Free.Free root)]) : ∃ y : Sl, v = .slice y.a y.len y.cap ∧ Fr w.heap.size w'.heap.size w' (.sl 3 ((pagesP x root).map Leaf.dat)) [.slice y.a y.len y.cap] ∧ Ext w w' := by
  obtain ⟨t, rfl, h⟩ := h
  refine ⟨t, rfl, SH.frRow (F := []) (by rw [leafs_ceE]; exact h) ?_, h.ext⟩
  have hm : maxLen = 9223372036854775807 := rfl
  obtain ⟨h1, h2⟩ := pages_out (T := x.Free.Total) (fr := x.Free.Free) (root := root) hr
  simp only [Dat.fit, List.length_map, fits_iff, List.mem_map]
  refine ⟨by unfold pagesP; omega, ?_⟩
  rintro d ⟨c, hc, rfl⟩
  exact h2 c hc
theorem specSpacePages {x : DPool} {root : Int} {w : World} {cs : List Value} (h : IsD w x.dat cs) (hs : x.dat.sz ≤ 1048576) : CallW Try.prog 41 #[.agg ⟨cs⟩, .int .i64 root] w (fun v w' => ∃ y : Sl, v = .slice y.a y.len y.cap ∧ Fr w.heap.size w'.heap.size w' (.sl 3 ((pagesP x root).map Leaf.dat)) [.slice y.a y.len y.cap] ∧ Ext w w') := by
  obtain ⟨sm, sf, rfl, hm, hf⟩ := pool_of h hs
  exact (s41 hm hf).mono (fun v w' hv => pages_post hm.rng hv)
theorem implSpacePages {x : DPool} {root : Int} {w : World} {cs : List Value} (h : IsD w x.dat cs) (hs : x.dat.sz ≤ 1048576) : CallW Try.prog 42 #[.agg ⟨cs⟩, .int .i64 root] w (fun v w' => ∃ y : Sl, v = .slice y.a y.len y.cap ∧ Fr w.heap.size w'.heap.size w' (.sl 3 ((pagesP x root).map Leaf.dat)) [.slice y.a y.len y.cap] ∧ Ext w w') := by
  obtain ⟨sm, sf, rfl, hm, hf⟩ := pool_of h hs
  exact (s42 hm hf).mono (fun v w' hv => pages_post hm.rng hv)
end Go.Proofs.Ytkgoanjemhbjgaa

/- The walk of a law: copies, both sides, comparisons; printed by a program. Conditions: none. -/
set_option linter.unusedVariables false
set_option linter.unusedSimpArgs false
set_option maxRecDepth 4000
namespace Go.Proofs.Ytkgoanjemhbjgaa
open Go Go.Den
theorem goc7 {a0_0 : Sl} {a0_1 : Int} {a0_2 : Sl} {a1 : Int} {w : World} {K : Value → World → Prop} (h : W7 a0_0 a0_1 a0_2 a1 w K) : Calls Try.prog 7 #[.agg #[.slice a0_0.a a0_0.len a0_0.cap, .int .i64 a0_1, .slice a0_2.a a0_2.len a0_2.cap], .int .i64 a1] w (fun e w' => ∃ v, e = .returned v ∧ K v w') :=
  denFn_sound tt_ok mix Try.func7 (by kernel_rfl) (eq7 a0_0 a0_1 a0_2 a1 w K ▸ h)
theorem walk7 {w : World} {x : DPool} {cs0 : List Value} (h0 : IsD w (x.dat) cs0) {root : Int} (wf1 : (Lit.int .i64 root).wf = true) : Calls Try.prog 7 #[.agg ⟨cs0⟩, .int .i64 root] w (fun e w' => ∃ v, e = .returned v ∧ (v = .bool true ∧ Ext w w')) := by
  obtain ⟨p0_0, p0_1_1, rfl, _, _, _, _⟩ := cells_Pool h0
  refine goc7 ?_
  unfold W7
  refine alloc_step (fun w1 ew1 hbw1 nw1 => ?_)
  have e := ew1
  have zw1 := ew1.size
  refine ⟨p0_0, hbw1.cell 0, ?_⟩
  refine ⟨_, hbw1.cell 1, ?_⟩
  refine ⟨p0_1_1, hbw1.cell 2, ?_⟩
  refine (c32 (DPool.has _) (IsD.ext e _ _ h0) (by omega) (by omega)).mono ?_
  rintro _ w6 ⟨⟨rw6, rfl, hrw6⟩, ew6⟩
  have hbw1 := hbw1.ext ew6
  have e := Only.trans e ew6
  have zw6 := ew6.size
  refine ⟨_, rfl, ?_⟩
  refine BIf.dec (fun hn => ⟨rfl, e⟩) (fun hpw6 => ?_)
  have sz0 : (x.dat).sz ≤ 1048576 := by omega
  refine ⟨p0_0, hbw1.cell 0, ?_⟩
  refine ⟨_, hbw1.cell 1, ?_⟩
  refine ⟨p0_1_1, hbw1.cell 2, ?_⟩
  refine (c34 (DPool.has _) (IsD.ext e _ _ h0) (by have := sz0; omega)).mono ?_
  rintro _ w12 ⟨yw12, rfl, fw12, ew12⟩
  have hbw1 := hbw1.ext ew12
  have e := Only.trans e ew12
  have zw12 := ew12.size
  have hiyw12 := fw12.is
  obtain ⟨ryw12_0, ryw12_1_1, rfl, _, _, _, _⟩ := cells_Pool hiyw12
  refine ⟨ryw12_0, _, ryw12_1_1, rfl, ?_⟩
  refine (specSpacePages (root := root) fw12.is sz0).mono ?_
  rintro _ w17 ⟨yw17_0, rfl, fw17_0, ew17⟩
  have hbw1 := hbw1.ext ew17
  have fw12 := fw12.ext ew17
  have e := Only.trans e ew17
  have zw17 := ew17.size
  refine ⟨yw17_0, rfl, ?_⟩
  refine ⟨p0_0, hbw1.cell 0, ?_⟩
  refine ⟨_, hbw1.cell 1, ?_⟩
  refine ⟨p0_1_1, hbw1.cell 2, ?_⟩
  refine (c34 (DPool.has _) (IsD.ext e _ _ h0) (by have := sz0; omega)).mono ?_
  rintro _ w23 ⟨yw23, rfl, fw23, ew23⟩
  have hbw1 := hbw1.ext ew23
  have fw12 := fw12.ext ew23
  have fw17_0 := fw17_0.ext ew23
  have e := Only.trans e ew23
  have zw23 := ew23.size
  have hiyw23 := fw23.is
  obtain ⟨ryw23_0, ryw23_1_1, rfl, _, _, _, _⟩ := cells_Pool hiyw23
  refine ⟨ryw23_0, _, ryw23_1_1, rfl, ?_⟩
  refine alloc_step (fun w27 ew27 hbw27 nw27 => ?_)
  have hbw1 := hbw1.ext ew27
  have fw12 := fw12.ext ew27
  have fw17_0 := fw17_0.ext ew27
  have fw23 := fw23.ext ew27
  have e := Only.trans e ew27
  have zw27 := ew27.size
  refine put_step hbw27 rfl rfl (fun w28 ow28 hbw27q nw28 => ?_)
  have hbw1 := hbw1.only ow28 (by omega)
  have fw12 := fw12.only ow28 (fun k h1 h2 => by omega)
  have fw17_0 := fw17_0.only ow28 (fun k h1 h2 => by omega)
  have fw23 := fw23.only ow28 (fun k h1 h2 => by omega)
  have e := Ext.own e ow28 (fun k hk => by omega)
  have hbw27 := hbw27q
  refine ⟨ryw23_0, hbw27.cell 0, ?_⟩
  refine ⟨_, hbw27.cell 1, ?_⟩
  refine ⟨ryw23_1_1, hbw27.cell 2, ?_⟩
  refine (implSpacePages (root := root) fw23.is sz0).mono ?_
  rintro _ w33 ⟨yw33_0, rfl, fw33_0, ew33⟩
  have hbw1 := hbw1.ext ew33
  have hbw27 := hbw27.ext ew33
  have fw12 := fw12.ext ew33
  have fw17_0 := fw17_0.ext ew33
  have fw23 := fw23.ext ew33
  have e := Only.trans e ew33
  have zw33 := ew33.size
  refine ⟨yw33_0, rfl, ?_⟩
  refine (c43 (pages_has x root) fw33_0.is fw17_0.is).mono ?_
  rintro _ w36 ⟨rfl, ew36⟩
  have hbw1 := hbw1.ext ew36
  have hbw27 := hbw27.ext ew36
  have fw12 := fw12.ext ew36
  have fw17_0 := fw17_0.ext ew36
  have fw23 := fw23.ext ew36
  have fw33_0 := fw33_0.ext ew36
  have e := Only.trans e ew36
  have zw36 := ew36.size
  refine ⟨_, rfl, ?_⟩
  refine BIf.f rfl ?_
  have ed := ext_drew w36
  have hbw1 := hbw1.ext ed
  have hbw27 := hbw27.ext ed
  have fw12 := fw12.ext ed
  have fw17_0 := fw17_0.ext ed
  have fw23 := fw23.ext ed
  have fw33_0 := fw33_0.ext ed
  have e := Only.trans e ed
  have zw36_drew := ed.size
  refine ⟨ryw23_0, hbw27.cell 0, ?_⟩
  refine ⟨_, hbw27.cell 1, ?_⟩
  refine ⟨ryw23_1_1, hbw27.cell 2, ?_⟩
  refine ⟨p0_0, hbw1.cell 0, ?_⟩
  refine ⟨_, hbw1.cell 1, ?_⟩
  refine ⟨p0_1_1, hbw1.cell 2, ?_⟩
  refine (c34 (DPool.has _) (IsD.ext e _ _ h0) (by have := sz0; omega)).mono ?_
  rintro _ w45 ⟨yw45, rfl, fw45, ew45⟩
  have hbw1 := hbw1.ext ew45
  have hbw27 := hbw27.ext ew45
  have fw12 := fw12.ext ew45
  have fw17_0 := fw17_0.ext ew45
  have fw23 := fw23.ext ew45
  have fw33_0 := fw33_0.ext ew45
  have e := Only.trans e ew45
  have zw45 := ew45.size
  have hiyw45 := fw45.is
  obtain ⟨ryw45_0, ryw45_1_1, rfl, _, _, _, _⟩ := cells_Pool hiyw45
  refine ⟨ryw45_0, _, ryw45_1_1, rfl, ?_⟩
  refine ⟨⟨ryw23_0, hbw27.cell 0, _, hbw27.cell 1, ryw23_1_1, hbw27.cell 2, rfl⟩, ?_⟩
  refine (c36 (DPool.has _) fw23.is fw45.is).mono ?_
  rintro _ w53 ⟨rfl, ew53⟩
  have hbw1 := hbw1.ext ew53
  have hbw27 := hbw27.ext ew53
  have fw12 := fw12.ext ew53
  have fw17_0 := fw17_0.ext ew53
  have fw23 := fw23.ext ew53
  have fw33_0 := fw33_0.ext ew53
  have fw45 := fw45.ext ew53
  have e := Only.trans e ew53
  have zw53 := ew53.size
  refine ⟨_, rfl, ?_⟩
  refine BIf.f rfl ?_
  refine ⟨ryw23_0, hbw27.cell 0, ?_⟩
  refine ⟨_, hbw27.cell 1, ?_⟩
  refine ⟨ryw23_1_1, hbw27.cell 2, ?_⟩
  obtain ⟨bsw59, oww59, ndw59, rgw59⟩ := fw23
  refine (c39 (DPool.has _) oww59 ndw59 (by omega) (by have := sz0; have := pool_cnt sz0; (try simp only [Dat.cntT, Dat.cntTs] at *); omega)).mono ?_
  rintro _ w59 ⟨rfl, dw59, cnw59, hsw59, mkw59, oww59, ow59⟩
  have hbw1 := hbw1.only ow59 (fun hk => by have := rgw59 _ hk; omega)
  have hbw27 := hbw27.only ow59 (fun hk => by have := rgw59 _ hk; omega)
  have fw12 := fw12.only ow59 (fun k h1 h2 hk => by have := rgw59 k hk; omega)
  have fw17_0 := fw17_0.only ow59 (fun k h1 h2 hk => by have := rgw59 k hk; omega)
  have fw33_0 := fw33_0.only ow59 (fun k h1 h2 hk => by have := rgw59 k hk; omega)
  have fw45 := fw45.only ow59 (fun k h1 h2 hk => by have := rgw59 k hk; omega)
  have e := Ext.own e ow59 (fun k hk => by have := rgw59 k hk; omega)
  have zw59 := ow59.size
  have fw59 : Fr _ _ w59 dw59 _ := ⟨bsw59, oww59, ndw59, rgw59⟩
  refine ⟨_, rfl, ?_⟩
  refine JoinW.each ?_
  refine BIf.f (decide_eq_false (by omega)) ?_
  refine (c43 (pages_has x root) fw33_0.is fw17_0.is).mono ?_
  rintro _ w88 ⟨rfl, ew88⟩
  have hbw1 := hbw1.ext ew88
  have hbw27 := hbw27.ext ew88
  have fw12 := fw12.ext ew88
  have fw17_0 := fw17_0.ext ew88
  have fw33_0 := fw33_0.ext ew88
  have fw45 := fw45.ext ew88
  have fw59 := fw59.ext ew88
  have e := Only.trans e ew88
  have zw88 := ew88.size
  refine ⟨_, rfl, ?_⟩
  refine BIf.f (by first | (simp; done) | (simp; omega)) ?_
  obtain ⟨bsw65, oww65, ndw65, rgw65⟩ := fw33_0
  refine (c44 (pages_has x root) oww65 ndw65 (by omega) (by have := pages_cnt (root := root) h0 sz0; omega)).mono ?_
  rintro _ w65 ⟨rfl, dw65, _, cnw65, hsw65, mkw65, oww65, ow65⟩
  have hbw1 := hbw1.only ow65 (fun hk => by have := rgw65 _ hk; omega)
  have hbw27 := hbw27.only ow65 (fun hk => by have := rgw65 _ hk; omega)
  have fw12 := fw12.only ow65 (fun k h1 h2 hk => by have := rgw65 k hk; omega)
  have fw17_0 := fw17_0.only ow65 (fun k h1 h2 hk => by have := rgw65 k hk; omega)
  have fw45 := fw45.only ow65 (fun k h1 h2 hk => by have := rgw65 k hk; omega)
  have fw59 := fw59.only ow65 (fun k h1 h2 hk => by have := rgw65 k hk; omega)
  have e := Ext.own e ow65 (fun k hk => by have := rgw65 k hk; omega)
  have zw65 := ow65.size
  have fw65 : Fr _ _ w65 (.sl 3 dw65) _ := ⟨bsw65, oww65, ndw65, rgw65⟩
  refine ⟨_, rfl, ?_⟩
  refine (c45 hsw65 fw65.is mkw65 (by omega) (by have := cnw65; have := pages_cnt (root := root) h0 sz0; omega)).mono ?_
  rintro _ w68 ⟨rfl, ew68⟩
  have hbw1 := hbw1.ext ew68
  have hbw27 := hbw27.ext ew68
  have fw12 := fw12.ext ew68
  have fw17_0 := fw17_0.ext ew68
  have fw45 := fw45.ext ew68
  have fw59 := fw59.ext ew68
  have fw65 := fw65.ext ew68
  have e := Only.trans e ew68
  have zw68 := ew68.size
  refine ⟨_, rfl, ?_⟩
  refine BIf.f (decide_eq_false (by omega)) ?_
  refine BIf.f (by first | (simp; done) | (simp; omega)) ?_
  refine ⟨p0_0, hbw1.cell 0, ?_⟩
  refine ⟨_, hbw1.cell 1, ?_⟩
  refine ⟨p0_1_1, hbw1.cell 2, ?_⟩
  refine (c34 (DPool.has _) (IsD.ext e _ _ h0) (by have := sz0; omega)).mono ?_
  rintro _ w74 ⟨yw74, rfl, fw74, ew74⟩
  have hbw1 := hbw1.ext ew74
  have hbw27 := hbw27.ext ew74
  have fw12 := fw12.ext ew74
  have fw17_0 := fw17_0.ext ew74
  have fw45 := fw45.ext ew74
  have fw59 := fw59.ext ew74
  have fw65 := fw65.ext ew74
  have e := Only.trans e ew74
  have zw74 := ew74.size
  have hiyw74 := fw74.is
  obtain ⟨ryw74_0, ryw74_1_1, rfl, _, _, _, _⟩ := cells_Pool hiyw74
  refine ⟨ryw74_0, _, ryw74_1_1, rfl, ?_⟩
  refine (implSpacePages (root := root) fw74.is sz0).mono ?_
  rintro _ w79 ⟨yw79_0, rfl, fw79_0, ew79⟩
  have hbw1 := hbw1.ext ew79
  have hbw27 := hbw27.ext ew79
  have fw12 := fw12.ext ew79
  have fw17_0 := fw17_0.ext ew79
  have fw45 := fw45.ext ew79
  have fw59 := fw59.ext ew79
  have fw65 := fw65.ext ew79
  have fw74 := fw74.ext ew79
  have e := Only.trans e ew79
  have zw79 := ew79.size
  refine ⟨yw79_0, rfl, ?_⟩
  refine (c43 (pages_has x root) fw79_0.is fw17_0.is).mono ?_
  rintro _ w82 ⟨rfl, ew82⟩
  have hbw1 := hbw1.ext ew82
  have hbw27 := hbw27.ext ew82
  have fw12 := fw12.ext ew82
  have fw17_0 := fw17_0.ext ew82
  have fw45 := fw45.ext ew82
  have fw59 := fw59.ext ew82
  have fw65 := fw65.ext ew82
  have fw74 := fw74.ext ew82
  have fw79_0 := fw79_0.ext ew82
  have e := Only.trans e ew82
  have zw82 := ew82.size
  refine ⟨_, rfl, ?_⟩
  refine BIf.f rfl ?_
  refine (c45 hsw65 fw65.is mkw65 (by omega) (by have := cnw65; have := pages_cnt (root := root) h0 sz0; omega)).mono ?_
  rintro _ w85 ⟨rfl, ew85⟩
  have hbw1 := hbw1.ext ew85
  have hbw27 := hbw27.ext ew85
  have fw12 := fw12.ext ew85
  have fw17_0 := fw17_0.ext ew85
  have fw45 := fw45.ext ew85
  have fw59 := fw59.ext ew85
  have fw65 := fw65.ext ew85
  have fw74 := fw74.ext ew85
  have fw79_0 := fw79_0.ext ew85
  have e := Only.trans e ew85
  have zw85 := ew85.size
  refine ⟨_, rfl, ?_⟩
  refine BIf.f (decide_eq_false (by omega)) ?_
  refine BIf.f (by first | (simp; done) | (simp; omega)) ?_
  exact ⟨by trivial, e⟩
open Go.RowKit in
theorem law_calls7 {w : World} {c0 : Array Value} {x : DPool} (h0 : cDPool.is w c0.toList x) {root : Int} (wf1 : (Lit.int .i64 root).wf = true) : Calls Try.prog 7 #[.agg c0, .int .i64 root] w (fun e w' => e = .returned (.bool true) ∧ Below w.heap.size w w') :=
  (walk7 (cDPool_dat h0) (root := root) wf1).mono (by rintro e w' ⟨v, rfl, rfl, he⟩; exact ⟨rfl, he.below⟩)
end Go.Proofs.Ytkgoanjemhbjgaa

/- The row of the law FnExactSpacePages: what its walk shows is what the statement says. Conditions: none. -/
namespace Go.Proofs.Ytkgoanjemhbjgaa.fnExactSpacePages
open Go.ChangeShapes Go.WideShapes Go.ChangeAt Go.RowKit
open Go.ChangeMaps (open_string shut_string)
set_option linter.unusedVariables false
theorem own : ownKnob Try.prog.godebug = none := by kernel_rfl
theorem laidOut : laidOutB Try.prog = true := by kernel_rfl
set_option maxRecDepth 100000 in
theorem lifted (os : Os) (started : os.Started) (H : Type) (enc : TypeId × Value → H) :
    ReturnsInHanded {} Try.checked os 7 .any (Rows.fnExactSpacePagesSpec.pre6 enc Try.prog Try.f7 Rows.fnExactSpacePagesRow.domain false) (Rows.fnExactSpacePagesSpec.post enc Try.prog Try.f7 false true false false) := by
  refine returnsInHanded_of_change_sized (C := Try.checked) own started (by kernel_rfl) Try.func7
    (ChangeSpec.witness6 (enc := enc) (C := Try.checked) false ⟨#[], #[.agg #[.slice none 0 0, .int .i64 0, .slice none 0 0], .int .i64 0], []⟩ 8 (by kernel_rfl) (by kernel_rfl) (by kernel_rfl) (by kernel_rfl)) ?_
  intro W base args ds gs before hval0 hW hcnd hsz0 _
  have hsz : (DataW.weightsEach Try.prog (Try.f7.params.toList ++ Rows.fnExactSpacePagesSpec.plain.varTypes Try.prog) (ds ++ gs)).all (· ≤ reachBytes) = true := hsz0
  have hval : ∀ (j : Nat) t v, Try.f7.params[j]? = some t → args[j]? = some v → Value.okWide Try.prog W .any base t v := hval0
  have hW' := hW
  obtain ⟨p, q, hA0, hV, rfl, hfz, hnd⟩ := hW
  have hA : DataW.TrodAll enc Try.prog W 0 (fun _ => true) true Try.f7.params.toList args.toList ds p := hA0
  rw [Try.params7] at hA hval hsz
  obtain ⟨v0, vs0, d0, ds0, p0, q0, hargs, rfl, rfl, h0, r0⟩ := trodAll_cons hA
  obtain ⟨v1, vs1, d1, ds1, p1, q1, rfl, rfl, rfl, h1, r1⟩ := trodAll_cons r0
  obtain ⟨rfl, rfl, rfl⟩ := trodAll_nil r1
  obtain rfl : args = #[v0, v1] := by cases args; simp_all
  obtain ⟨rfl, rfl⟩ := trodVars_none hV
  have k0 := h0
  have lt0 : ∀ x ∈ p0, x.block < W.heap.size := by obtain ⟨m, hm⟩ := k0; exact DataW.trod_lt m _ _ _ hm
  obtain ⟨c0, rfl⟩ : ∃ cs, v0 = .agg cs := by have hv := (hval 0 58 v0 rfl rfl); unfold Value.okWide at hv; rw [Try.underlying58] at hv; exact ⟨hv.choose, hv.choose_spec.1⟩
  obtain ⟨x0, w0⟩ : ∃ x, (cDPool).is W c0.toList x := by obtain ⟨fuel, hf⟩ := h0; exact ((o58).at_ enc W fuel _ _ hf).2
  obtain ⟨a1, rfl, rfl, rfl, w1⟩ := open_int Try.underlying2 (hval 1 2 v1 rfl rfl) h1
  clear hA0 hval0 hsz0 hsz
  refine (law_calls7 w0 w1).mono fun e W' ⟨he, bel⟩ => ?_
  subst he
  exact ⟨_, rfl, _, _, _, [], _, [], hW', trodAll_mk1 (shut_bool Try.underlying4 _), (trodAll_cons_mk (Below.trod laidOut (by kernel_rfl) (of_decide_eq_true (by kernel_rfl)) k0 bel lt0) (trodAll_cons_mk (shut_int Try.underlying2 w1) trodAll_mk0)), rfl, bel.frame _, fun h => by cases h⟩
theorem over : Rows.fnExactSpacePagesRow.holds Try.pinned (OpenSpec.ofChange Rows.fnExactSpacePagesSpec) :=
  OpenClaim.holds_of_wide 7 Try.f7 rfl rfl rfl rfl rfl rfl rfl ⟨rfl, rfl, rfl, rfl, rfl⟩ rfl rfl rfl rfl rfl (by kernel_rfl) Try.func7 (by kernel_rfl)
    (of_decide_eq_true (by kernel_rfl)) (by unfold Func.isWrapper; first | (rw [if_pos (by decide +kernel)]; kernel_rfl) | (rw [if_neg (by decide +kernel)]; exact ⟨rfl, rfl⟩))
    (fun os started H enc _ => lifted os started H enc)
theorem proved : Rows.FnExactSpacePagesSaid := over
#print axioms proved
end Go.Proofs.Ytkgoanjemhbjgaa.fnExactSpacePages
namespace Go.Proofs.Ytkgoanjemhbjgaa
/-- The row, under a short name, for the claim. -/
theorem fnExactSpacePages_holds : Rows.FnExactSpacePagesSaid := fnExactSpacePages.proved
end Go.Proofs.Ytkgoanjemhbjgaa
