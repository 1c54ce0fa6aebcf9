/- Part 4 of 4: plain readings of code, rules for them, and a proof over them, joined by a program. Conditions: none. -/
import Derived.Test.YtkgoanjemhbjgaaHP3
import Derived.Test.YtkgoanjemhbjgaaRows
import Derived.WalkKit
import Derived.ProofKit
import Derived.OpenShut
import Derived.ShutString
import Derived.ChangeOld
import Derived.Below
import Derived.Carry
import Derived.SizedLaws
/- FnHeapApart: the draws. Conditions: none. -/
set_option linter.unusedVariables false
set_option linter.unusedSimpArgs false
namespace Go.Proofs.Ytkgoanjemhbjgaa
open Go Go.Den
theorem s62 {w0 w : World} {F : List Asr} {cb : Nat} {s : Sl} (h : SH w0 w (aC cb s :: F)) (hb : CurB w0 s) :
    CallW Try.prog 62 #[.pointer (some ⟨cb, 0, none⟩)] w (fun v w' => ∃ n : Int, v = .int .i64 n ∧ SH w0 w' (aC cb s :: F)) := by
  refine go62 ?_
  unfold W62
  refine (s63 h 0 rfl hb).mono ?_
  rintro _ w2 ⟨n3, rfl, ⟨pa, pb⟩, h⟩
  refine ⟨n3, rfl, (s135 h 0 rfl hb).mono ?_⟩
  rintro _ w5 ⟨b6, rfl, h⟩
  refine ⟨b6, rfl, BIf.of (fun _ => ?_) (fun _ => ⟨_, rfl, h⟩)⟩
  refine h.alloc (fun w7 h e7 n7 => ?_)
  have h : SH w0 w7 (aI w5.heap.size 4 (fun _ => True) :: aC cb s :: F) := h.toI 0 [-8, 4, 65536, 65544] rfl rfl (fun _ _ => trivial)
  refine (s63 h 1 rfl hb).mono ?_
  rintro _ w9 ⟨n10, rfl, ⟨qa, qb⟩, h⟩
  obtain ⟨k10, rfl⟩ := Int.eq_ofNat_of_zero_le qa
  refine ⟨_, rfl, by omega, by omega, _, rfl, ?_⟩
  try simp only [Int.toNat_natCast]
  refine h.rIx 0 rfl (by omega) (fun n14 _ => ?_)
  exact ⟨_, rfl, h.drop⟩
structure HOp where
  Kind : Int
  At : Int
  N : Int
def HOp.cells (x : HOp) : List Value := [.int .i64 x.Kind, .int .i64 x.At, .int .i64 x.N]
abbrev oV (o : HOp) : Value := .agg #[.int .i64 o.Kind, .int .i64 o.At, .int .i64 o.N]
abbrev Z3 : List Value := [.int .i64 0, .int .i64 0, .int .i64 0]
theorem s64 {w0 w : World} {F : List Asr} {cb : Nat} {s t : Sl} {sz : Int} {l : List HSpan} (h : SH w0 w (aC cb s :: RH t l :: F)) (hb : CurB w0 s) (hf : l.length ≤ 512) :
    CallW Try.prog 64 #[.pointer (some ⟨cb, 0, none⟩), hV sz t] w (fun v w' => ∃ o : HOp, v = oV o ∧ SH w0 w' (aC cb s :: RH t l :: F)) := by
  refine go64 ?_
  unfold W64
  have htl := h.len 1 rfl
  rw [recs_len] at htl
  refine h.alloc (fun w1 h e1 n1 => ?_)
  refine h.alloc (fun w2 h e2 n2 => ?_)
  refine h.alloc (fun w3 h e3 n3 => ?_)
  have h : SH w0 w3 (aI w2.heap.size 8 (fun _ => True) :: aB w1.heap.size (Z3.map Ce.v) :: BH w.heap.size sz t :: aC cb s :: RH t l :: F) := h.toI 0 [1, 1, 1, 2, 3, 3, 4, 5] rfl rfl (fun _ _ => trivial)
  refine (s63 h 3 rfl hb).mono ?_
  rintro _ w5 ⟨n6, rfl, ⟨pa, pb⟩, h⟩
  obtain ⟨k6, rfl⟩ := Int.eq_ofNat_of_zero_le pa
  refine ⟨_, rfl, by omega, by omega, _, rfl, ?_⟩
  try simp only [Int.toNat_natCast]
  refine h.rIx 0 rfl (by omega) (fun n8 _ => ?_)
  refine (s63 h 3 rfl hb).mono ?_
  rintro _ w10 ⟨n11, rfl, _, h⟩
  refine ⟨n11, rfl, ?_⟩
  refine JoinW.cut1 (fun (n : Int) w' => SH w0 w' (aI w2.heap.size 8 (fun _ => True) :: aB w1.heap.size (Z3.map Ce.v) :: BH w.heap.size sz t :: aC cb s :: RH t l :: F)) ?_ ?_
  · refine (s135 h 3 rfl hb).mono ?_
    rintro _ w53 ⟨b54, rfl, h⟩
    refine ⟨b54, rfl, BIf.of (fun _ => ?_) (fun _ => h)⟩
    refine (s63 h 3 rfl hb).mono ?_
    rintro _ w56 ⟨n57, rfl, _, h⟩
    exact ⟨n57, rfl, h⟩
  clear h
  rintro (n12 : Int) w14 h
  refine JoinW.cut1 (fun (n : Int) w' => SH w0 w' (aI w2.heap.size 8 (fun _ => True) :: aB w1.heap.size (Z3.map Ce.v) :: BH w.heap.size sz t :: aC cb s :: RH t l :: F)) ?_ ?_
  · refine (s135 h 3 rfl hb).mono ?_
    rintro _ w44 ⟨b45, rfl, h⟩
    refine ⟨b45, rfl, BIf.of (fun _ => ?_) (fun _ => h)⟩
    refine h.alloc (fun w46 h e46 n46 => ?_)
    have h : SH w0 w46 (aI w44.heap.size 5 (fun _ => True) :: aI w2.heap.size 8 (fun _ => True) :: aB w1.heap.size (Z3.map Ce.v) :: BH w.heap.size sz t :: aC cb s :: RH t l :: F) := h.toI 0 [-1, 0, 65536, 65537, 4611686018427387904] rfl rfl (fun _ _ => trivial)
    refine (s63 h 4 rfl hb).mono ?_
    rintro _ w48 ⟨n49, rfl, ⟨qa, qb⟩, h⟩
    obtain ⟨k49, rfl⟩ := Int.eq_ofNat_of_zero_le qa
    refine ⟨_, rfl, by omega, by omega, _, rfl, ?_⟩
    try simp only [Int.toNat_natCast]
    refine h.rIx 0 rfl (by omega) (fun n51 _ => ?_)
    exact h.drop
  clear h
  rintro (n15 : Int) w17 h
  refine (s63 h 3 rfl hb).mono ?_
  rintro _ w19 ⟨n20, rfl, _, h⟩
  refine ⟨n20, rfl, ?_⟩
  refine JoinW.cut1 (fun (n : Int) w' => SH w0 w' (aI w2.heap.size 8 (fun _ => True) :: aB w1.heap.size (Z3.map Ce.v) :: BH w.heap.size sz t :: aC cb s :: RH t l :: F)) ?_ ?_
  · refine ⟨t, h.cell 2 rfl rfl, ?_⟩
    refine JoinW.cut1 (fun (b : Bool) w' => (b = true → 0 < l.length) ∧ SH w0 w' (aI w2.heap.size 8 (fun _ => True) :: aB w1.heap.size (Z3.map Ce.v) :: BH w.heap.size sz t :: aC cb s :: RH t l :: F)) ?_ ?_
    · refine BIf.dec (fun hpos => ?_) (fun _ => ⟨(fun e => by cases e), h⟩)
      refine (s135 h 3 rfl hb).mono ?_
      rintro _ w41 ⟨b42, rfl, h⟩
      exact ⟨b42, rfl, fun _ => by omega, h⟩
    clear h
    rintro (b29 : Bool) w31 ⟨hpos, h⟩
    refine BIf.of (fun hb1 => ?_) (fun _ => h)
    have hpos := hpos hb1
    have h := h.drew
    refine ⟨t, h.cell 2 rfl rfl, t, h.cell 2 rfl rfl, (s63 h 3 rfl hb).mono ?_⟩
    rintro _ w35 ⟨n36, rfl, ⟨qa, qb⟩, h⟩
    obtain ⟨k36, rfl⟩ := Int.eq_ofNat_of_zero_le qa
    have hget : l[k36]? = some l[k36] := List.getElem?_eq_getElem (by omega)
    obtain ⟨q, hq⟩ := h.rowQ 4 rfl hget
    refine ⟨_, rfl, ⟨t, h.cell 2 rfl rfl, rfl⟩, by omega, by omega, q, hq, ?_⟩
    try simp only [Int.toNat_natCast]
    exact ⟨_, h.rdR 4 rfl hq hget rfl, h⟩
  clear h
  rintro (n21 : Int) w23 h
  refine h.put 1 rfl rfl rfl (fun w24 h n24 => ?_)
  exact ⟨_, h.cell 1 rfl rfl, _, h.cell 1 rfl rfl, _, h.cell 1 rfl rfl, ⟨n8, n21, n15⟩, rfl, h.drop.drop.drop⟩
theorem c137 {b : Bool} {w : World} : CallW Try.prog 137 #[.bool b] w (fun v w' => ∃ n : Int, v = .int .i64 n ∧ w' = w) := by
  refine go137 ?_
  unfold W137
  exact BIf.of (fun _ => ⟨_, rfl, rfl⟩) (fun _ => ⟨_, rfl, rfl⟩)
/-- The reference's HeapStat answers. -/
theorem c138 {w : World} {sz : Int} {t : Sl} {l : List HSpan} (hl : HAt w t l) (hi : HInv sz l) : CallW Try.prog 138 #[hV sz t] w (fun v w' => ∃ a b c d : Int, v = .agg #[.int .i64 a, .int .i64 b, .int .i64 c, .int .i64 d] ∧ Ext w w') := by
  refine go138 ?_
  unfold W138
  have htl := hl.tl
  have hf := hi.few
  have hs := hi.sz
  have h := SH.start w
  refine h.alloc (fun w1 h e1 n1 => ?_)
  refine h.alloc (fun w2 h e2 n2 => ?_)
  refine ⟨_, h.cell 1 rfl rfl, t, h.cell 1 rfl rfl, (c15 (hl.ext h.ext) hi.ch hf).mono ?_⟩
  rintro _ w6 ⟨rfl, e6⟩
  have h := h.to e6
  refine ⟨_, rfl, BIf.f (by rw [decide_eq_true hs]; rfl) ?_⟩
  refine ⟨t, h.cell 1 rfl rfl, ?_⟩
  refine h.alloc (fun w14 h e14 n14 => ?_)
  refine h.put 0 rfl rfl rfl (fun w15 h n15 => ?_)
  refine LoopW.m2 (fun (e i : Int) w' => ∃ (k : Nat) (U L G : Int), i = k ∧ k ≤ l.length + 1 ∧ SH w w' [aB w6.heap.size (([.int .i64 U, .int .i64 L, .int .i64 G, .int .i64 (t.len : Int)] : List Value).map Ce.v), aB w1.heap.size (([.int .i64 0, .int .i64 0, .int .i64 0, .int .i64 0] : List Value).map Ce.v), BH w.heap.size sz t]) (fun _ (i : Int) _ => (l.length + 1 - i).toNat) ⟨0, 0, 0, 0, rfl, by omega, h⟩ ?_
  clear h
  rintro (e i : Int) w19 ⟨k, U, L, G, rfl, hk, h⟩ J hJ
  refine ⟨t, h.cell 2 rfl rfl, BIf.dec (fun hle => ?_) (fun hgt => ?_)⟩
  · simp only [Int.toNat_natCast]
    rw [w64 (n := (k : Int) + 1) (by omega) (by omega)]
    refine ⟨_, h.cell 2 rfl rfl, ?_⟩
    refine JoinW.cut1 (fun (e : Int) w' => w' = w19) ?_ ?_
    · refine ⟨t, h.cell 2 rfl rfl, BIf.dec (fun hlt => ?_) (fun _ => rfl)⟩
      have hget : l[k]? = some l[k] := List.getElem?_eq_getElem (by omega)
      obtain ⟨q, hq, hcell⟩ := (hl.ext h.ext).get hget
      exact ⟨t, h.cell 2 rfl rfl, by omega, by omega, q, hq, _, hcell 0 _ rfl, rfl⟩
    rintro (n22 : Int) w24 rfl
    refine ⟨_, h.cell 0 rfl rfl, ?_⟩
    refine h.setV 0 rfl rfl (fun w26 h n26 => ?_)
    generalize IntKind.i64.wrap (IntKind.i64.wrap (L + n22) - e) = L2 at *
    refine JoinW.cut0 (fun w' => ∃ G2 : Int, SH w w' [aB w6.heap.size (([.int .i64 U, .int .i64 L2, .int .i64 G2, .int .i64 (t.len : Int)] : List Value).map Ce.v), aB w1.heap.size (([.int .i64 0, .int .i64 0, .int .i64 0, .int .i64 0] : List Value).map Ce.v), BH w.heap.size sz t]) ?_ ?_
    · refine ⟨_, h.cell 0 rfl rfl, BIf.dec (fun _ => ?_) (fun _ => ⟨G, h⟩)⟩
      exact h.setV 0 rfl rfl (fun w34 h n34 => ⟨_, h⟩)
    clear h
    rintro w28 ⟨G2, h⟩
    refine ⟨t, h.cell 2 rfl rfl, BIf.dec (fun hlt => ?_) (fun _ => hJ _ _ _ ⟨k + 1, U, L2, G2, by omega, by omega, h⟩ (by omega))⟩
    have hget : l[k]? = some l[k] := List.getElem?_eq_getElem (by omega)
    obtain ⟨q, hq, hcell⟩ := (hl.ext h.ext).get hget
    exact ⟨t, h.cell 2 rfl rfl, by omega, by omega, q, hq, _, hcell 1 _ rfl, hJ _ _ _ ⟨k + 1, U, L2, G2, by omega, by omega, h⟩ (by omega)⟩
  · refine ⟨_, h.cell 2 rfl rfl, _, h.cell 0 rfl rfl, ?_⟩
    refine h.setV 0 rfl rfl (fun w41 h n41 => ?_)
    refine ⟨_, h.cell 0 rfl rfl, _, h.cell 0 rfl rfl, _, h.cell 0 rfl rfl, _, h.cell 0 rfl rfl, ?_⟩
    refine h.put 1 rfl rfl rfl (fun w46 h n46 => ?_)
    exact ⟨_, h.cell 1 rfl rfl, _, h.cell 1 rfl rfl, _, h.cell 1 rfl rfl, _, h.cell 1 rfl rfl, _, _, _, _, rfl, h.ext⟩
set_option maxHeartbeats 1000000 in
/-- One step of a drawn run. -/
theorem s65 {w0 w : World} {F : List Asr} {t : Sl} {sz : Int} {l : List HSpan} {o : HOp} (h : SH w0 w (RH t l :: F)) (hi : HInv sz l) :
    CallW Try.prog 65 #[hV sz t, oV o] w (fun v w' => ∃ (l' : List HSpan) (t' : Sl) (x : Int), v = .tuple #[hV sz t', .int .i64 x] ∧ HInv sz l' ∧ SH w0 w' (RH t' l' :: F)) := by
  refine go65 ?_
  unfold W65
  refine h.alloc (fun w1 h e1 n1 => ?_)
  refine h.alloc (fun w2 h e2 n2 => ?_)
  refine h.alloc (fun w3 h e3 n3 => ?_)
  have h : SH w0 w3 (ZH w2.heap.size :: aB w1.heap.size (o.cells.map Ce.v) :: BH w.heap.size sz t :: RH t l :: F) := h
  refine ⟨_, h.cell 1 rfl rfl, ?_⟩
  refine JoinW.cut1 (fun (b : Bool) w' => b = decide (o.N < 0 ∨ 65536 < o.N) ∧ w' = w3) (BIf.dec (fun h1 => ⟨(decide_eq_true (.inl h1)).symm, rfl⟩) (fun h1 => ⟨_, h.cell 1 rfl rfl, by rw [Bool.eq_iff_iff]; simp [h1], rfl⟩)) ?_
  rintro (b : Bool) w7 ⟨rfl, rfl⟩
  refine ⟨_, h.cell 1 rfl rfl, ?_⟩
  refine JoinW.cut1 (fun (b : Bool) w' => b = decide (o.Kind = 1 ∧ 0 ≤ o.N ∧ o.N ≤ 65536) ∧ w' = w7) (BIf.eq (fun h1 => ⟨by rw [Bool.eq_iff_iff]; simp [h1], rfl⟩) (fun h1 => ⟨by rw [Bool.eq_iff_iff]; simp [h1], rfl⟩)) ?_
  rintro (b : Bool) w11 ⟨rfl, rfl⟩
  refine BIf.dec (fun hc => ?_) (fun _ => ?_)
  · refine ⟨_, h.cell 2 rfl rfl, t, h.cell 2 rfl rfl, _, h.cell 1 rfl rfl, (s17 (hatOf h 3 rfl) hi hc.2.1 hc.2.2).mono ?_⟩
    rintro _ w16 ⟨t1, rfl, g⟩
    have h := h.seq g
    refine ⟨_, t1, _, rfl, ?_⟩
    refine h.put 1 rfl rfl rfl (fun w20 h n20 => ?_)
    exact ⟨_, h.cell 1 rfl rfl, t1, h.cell 1 rfl rfl, _, t1, _, rfl, (takeH_ok hi hc.2.1 hc.2.2).1, ((((h.dropAt 4).dropAt 3).dropAt 2).dropAt 1)⟩
  refine ⟨_, h.cell 1 rfl rfl, BIf.eq (fun hc => ?_) (fun _ => ?_)⟩
  · refine ⟨_, h.cell 2 rfl rfl, t, h.cell 2 rfl rfl, _, h.cell 1 rfl rfl, (s21 (hatOf h 3 rfl) hi).mono ?_⟩
    rintro _ w28 ⟨t1, rfl, g⟩
    have h := h.seq g
    refine ⟨_, t1, _, rfl, ?_⟩
    refine h.alloc (fun w32 h e32 n32 => ?_)
    refine h.put 0 rfl rfl rfl (fun w33 h n33 => ?_)
    have h := h.drew
    refine ⟨_, h.cell 0 rfl rfl, t1, h.cell 0 rfl rfl, c137.mono ?_⟩
    rintro _ w37 ⟨n38, rfl, rfl⟩
    refine ⟨n38, rfl, ⟨_, h.cell 0 rfl rfl, t1, h.cell 0 rfl rfl, rfl⟩, ?_⟩
    refine h.put 2 rfl rfl rfl (fun w41 h n41 => ?_)
    exact ⟨_, h.cell 2 rfl rfl, t1, h.cell 2 rfl rfl, _, t1, _, rfl, (giveH_ok hi).1, (((((h.dropAt 5).dropAt 4).dropAt 3).dropAt 2).dropAt 0)⟩
  refine ⟨_, h.cell 1 rfl rfl, ?_⟩
  refine JoinW.cut1 (fun (b : Bool) w' => b = decide (o.Kind = 3 ∧ 0 ≤ o.N ∧ o.N ≤ 65536) ∧ w' = w11) (BIf.eq (fun h1 => ⟨by rw [Bool.eq_iff_iff]; simp [h1], rfl⟩) (fun h1 => ⟨by rw [Bool.eq_iff_iff]; simp [h1], rfl⟩)) ?_
  rintro (b : Bool) w47 ⟨rfl, rfl⟩
  refine BIf.dec (fun hc => ?_) (fun _ => ?_)
  · refine ⟨_, h.cell 2 rfl rfl, t, h.cell 2 rfl rfl, _, h.cell 1 rfl rfl, _, h.cell 1 rfl rfl, (s19 (hatOf h 3 rfl) hi hc.2.1 hc.2.2).mono ?_⟩
    rintro _ w53 ⟨t1, rfl, g⟩
    have h := h.seq g
    refine ⟨_, t1, _, rfl, ?_⟩
    refine h.put 1 rfl rfl rfl (fun w57 h n57 => ?_)
    exact ⟨_, h.cell 1 rfl rfl, t1, h.cell 1 rfl rfl, _, t1, _, rfl, (resizeH_ok hi hc.2.1 hc.2.2).1, ((((h.dropAt 4).dropAt 3).dropAt 2).dropAt 1)⟩
  refine ⟨_, h.cell 1 rfl rfl, BIf.eq (fun hc => ?_) (fun _ => ?_)⟩
  · have h := h.drew
    refine ⟨_, h.cell 2 rfl rfl, t, h.cell 2 rfl rfl, _, h.cell 2 rfl rfl, t, h.cell 2 rfl rfl, (c138 (hatOf h 3 rfl) hi).mono ?_⟩
    rintro _ w66 ⟨x1, x2, x3, x4, rfl, e66⟩
    have h := h.to e66
    refine ⟨_, _, _, _, rfl, ⟨_, h.cell 2 rfl rfl, t, h.cell 2 rfl rfl, rfl⟩, ?_⟩
    refine h.put 0 rfl rfl rfl (fun w73 h n73 => ?_)
    exact ⟨_, h.cell 0 rfl rfl, t, h.cell 0 rfl rfl, l, t, _, rfl, hi, h.drop.drop.drop⟩
  · refine ⟨_, h.cell 2 rfl rfl, t, h.cell 2 rfl rfl, ?_⟩
    refine h.put 0 rfl rfl rfl (fun w78 h n78 => ?_)
    exact ⟨_, h.cell 0 rfl rfl, t, h.cell 0 rfl rfl, l, t, _, rfl, hi, h.drop.drop.drop⟩
theorem plain_op (x : HOp) : ∀ v, v ∈ x.cells → plainB v = true := fun v hv => by
  simp only [HOp.cells, List.mem_cons, List.not_mem_nil, or_false] at hv
  rcases hv with rfl | rfl | rfl <;> rfl
/-- A heap as it is drawn: empty, or one that can be. -/
def HS (sz : Int) (l : List HSpan) : Prop := l = [] ∨ HInv sz l
theorem HS.ch {sz : Int} {l : List HSpan} (h : HS sz l) : ChH sz 0 l ∧ l.length ≤ 512 := by
  rcases h with rfl | h
  · exact ⟨trivial, by simp⟩
  · exact ⟨h.ch, h.few⟩
theorem HS.inv {sz : Int} {l : List HSpan} (h : HS sz l) (hs : SizeH sz) : HInv sz l := ⟨hs, h.ch.2, h.ch.1⟩
set_option maxHeartbeats 1000000 in
theorem s14 {w0 w : World} {F : List Asr} {s : Sl} (h : SH w0 w F) (hb : CurB w0 s) :
    CallW Try.prog 14 #[.slice s.a s.len s.cap] w (fun v w' => ∃ (sz : Int) (to : Sl) (ops : List HOp), v = .tuple #[.int .i64 sz, .slice to.a to.len to.cap] ∧ ops.length ≤ 30 ∧ SH w0 w' (aRow to 3 (recs HOp.cells ops) :: F)) := by
  refine go14 ?_
  unfold W14
  refine (s61 h hb).mono ?_
  rintro _ w2 ⟨cb, rfl, h⟩
  refine ⟨_, rfl, (s62 h hb).mono ?_⟩
  rintro _ w5 ⟨sz, rfl, h⟩
  refine ⟨sz, rfl, ?_⟩
  refine h.alloc (fun w7 h e7 n7 => ?_)
  refine h.put 0 rfl rfl rfl (fun w8 h n8 => ?_)
  refine (s63 h 1 rfl hb).mono ?_
  rintro _ w10 ⟨n11, rfl, ⟨pa, pb⟩, h⟩
  refine ⟨n11, rfl, ?_⟩
  refine h.alloc (fun w12 h e12 n12 => ?_)
  have h := (h.drop.nil none 2).nil (some ⟨w10.heap.size, 0, none⟩) 3
  have h : SH w0 w12 (aC cb s :: RH ⟨none, 0, 0⟩ [] :: aRow ⟨some ⟨w10.heap.size, 0, none⟩, 0, 0⟩ 3 (recs HOp.cells []) :: BH w5.heap.size sz ⟨none, 0, 0⟩ :: F) := ((h.front (n := 3) rfl).front (n := 2) rfl).front (n := 1) rfl
  refine LoopW.m2 (fun (to : Sl) (n : Int) w' => ∃ (ops : List HOp) (t : Sl) (l : List HSpan) (k : Nat), n = k ∧ k = ops.length ∧ k ≤ 30 ∧ (k : Int) ≤ n11 ∧ HS sz l ∧ SH w0 w' (aC cb s :: RH t l :: aRow to 3 (recs HOp.cells ops) :: BH w5.heap.size sz t :: F)) (fun _ (n : Int) _ => (n11 - n).toNat) ⟨[], _, [], 0, rfl, rfl, by omega, pa, .inl rfl, h⟩ ?_
  clear h
  rintro (to : Sl) (n : Int) w16 ⟨ops, t, l, k, rfl, hk, hk30, hkn, hs, h⟩ J hJ
  refine BIf.dec (fun hlt => ?_) (fun hge => ?_)
  rotate_left
  · exact ⟨sz, to, ops, rfl, by omega, h.drop.drop.dropAt 1⟩
  rw [w64 (n := (k : Int) + 1) (by omega) (by omega)]
  refine ⟨_, h.cell 3 rfl rfl, t, h.cell 3 rfl rfl, (s64 h hb hs.ch.2).mono ?_⟩
  rintro _ w20 ⟨o, rfl, h⟩
  refine ⟨_, _, _, rfl, ?_⟩
  refine h.alloc (fun w24 h e24 n24 => ?_)
  refine h.put 0 rfl rfl rfl (fun w25 h n25 => ?_)
  have h : SH w0 w25 (aB w20.heap.size (o.cells.map Ce.v) :: aC cb s :: RH t l :: aRow to 3 (recs HOp.cells ops) :: BH w5.heap.size sz t :: F) := h
  refine ⟨_, h.cell 0 rfl rfl, _, h.cell 0 rfl rfl, _, h.cell 0 rfl rfl, ?_⟩
  refine LetW_iff.2 (SH.appendR1 (f := HOp.cells) (x := o) (h.front (n := 3) rfl) rfl rfl rfl (by decide) (by show (_ + _) * 24 ≤ _; omega) (plain_op o) (fun to2 w31 h hto2 nw31 => ?_))
  have h : SH w0 w31 (aRow to2 3 (recs HOp.cells (ops ++ [o])) :: aB w20.heap.size (o.cells.map Ce.v) :: aC cb s :: RH t l :: BH w5.heap.size sz t :: F) := h
  refine ⟨_, h.cell 4 rfl rfl, t, h.cell 4 rfl rfl, (c15 (hatOf h 3 rfl) hs.ch.1 hs.ch.2).mono ?_⟩
  rintro _ w35 ⟨rfl, e35⟩
  have h := h.to e35
  refine ⟨_, rfl, BIf.dec (fun hsz => ?_) (fun _ => ?_)⟩
  · have hi := hs.inv hsz
    refine ⟨_, h.cell 4 rfl rfl, t, h.cell 4 rfl rfl, _, h.cell 1 rfl rfl, _, h.cell 1 rfl rfl, _, h.cell 1 rfl rfl, (s65 (o := o) (h.front (n := 3) rfl) hi).mono ?_⟩
    rintro _ w43 ⟨l', t', x, rfl, hi', h⟩
    refine ⟨_, t', x, rfl, ?_⟩
    refine h.alloc (fun w47 h e47 n47 => ?_)
    refine h.put 0 rfl rfl rfl (fun w48 h n48 => ?_)
    refine ⟨_, h.cell 0 rfl rfl, t', h.cell 0 rfl rfl, ?_⟩
    refine h.put 5 rfl rfl rfl (fun w51 h n51 => ?_)
    exact hJ _ _ _ ⟨ops ++ [o], t', l', k + 1, by omega, by simp [hk], by omega, by omega, .inr hi', ((h.drop.dropAt 2).front (n := 2) rfl)⟩ (by omega)
  · exact hJ _ _ _ ⟨ops ++ [o], t, l, k + 1, by omega, by simp [hk], by omega, by omega, hs, (((h.dropAt 1).front (n := 2) rfl).front (n := 2) rfl)⟩ (by omega)
end Go.Proofs.Ytkgoanjemhbjgaa

/- FnHeapApart: the law's walk. Conditions: none. -/
set_option linter.unusedVariables false
set_option linter.unusedSimpArgs false
namespace Go.Proofs.Ytkgoanjemhbjgaa
open Go Go.Den
theorem LoopW.m0 {body : JT [] → JT []} {w : World} (Inv : Nat → World → Prop) {n0 : Nat} (h0 : Inv n0 w) (step : ∀ n w, Inv n w → ∀ J : World → Prop, (∀ n' w', n' < n → Inv n' w' → J w') → (body J : World → Prop) w) : LoopW [] body () w :=
  ⟨fun n w => Inv n w, ⟨_, h0⟩, fun n v w h => step n w h _ (fun n' w' hlt hi => ⟨n', hlt, hi⟩)⟩
theorem hp5 : Opens Try.prog 5 (Go.Den.cInt .u8) := opens_int Try.underlying5
theorem hp22 : Opens Try.prog 22 (Go.Den.cSlice (Go.Den.cInt .u8)) := opens_slice Try.underlying22 (by kernel_rfl) hp5
theorem curb_of {bs : List Int} {w : World} {s : Sl} (h : IsD w (.sl 1 (bs.map (Dat.int .u8))) [.slice s.a s.len s.cap]) (hl : s.len ≤ 1048576) : CurB w s := by
  refine ⟨hl, fun k hk => ?_⟩
  have hlen := (isD_len h).1
  have hget : bs[k]? = some bs[k] := List.getElem?_eq_getElem (by omega)
  obtain ⟨p, es, hp, _, hc, hi⟩ := isD_elem h hget
  obtain ⟨rfl, hwf⟩ := isD_int hi
  have h0 := hc 0 _ rfl
  refine ⟨p, _, hp, h0, ?_⟩
  simp [Lit.wf, IntKind.min, IntKind.max, IntKind.signed, IntKind.bits] at hwf
  omega
theorem goc3 {a0 : Sl} {w : World} {K : Value → World → Prop} (h : W3 a0 w K) : Calls Try.prog 3 #[.slice a0.a a0.len a0.cap] w (fun e w' => ∃ v, e = .returned v ∧ K v w') :=
  denFn_sound tt_ok mix Try.func3 (by kernel_rfl) (eq3 a0 w K ▸ h)
abbrev HO (b : Nat) (o : HOp) : Asr := aB b (o.cells.map Ce.v)
abbrev RO (t : Sl) (ops : List HOp) : Asr := aRow t 3 (recs HOp.cells ops)
set_option maxRecDepth 4000 in
set_option maxHeartbeats 2000000 in
theorem walk3 {w : World} {bs : List Int} {p0 : Sl} (h0 : IsD w (.sl 1 (bs.map (Dat.int .u8))) [.slice p0.a p0.len p0.cap]) : Calls Try.prog 3 #[.slice p0.a p0.len p0.cap] w (fun e w' => ∃ v, e = .returned v ∧ (v = .bool true ∧ Ext w w')) := by
  refine goc3 ?_
  unfold W3
  refine c13.mono ?_
  rintro _ w2 ⟨rfl, rfl⟩
  refine ⟨_, rfl, BIf.dec (fun _ => ⟨rfl, Only.refl _ _⟩) (fun hbig => ?_)⟩
  have hb := curb_of h0 (by omega)
  refine (s14 (SH.start w2) hb).mono ?_
  rintro _ w5 ⟨sz, to, ops, rfl, hol, h⟩
  have hto := h.len 0 rfl
  rw [recs_len] at hto
  refine ⟨sz, to, rfl, ?_⟩
  refine h.alloc (fun w8 h e8 n8 => ?_)
  refine h.put 0 rfl rfl rfl (fun w9 h n9 => ?_)
  have h : SH w2 w9 [RH ⟨none, 0, 0⟩ [], BH w5.heap.size sz ⟨none, 0, 0⟩, RO to ops] := h.nil none 2
  refine ⟨_, h.cell 1 rfl rfl, ⟨none, 0, 0⟩, h.cell 1 rfl rfl, (c15 (hatOf h 0 rfl) trivial (by simp)).mono ?_⟩
  rintro _ w13 ⟨rfl, e13⟩
  have h := h.to e13
  refine ⟨_, rfl, ?_⟩
  by_cases hsz : SizeH sz
  rotate_left
  · rw [decide_eq_false hsz]
    refine BIf.t rfl ?_
    refine JoinW.cut1 (fun (b : Bool) w' => b = decide (sz < 0 ∨ 65536 < sz) ∧ w' = w13) (BIf.dec (fun h1 => ⟨(decide_eq_true (.inl h1)).symm, rfl⟩) (fun h1 => ⟨by rw [Bool.eq_iff_iff]; simp [h1], rfl⟩)) ?_
    rintro (b : Bool) w17 ⟨rfl, rfl⟩
    refine JoinW.cut1 (fun (b : Bool) w' => b = true ∧ w' = w17) (BIf.dec (fun h1 => ⟨rfl, rfl⟩) (fun h1 => ⟨by decide, ?_, rfl⟩)) ?_
    · unfold SizeH at hsz
      rw [tm8 (by omega)]
      simp
      omega
    rintro (b : Bool) w20 ⟨rfl, rfl⟩
    exact ⟨rfl, h.ext⟩
  rw [decide_eq_true hsz]
  refine BIf.f rfl ?_
  obtain ⟨s0, s1, s2⟩ := hsz
  refine LoopW.m1 (fun (i : Int) w' => ∃ (k : Nat) (l : List HSpan) (t : Sl), i = k ∧ k ≤ 60 ∧ HInv sz l ∧ SH w2 w' [RH t l, BH w5.heap.size sz t, RO to ops]) (fun (i : Int) _ => (60 - i).toNat) ⟨0, [], _, rfl, by omega, ⟨⟨s0, s1, s2⟩, by simp, trivial⟩, h⟩ ?_
  clear h
  rintro (i : Int) w23 ⟨k, l, t, rfl, hk, hi, h⟩ J hJ
  refine join_and.2 ?_
  refine BIf.of (fun hc => ?_) (fun hc => ?_)
  · simp only [Bool.and_eq_true, decide_eq_true_eq] at hc
    have hget : ops[k]? = some ops[k] := List.getElem?_eq_getElem (by omega)
    generalize ops[k] = o at *
    obtain ⟨q, hq⟩ := h.rowQ 2 rfl hget
    have hlen := hi.few
    simp only [Int.toNat_natCast]
    rw [w64 (n := (k : Int) + 1) (by omega) (by omega)]
    refine ⟨by omega, by omega, q, hq, _, h.rdR 2 rfl hq hget rfl, _, h.rdR 2 rfl hq hget rfl, _, h.rdR 2 rfl hq hget rfl, ?_⟩
    refine h.alloc (fun w31 h e31 n31 => ?_)
    refine h.put 0 rfl rfl rfl (fun w32 h n32 => ?_)
    have h : SH w2 w32 [HO w23.heap.size o, RH t l, BH w5.heap.size sz t, RO to ops] := h
    have hl0 := h.len 1 rfl
    rw [recs_len] at hl0
    refine ⟨_, h.cell 0 rfl rfl, ?_⟩
    refine JoinW.cut1 (fun (b : Bool) w' => b = decide (o.N < 0 ∨ 65536 < o.N) ∧ w' = w32) (BIf.dec (fun h1 => ⟨(decide_eq_true (.inl h1)).symm, rfl⟩) (fun h1 => ⟨_, h.cell 0 rfl rfl, by rw [Bool.eq_iff_iff]; simp [h1], rfl⟩)) ?_
    rintro (b : Bool) w36 ⟨rfl, rfl⟩
    refine BIf.dec (fun _ => hJ _ _ ⟨k + 1, l, t, by omega, by omega, hi, h.drop⟩ (by omega)) (fun hn => ?_)
    have hn0 : 0 ≤ o.N := by omega
    have hn1 : o.N ≤ 65536 := by omega
    refine ⟨t, h.cell 2 rfl rfl, ?_⟩
    refine JoinW.cut0 (fun w' => ∃ (l' : List HSpan) (t' : Sl), HInv sz l' ∧ SH w2 w' [HO w23.heap.size o, RH t' l', BH w5.heap.size sz t', RO to ops]) ?_ ?_
    · refine ⟨_, h.cell 0 rfl rfl, BIf.eq (fun k1 => ?_) (fun k1 => BIf.eq (fun k3 => ?_) (fun k3 => BIf.eq (fun k2 => ?_) (fun k2 => ⟨l, t, hi, h⟩)))⟩
      · obtain ⟨hi2, hok, hlo, hhi⟩ := takeH_ok hi hn0 hn1
        refine ⟨_, h.cell 2 rfl rfl, t, h.cell 2 rfl rfl, _, h.cell 0 rfl rfl, (s16 (hatOf h 1 rfl) hi hn0 hn1).mono ?_⟩
        generalize hrr : takeH sz l o.N = r at *
        rintro _ w75 ⟨t1, rfl, g⟩
        have h := h.seq g
        refine ⟨_, t1, _, rfl, ?_⟩
        refine h.alloc (fun w79 h e79 n79 => ?_)
        refine h.put 0 rfl rfl rfl (fun w80 h n80 => ?_)
        refine ⟨_, h.cell 4 rfl rfl, t, h.cell 4 rfl rfl, _, h.cell 2 rfl rfl, ?_⟩
        have h17 := s17 (n := o.N) (hatOf h 3 rfl) hi hn0 hn1
        rw [hrr] at h17
        refine h17.mono ?_
        rintro _ w85 ⟨t2, rfl, g⟩
        have h := h.seq g
        refine ⟨_, t2, _, rfl, ?_⟩
        refine h.alloc (fun w89 h e89 n89 => ?_)
        refine h.put 0 rfl rfl rfl (fun w90 h n90 => ?_)
        have h : SH w2 w90 [BH w85.heap.size sz t2, RH t2 r.1, BH w75.heap.size sz t1, RH t1 r.1, HO w23.heap.size o, RH t l, BH w5.heap.size sz t, RO to ops] := h
        have hl1 := h.len 3 rfl
        rw [recs_len] at hl1
        refine BIf.f (by simp) ?_
        refine JoinW.cut1 (fun (b : Bool) w' => b = false ∧ w' = w90) ?_ ?_
        · refine BIf.dec (fun hge => ?_) (fun _ => ⟨rfl, rfl⟩)
          obtain ⟨ho1, ho2⟩ := hok hge
          refine ⟨t1, h.cell 2 rfl rfl, BIf.f ?_ ⟨_, h.cell 4 rfl rfl, ?_, rfl⟩⟩
          · rw [w64 (by omega) (by omega), bne_eq_false_iff_eq]; omega
          · rw [w64 (by omega) (by omega)]; exact decide_eq_false (by omega)
        rintro (b : Bool) w93 ⟨rfl, rfl⟩
        refine BIf.f rfl ⟨_, h.cell 2 rfl rfl, t1, h.cell 2 rfl rfl, ?_⟩
        refine h.put 6 rfl rfl rfl (fun w96 h n96 => ?_)
        exact ⟨r.1, t1, hi2, ((h.drop.drop.drop.dropAt 2).front (n := 1) rfl)⟩
      · obtain ⟨hi2, hok⟩ := resizeH_ok (a := o.At) hi hn0 hn1
        refine ⟨_, h.cell 2 rfl rfl, t, h.cell 2 rfl rfl, _, h.cell 0 rfl rfl, _, h.cell 0 rfl rfl, (s18 (hatOf h 1 rfl) hi hn0 hn1).mono ?_⟩
        generalize hrr : resizeH sz l o.At o.N = r at *
        rintro _ w104 ⟨t1, rfl, g⟩
        have h := h.seq g
        refine ⟨_, t1, _, rfl, ?_⟩
        refine h.alloc (fun w108 h e108 n108 => ?_)
        refine h.put 0 rfl rfl rfl (fun w109 h n109 => ?_)
        refine ⟨_, h.cell 4 rfl rfl, t, h.cell 4 rfl rfl, _, h.cell 2 rfl rfl, _, h.cell 2 rfl rfl, ?_⟩
        have h19 := s19 (a := o.At) (n := o.N) (hatOf h 3 rfl) hi hn0 hn1
        rw [hrr] at h19
        refine h19.mono ?_
        rintro _ w115 ⟨t2, rfl, g⟩
        have h := h.seq g
        refine ⟨_, t2, _, rfl, ?_⟩
        refine h.alloc (fun w119 h e119 n119 => ?_)
        refine h.put 0 rfl rfl rfl (fun w120 h n120 => ?_)
        have h : SH w2 w120 [BH w115.heap.size sz t2, RH t2 r.1, BH w104.heap.size sz t1, RH t1 r.1, HO w23.heap.size o, RH t l, BH w5.heap.size sz t, RO to ops] := h
        have hl1 := h.len 3 rfl
        rw [recs_len] at hl1
        refine BIf.f (by simp) ?_
        refine JoinW.cut1 (fun (b : Bool) w' => b = false ∧ w' = w120) ?_ ?_
        · refine BIf.dec (fun hge => ?_) (fun _ => ⟨rfl, rfl⟩)
          refine ⟨t1, h.cell 2 rfl rfl, ?_, rfl⟩
          rw [bne_eq_false_iff_eq]; omega
        rintro (b : Bool) w123 ⟨rfl, rfl⟩
        refine BIf.f rfl ⟨_, h.cell 2 rfl rfl, t1, h.cell 2 rfl rfl, ?_⟩
        refine h.put 6 rfl rfl rfl (fun w126 h n126 => ?_)
        exact ⟨r.1, t1, hi2, ((h.drop.drop.drop.dropAt 2).front (n := 1) rfl)⟩
      · obtain ⟨hi2, hok⟩ := giveH_ok (a := o.At) hi
        refine ⟨_, h.cell 2 rfl rfl, t, h.cell 2 rfl rfl, _, h.cell 0 rfl rfl, (s20 (hatOf h 1 rfl) hi).mono ?_⟩
        generalize hrr : giveH l o.At = r at *
        rintro _ w132 ⟨t1, rfl, g⟩
        have h := h.seq g
        refine ⟨_, t1, _, rfl, ?_⟩
        refine h.alloc (fun w136 h e136 n136 => ?_)
        refine h.put 0 rfl rfl rfl (fun w137 h n137 => ?_)
        refine ⟨_, h.cell 4 rfl rfl, t, h.cell 4 rfl rfl, _, h.cell 2 rfl rfl, ?_⟩
        have h21 := s21 (a := o.At) (hatOf h 3 rfl) hi
        rw [hrr] at h21
        refine h21.mono ?_
        rintro _ w142 ⟨t2, rfl, g⟩
        have h := h.seq g
        refine ⟨_, t2, _, rfl, ?_⟩
        refine h.alloc (fun w146 h e146 n146 => ?_)
        refine h.put 0 rfl rfl rfl (fun w147 h n147 => ?_)
        have h : SH w2 w147 [BH w142.heap.size sz t2, RH t2 r.1, BH w132.heap.size sz t1, RH t1 r.1, HO w23.heap.size o, RH t l, BH w5.heap.size sz t, RO to ops] := h
        have hl1 := h.len 3 rfl
        rw [recs_len] at hl1
        refine BIf.f (by simp) ?_
        refine JoinW.cut1 (fun (b : Bool) w' => b = false ∧ w' = w147) ?_ ?_
        · refine BIf.of (fun hge => ?_) (fun _ => ⟨rfl, rfl⟩)
          have ho := hok hge
          refine ⟨t1, h.cell 2 rfl rfl, ?_, rfl⟩
          rw [w64 (by omega) (by omega), bne_eq_false_iff_eq]; omega
        rintro (b : Bool) w150 ⟨rfl, rfl⟩
        refine BIf.f rfl ⟨_, h.cell 2 rfl rfl, t1, h.cell 2 rfl rfl, ?_⟩
        refine h.put 6 rfl rfl rfl (fun w153 h n153 => ?_)
        exact ⟨r.1, t1, hi2, ((h.drop.drop.drop.dropAt 2).front (n := 1) rfl)⟩
    · clear h
      rintro w39 ⟨l2, t2, hi2, h⟩
      have hl2 := h.len 1 rfl
      rw [recs_len] at hl2
      refine ⟨_, h.cell 2 rfl rfl, t2, h.cell 2 rfl rfl, (c22 (hatOf h 1 rfl) hi2).mono ?_⟩
      rintro _ w43 ⟨U, L, rfl, u0, u1, l0, l1, _, e43⟩
      have h := h.to e43
      refine ⟨_, _, _, _, rfl, ?_⟩
      refine h.alloc (fun w48 h e48 n48 => ?_)
      refine h.put 0 rfl rfl rfl (fun w49 h n49 => ?_)
      refine ⟨_, h.cell 3 rfl rfl, t2, h.cell 3 rfl rfl, (c15 (hatOf h 2 rfl) hi2.ch hi2.few).mono ?_⟩
      rintro _ w53 ⟨rfl, e53⟩
      have h := h.to e53
      refine ⟨_, rfl, ?_⟩
      rw [decide_eq_true hi2.sz]
      refine JoinW.cut1 (fun (b : Bool) w' => b = false ∧ w' = w53) (BIf.f rfl ⟨_, h.cell 0 rfl rfl, _, h.cell 0 rfl rfl, by rw [w64 (by omega) (by omega), bne_eq_false_iff_eq]; omega, rfl⟩) ?_
      rintro (b : Bool) w57 ⟨rfl, rfl⟩
      refine JoinW.cut1 (fun (b : Bool) w' => b = false ∧ w' = w57) (BIf.f rfl ⟨_, h.cell 0 rfl rfl, _, h.cell 0 rfl rfl, decide_eq_false (by omega), rfl⟩) ?_
      rintro (b : Bool) w60 ⟨rfl, rfl⟩
      refine JoinW.cut1 (fun (b : Bool) w' => b = false ∧ w' = w60) (BIf.f rfl ⟨_, h.cell 0 rfl rfl, t2, h.cell 3 rfl rfl, by rw [bne_eq_false_iff_eq]; omega, rfl⟩) ?_
      rintro (b : Bool) w63 ⟨rfl, rfl⟩
      exact BIf.f rfl (hJ _ _ ⟨k + 1, l2, t2, by omega, by omega, hi2, h.drop.drop⟩ (by omega))
  · -- all is given back
    refine LoopW.m0 (fun n w' => ∃ (l : List HSpan) (t : Sl), n = l.length ∧ HInv sz l ∧ SH w2 w' [RH t l, BH w5.heap.size sz t, RO to ops]) ⟨l, t, rfl, hi, h⟩ ?_
    clear h hi hJ
    rintro n w157 ⟨l, t, rfl, hi, h⟩ J hJ
    have hl0 := h.len 0 rfl
    rw [recs_len] at hl0
    have hf := hi.few
    refine ⟨t, h.cell 1 rfl rfl, BIf.dec (fun hpos => ?_) (fun hzero => ?_)⟩
    · have hmod : Int.tmod (p0.len : Int) (t.len : Int) = ((p0.len % t.len : Nat) : Int) := by rw [Int.tmod_eq_emod_of_nonneg (by omega)]; rfl
      have hlt : p0.len % t.len < l.length := by rw [← hl0]; exact Nat.mod_lt _ (by omega)
      generalize p0.len % t.len = j at *
      have hget : l[j]? = some l[j] := List.getElem?_eq_getElem hlt
      generalize l[j] = x at *
      obtain ⟨i2, hi2⟩ := idxH_mem (List.mem_of_getElem? hget)
      have hi2l := idx_rng hi2
      have hgv : giveH l x.At = (l.eraseIdx i2, true) := by unfold giveH; rw [hi2]
      have hok := (giveH_ok (a := x.At) hi).1
      rw [hgv] at hok
      have hel : (l.eraseIdx i2).length < l.length := by rw [List.length_eraseIdx_of_lt hi2l]; omega
      refine JoinW.cut2 (fun (p : Option Addr) (b : Bool) w' => ∃ (b' : Nat) (t1 : Sl), p = some ⟨b', 0, none⟩ ∧ b = true ∧ SH w2 w' [BH b' sz t1, RH t1 (l.eraseIdx i2), RH t l, BH w5.heap.size sz t, RO to ops]) ?_ ?_
      · have h := h.drew
        obtain ⟨q, hq⟩ := h.rowQ 0 rfl hget
        refine ⟨_, h.cell 1 rfl rfl, t, h.cell 1 rfl rfl, t, h.cell 1 rfl rfl, t, h.cell 1 rfl rfl, ?_⟩
        rw [hmod]
        simp only [Int.toNat_natCast]
        refine ⟨by omega, by omega, by omega, q, hq, _, h.rdR 0 rfl hq hget rfl, ?_⟩
        refine ⟨?_, ?_⟩
        · refine (s20 (hatOf h 0 rfl) hi).mono ?_
          rw [hgv]
          rintro _ w186 ⟨t1, rfl, g⟩
          have h := h.seq g
          refine ⟨_, t1, _, rfl, ?_⟩
          refine ⟨?_, trivial⟩
          refine h.alloc (fun w190 h e190 n190 => ?_)
          refine ⟨⟨_, h.rdR 2 rfl hq hget rfl, rfl⟩, trivial, ⟨t, h.cell 3 rfl rfl, rfl⟩, trivial, ⟨t, h.cell 3 rfl rfl, rfl⟩, ⟨_, h.cell 3 rfl rfl, t, h.cell 3 rfl rfl, rfl⟩, ⟨?_, trivial⟩⟩
          refine h.put 0 rfl rfl rfl (fun w196 h n196 => ?_)
          exact ⟨_, t1, rfl, rfl, h⟩
        · refine ⟨?_, trivial⟩
          refine h.alloc (fun w173 h e173 n173 => ?_)
          refine ⟨⟨_, h.rdR 1 rfl hq hget rfl, rfl⟩, trivial, ⟨t, h.cell 2 rfl rfl, rfl⟩, trivial, ⟨t, h.cell 2 rfl rfl, rfl⟩, ⟨_, h.cell 2 rfl rfl, t, h.cell 2 rfl rfl, rfl⟩, ⟨?_, trivial⟩⟩
          refine (s20 (hatOf h 1 rfl) hi).mono ?_
          rw [hgv]
          rintro _ w180 ⟨t1, rfl, g⟩
          have h := h.seq g
          refine ⟨_, t1, _, rfl, ⟨?_, trivial⟩⟩
          refine h.put 1 rfl rfl rfl (fun w184 h n184 => ?_)
          exact ⟨_, t1, rfl, rfl, h.p1⟩
      clear h
      rintro (p : Option Addr) (b : Bool) w162 ⟨b', t1, rfl, rfl, h⟩
      refine BIf.f rfl (addrOf_mk ⟨_, h.cellP 0 rfl rfl, t1, h.cellP 0 rfl rfl, ?_⟩)
      refine h.put 3 rfl rfl rfl (fun w166 h n166 => ?_)
      exact hJ _ _ hel ⟨_, t1, rfl, hok, h.drop.dropAt 1⟩
    · have hnil : l = [] := List.eq_nil_of_length_eq_zero (by omega)
      refine ⟨_, h.cell 1 rfl rfl, t, h.cell 1 rfl rfl, (c22 (hatOf h 0 rfl) hi).mono ?_⟩
      rintro _ w200 ⟨U, L, rfl, u0, u1, l0, l1, hz, e200⟩
      obtain ⟨rfl, rfl⟩ := hz hnil
      have h := h.to e200
      refine ⟨_, _, _, _, rfl, ?_⟩
      refine h.alloc (fun w205 h e205 n205 => ?_)
      refine h.put 0 rfl rfl rfl (fun w206 h n206 => ?_)
      refine ⟨_, h.cell 0 rfl rfl, ?_⟩
      refine JoinW.cut1 (fun (b : Bool) w' => b = true ∧ w' = w206) (BIf.t rfl ⟨_, h.cell 0 rfl rfl, by simp, rfl⟩) ?_
      rintro (b : Bool) w210 ⟨rfl, rfl⟩
      refine JoinW.cut1 (fun (b : Bool) w' => b = true ∧ w' = w210) (BIf.t rfl ⟨_, h.cell 0 rfl rfl, by simp, rfl⟩) ?_
      rintro (b : Bool) w213 ⟨rfl, rfl⟩
      exact ⟨rfl, h.ext⟩
open Go.RowKit in
theorem law_calls3 {w : World} {a0 : Option Addr} {len0 cap0 : Nat} {bs : List Int} (h0 : (Go.Den.cSlice (Go.Den.cInt .u8)).is w [.slice a0 len0 cap0] bs) : Calls Try.prog 3 #[.slice a0 len0 cap0] w (fun e w' => e = .returned (.bool true) ∧ Below w.heap.size w w') :=
  (walk3 (p0 := ⟨a0, len0, cap0⟩) (isD_mkSl (f := Dat.int .u8) h0 (fun es x hx => isD_mkInt hx))).mono (by rintro e w' ⟨v, rfl, rfl, he⟩; exact ⟨rfl, he.below⟩)
end Go.Proofs.Ytkgoanjemhbjgaa

/- The row of the law FnHeapApart: what its walk shows is what the statement says. Conditions: none. -/
namespace Go.Proofs.Ytkgoanjemhbjgaa.fnHeapApart
open Go.ChangeShapes Go.WideShapes Go.ChangeAt Go.RowKit
open Go.ChangeMaps (open_string shut_string)
set_option linter.unusedVariables false
theorem own : ownKnob Try.prog.godebug = none := by kernel_rfl
theorem laidOut : laidOutB Try.prog = true := by kernel_rfl
set_option maxRecDepth 100000 in
theorem lifted (os : Os) (started : os.Started) (H : Type) (enc : TypeId × Value → H) :
    ReturnsInHanded {} Try.checked os 3 .any (Rows.fnHeapApartSpec.pre6 enc Try.prog Try.f3 Rows.fnHeapApartRow.domain false) (Rows.fnHeapApartSpec.post enc Try.prog Try.f3 false true false false) := by
  refine returnsInHanded_of_change_sized (C := Try.checked) own started (by kernel_rfl) Try.func3
    (ChangeSpec.witness6 (enc := enc) (C := Try.checked) false ⟨#[], #[.slice none 0 0], []⟩ 8 (by kernel_rfl) (by kernel_rfl) (by kernel_rfl) (by kernel_rfl)) ?_
  intro W base args ds gs before hval0 hW hcnd hsz0 _
  have hsz : (DataW.weightsEach Try.prog (Try.f3.params.toList ++ Rows.fnHeapApartSpec.plain.varTypes Try.prog) (ds ++ gs)).all (· ≤ reachBytes) = true := hsz0
  have hval : ∀ (j : Nat) t v, Try.f3.params[j]? = some t → args[j]? = some v → Value.okWide Try.prog W .any base t v := hval0
  have hW' := hW
  obtain ⟨p, q, hA0, hV, rfl, hfz, hnd⟩ := hW
  have hA : DataW.TrodAll enc Try.prog W 0 (fun _ => true) true Try.f3.params.toList args.toList ds p := hA0
  rw [Try.params3] at hA hval hsz
  obtain ⟨v0, vs0, d0, ds0, p0, q0, hargs, rfl, rfl, h0, r0⟩ := trodAll_cons hA
  obtain ⟨rfl, rfl, rfl⟩ := trodAll_nil r0
  obtain rfl : args = #[v0] := by cases args; simp_all
  obtain ⟨rfl, rfl⟩ := trodVars_none hV
  have k0 := h0
  have lt0 : ∀ x ∈ p0, x.block < W.heap.size := by obtain ⟨m, hm⟩ := k0; exact DataW.trod_lt m _ _ _ hm
  obtain ⟨a0, len0, cap0, rfl⟩ := okWide_slice Try.underlying22 (hval 0 22 v0 rfl rfl)
  obtain ⟨x0, w0⟩ : ∃ x, (Go.Den.cSlice (Go.Den.cInt .u8)).is W [.slice a0 len0 cap0] x := by obtain ⟨fuel, hf⟩ := h0; exact ((hp22).at_ enc W fuel _ _ hf).2
  clear hA0 hval0 hsz0 hsz
  refine (law_calls3 w0).mono fun e W' ⟨he, bel⟩ => ?_
  subst he
  exact ⟨_, rfl, _, _, _, [], _, [], hW', trodAll_mk1 (shut_bool Try.underlying4 _), (trodAll_cons_mk (Below.trod laidOut (by kernel_rfl) (of_decide_eq_true (by kernel_rfl)) k0 bel lt0) trodAll_mk0), rfl, bel.frame _, fun h => by cases h⟩
theorem over : Rows.fnHeapApartRow.holds Try.pinned (OpenSpec.ofChange Rows.fnHeapApartSpec) :=
  OpenClaim.holds_of_wide 3 Try.f3 rfl rfl rfl rfl rfl rfl rfl ⟨rfl, rfl, rfl, rfl, rfl⟩ rfl rfl rfl rfl rfl (by kernel_rfl) Try.func3 (by kernel_rfl)
    (of_decide_eq_true (by kernel_rfl)) (by unfold Func.isWrapper; first | (rw [if_pos (by decide +kernel)]; kernel_rfl) | (rw [if_neg (by decide +kernel)]; exact ⟨rfl, rfl⟩))
    (fun os started H enc _ => lifted os started H enc)
theorem proved : Rows.FnHeapApartSaid := over
#print axioms proved
end Go.Proofs.Ytkgoanjemhbjgaa.fnHeapApart
namespace Go.Proofs.Ytkgoanjemhbjgaa
/-- The row, under a short name, for the claim. -/
theorem fnHeapApart_holds : Rows.FnHeapApartSaid := fnHeapApart.proved
end Go.Proofs.Ytkgoanjemhbjgaa
