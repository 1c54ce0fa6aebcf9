/- Part 6 of 6: plain readings of code, rules for them, and a proof over them, joined by a program. Conditions: none. -/
import Derived.Test.YteigefjiifihpaaPG5
import Derived.Test.YteigefjiifihpaaRows
import Derived.WalkKit
import Derived.ProofKit
import Derived.OpenShut
import Derived.ShutString
import Derived.ChangeOld
import Derived.Below
import Derived.Carry
import Derived.SizedLaws
/- Draws: processes that may be spoilt; a step. Conditions: none. -/
set_option linter.unusedVariables false
set_option linter.unusedSimpArgs false
namespace Go.Proofs.Yteigefjiifihpaa
open Go Go.Den
theorem LoopW.m0 {body : JT [] → JT []} {w : World} (Inv : Nat → World → Prop) {n0 : Nat} (h0 : Inv n0 w) (step : ∀ n w, Inv n w → ∀ J : World → Prop, (∀ n' w', n' < n → Inv n' w' → J w') → (body J : World → Prop) w) : LoopW [] body () w :=
  ⟨fun n w => Inv n w, ⟨_, h0⟩, fun n v w h => step n w h _ (fun n' w' hlt hi => ⟨n', hlt, hi⟩)⟩
theorem allR_set {l : List DProc} (h : ∀ x, x ∈ l → AllR x) {i : Nat} {y : DProc} (hy : AllR y) : ∀ x, x ∈ l.set i y → AllR x := fun x hx => by
  rcases List.mem_or_eq_of_mem_set hx with h1 | rfl
  · exact h x h1
  · exact hy
theorem s144 {w0 w : World} {F : List Asr} {cb : Nat} {s t : Sl} {l : List DProc} (h : SH w0 w (aC cb s :: RP t l :: F)) (hb : CurB w0 s) (hR : ∀ x, x ∈ l → AllR x) (hlen : 1 ≤ l.length ∧ l.length ≤ 1048576) :
    CallW Try.prog 144 #[.pointer (some ⟨cb, 0, none⟩), pAgg t] w (fun v w' => v = .tuple #[] ∧ ∃ l' : List DProc, l'.length = l.length ∧ (∀ x, x ∈ l' → AllR x) ∧ SH w0 w' (aC cb s :: RP t l' :: F)) := by
  refine go144 ?_
  unfold W144
  have htl := h.len 1 rfl
  rw [recs_len] at htl
  refine h.alloc (fun w1 h e1 n1 => ?_)
  have h := h.drew
  refine ⟨t, h.cell 0 rfl rfl, t, h.cell 0 rfl rfl, (s77 h 1 rfl hb).mono ?_⟩
  rintro _ w5 ⟨n6, rfl, ⟨pa, pb⟩, h⟩
  obtain ⟨k6, rfl⟩ := Int.eq_ofNat_of_zero_le pa
  have hget : l[k6]? = some l[k6] := List.getElem?_eq_getElem (by omega)
  have hx := hR _ (List.mem_of_getElem? hget)
  generalize l[k6] = x at *
  obtain ⟨x0, x1, x2, x3, x4, x5, x6, x7, x8, x9⟩ := hx
  obtain ⟨q, hqa⟩ := h.rowQ 2 rfl hget
  have hk6 : k6 < l.length := by omega
  refine ⟨_, rfl, ⟨t, h.cell 0 rfl rfl, (by first | rfl | trivial)⟩, by omega, by omega, q, hqa, ?_⟩
  try simp only [Int.toNat_natCast]
  refine h.alloc (fun w9 h e9 n9 => ?_)
  have h : SH w0 w9 (aI w5.heap.size 4 (fun _ => True) :: BS w.heap.size t :: aC cb s :: RP t l :: F) := h.toI 0 [1, -1, 256, 32] rfl rfl (fun _ _ => trivial)
  refine (s77 h 2 rfl hb).mono ?_
  rintro _ w11 ⟨n12, rfl, ⟨qa, qb⟩, h⟩
  obtain ⟨k12, rfl⟩ := Int.eq_ofNat_of_zero_le qa
  refine ⟨_, rfl, by omega, by omega, _, rfl, ?_⟩
  try simp only [Int.toNat_natCast]
  refine h.rIx 0 rfl (by omega) (fun n14 _ => ?_)
  refine (s77 h 2 rfl hb).mono ?_
  rintro _ w16 ⟨n17, rfl, ⟨ra, rb⟩, h⟩
  have h : SH w0 w16 (aC cb s :: RP t (l.set k6 x) :: F) := by rw [← set_at hget]; exact h.drop.drop
  have hx : (l.set k6 x)[k6]? = some x := List.getElem?_set_self hk6
  refine ⟨n17, rfl, ?_⟩
  refine BIf.of (fun _ => ?_) (fun _ => ?_)
  · refine ⟨_, rfl, _, h.rdR 1 rfl hqa hx rfl, _, rfl, ?_⟩
    exact h.setR 1 (⟨(IntKind.wrap .i64 (x.Id + n14)), x.Parent, x.Group, x.User, x.State, x.Status, x.Pending, x.Mask, x.Ignored, x.Caught⟩ : DProc) rfl hqa hk6 (by show 0 < 10; omega) rfl (fun w21 h n21 => ⟨(by first | rfl | trivial), l.set k6 ⟨(IntKind.wrap .i64 (x.Id + n14)), x.Parent, x.Group, x.User, x.State, x.Status, x.Pending, x.Mask, x.Ignored, x.Caught⟩, List.length_set .., allR_set hR ⟨wrapR _, x1, x2, x3, x4, x5, x6, x7, x8, x9⟩, h⟩)
  refine BIf.of (fun _ => ?_) (fun _ => ?_)
  · refine (s77 h 0 rfl hb).mono ?_
    rintro _ w23 ⟨n24, rfl, ⟨ua, ub⟩, h⟩
    refine ⟨n24, rfl, _, rfl, ?_⟩
    exact h.setR 1 (⟨x.Id, n24, x.Group, x.User, x.State, x.Status, x.Pending, x.Mask, x.Ignored, x.Caught⟩ : DProc) rfl hqa hk6 (by show 1 < 10; omega) rfl (fun w21 h n21 => ⟨(by first | rfl | trivial), l.set k6 ⟨x.Id, n24, x.Group, x.User, x.State, x.Status, x.Pending, x.Mask, x.Ignored, x.Caught⟩, List.length_set .., allR_set hR ⟨x0, (show inR n24 from ⟨by omega, by omega⟩), x2, x3, x4, x5, x6, x7, x8, x9⟩, h⟩)
  refine BIf.of (fun _ => ?_) (fun _ => ?_)
  · refine ⟨_, rfl, _, h.rdR 1 rfl hqa hx rfl, _, rfl, ?_⟩
    exact h.setR 1 (⟨x.Id, x.Parent, (IntKind.wrap .i64 (x.Group + n14)), x.User, x.State, x.Status, x.Pending, x.Mask, x.Ignored, x.Caught⟩ : DProc) rfl hqa hk6 (by show 2 < 10; omega) rfl (fun w21 h n21 => ⟨(by first | rfl | trivial), l.set k6 ⟨x.Id, x.Parent, (IntKind.wrap .i64 (x.Group + n14)), x.User, x.State, x.Status, x.Pending, x.Mask, x.Ignored, x.Caught⟩, List.length_set .., allR_set hR ⟨x0, x1, wrapR _, x3, x4, x5, x6, x7, x8, x9⟩, h⟩)
  refine BIf.of (fun _ => ?_) (fun _ => ?_)
  · refine ⟨_, rfl, _, h.rdR 1 rfl hqa hx rfl, _, rfl, ?_⟩
    exact h.setR 1 (⟨x.Id, x.Parent, x.Group, (IntKind.wrap .i64 (x.User - n14)), x.State, x.Status, x.Pending, x.Mask, x.Ignored, x.Caught⟩ : DProc) rfl hqa hk6 (by show 3 < 10; omega) rfl (fun w21 h n21 => ⟨(by first | rfl | trivial), l.set k6 ⟨x.Id, x.Parent, x.Group, (IntKind.wrap .i64 (x.User - n14)), x.State, x.Status, x.Pending, x.Mask, x.Ignored, x.Caught⟩, List.length_set .., allR_set hR ⟨x0, x1, x2, wrapR _, x4, x5, x6, x7, x8, x9⟩, h⟩)
  refine BIf.of (fun _ => ?_) (fun _ => ?_)
  · refine ⟨_, rfl, _, h.rdR 1 rfl hqa hx rfl, _, rfl, ?_⟩
    exact h.setR 1 (⟨x.Id, x.Parent, x.Group, x.User, (IntKind.wrap .i64 (x.State + n14)), x.Status, x.Pending, x.Mask, x.Ignored, x.Caught⟩ : DProc) rfl hqa hk6 (by show 4 < 10; omega) rfl (fun w21 h n21 => ⟨(by first | rfl | trivial), l.set k6 ⟨x.Id, x.Parent, x.Group, x.User, (IntKind.wrap .i64 (x.State + n14)), x.Status, x.Pending, x.Mask, x.Ignored, x.Caught⟩, List.length_set .., allR_set hR ⟨x0, x1, x2, x3, wrapR _, x5, x6, x7, x8, x9⟩, h⟩)
  refine BIf.of (fun _ => ?_) (fun _ => ?_)
  · refine ⟨_, rfl, _, h.rdR 1 rfl hqa hx rfl, _, rfl, ?_⟩
    exact h.setR 1 (⟨x.Id, x.Parent, x.Group, x.User, x.State, (IntKind.wrap .i64 (x.Status + n14)), x.Pending, x.Mask, x.Ignored, x.Caught⟩ : DProc) rfl hqa hk6 (by show 5 < 10; omega) rfl (fun w21 h n21 => ⟨(by first | rfl | trivial), l.set k6 ⟨x.Id, x.Parent, x.Group, x.User, x.State, (IntKind.wrap .i64 (x.Status + n14)), x.Pending, x.Mask, x.Ignored, x.Caught⟩, List.length_set .., allR_set hR ⟨x0, x1, x2, x3, x4, wrapR _, x6, x7, x8, x9⟩, h⟩)
  refine BIf.of (fun _ => ?_) (fun _ => ?_)
  · refine (s146 h hb).mono ?_
    rintro _ w44 ⟨n45, rfl, hn, h⟩
    refine ⟨n45, rfl, _, rfl, ?_⟩
    exact h.setR 1 (⟨x.Id, x.Parent, x.Group, x.User, x.State, x.Status, n45, x.Mask, x.Ignored, x.Caught⟩ : DProc) rfl hqa hk6 (by show 6 < 10; omega) rfl (fun w21 h n21 => ⟨(by first | rfl | trivial), l.set k6 ⟨x.Id, x.Parent, x.Group, x.User, x.State, x.Status, n45, x.Mask, x.Ignored, x.Caught⟩, List.length_set .., allR_set hR ⟨x0, x1, x2, x3, x4, x5, hn, x7, x8, x9⟩, h⟩)
  refine BIf.of (fun _ => ?_) (fun _ => ?_)
  · refine (s146 h hb).mono ?_
    rintro _ w44 ⟨n45, rfl, hn, h⟩
    refine ⟨n45, rfl, _, rfl, ?_⟩
    exact h.setR 1 (⟨x.Id, x.Parent, x.Group, x.User, x.State, x.Status, x.Pending, n45, x.Ignored, x.Caught⟩ : DProc) rfl hqa hk6 (by show 7 < 10; omega) rfl (fun w21 h n21 => ⟨(by first | rfl | trivial), l.set k6 ⟨x.Id, x.Parent, x.Group, x.User, x.State, x.Status, x.Pending, n45, x.Ignored, x.Caught⟩, List.length_set .., allR_set hR ⟨x0, x1, x2, x3, x4, x5, x6, hn, x8, x9⟩, h⟩)
  refine BIf.of (fun _ => ?_) (fun _ => ?_)
  · refine (s146 h hb).mono ?_
    rintro _ w44 ⟨n45, rfl, hn, h⟩
    refine ⟨n45, rfl, _, rfl, ?_⟩
    exact h.setR 1 (⟨x.Id, x.Parent, x.Group, x.User, x.State, x.Status, x.Pending, x.Mask, n45, x.Caught⟩ : DProc) rfl hqa hk6 (by show 8 < 10; omega) rfl (fun w21 h n21 => ⟨(by first | rfl | trivial), l.set k6 ⟨x.Id, x.Parent, x.Group, x.User, x.State, x.Status, x.Pending, x.Mask, n45, x.Caught⟩, List.length_set .., allR_set hR ⟨x0, x1, x2, x3, x4, x5, x6, x7, hn, x9⟩, h⟩)
  refine BIf.of (fun _ => ?_) (fun _ => ?_)
  · refine (s146 h hb).mono ?_
    rintro _ w44 ⟨n45, rfl, hn, h⟩
    refine ⟨n45, rfl, _, rfl, ?_⟩
    exact h.setR 1 (⟨x.Id, x.Parent, x.Group, x.User, x.State, x.Status, x.Pending, x.Mask, x.Ignored, n45⟩ : DProc) rfl hqa hk6 (by show 9 < 10; omega) rfl (fun w21 h n21 => ⟨(by first | rfl | trivial), l.set k6 ⟨x.Id, x.Parent, x.Group, x.User, x.State, x.Status, x.Pending, x.Mask, x.Ignored, n45⟩, List.length_set .., allR_set hR ⟨x0, x1, x2, x3, x4, x5, x6, x7, x8, hn⟩, h⟩)
  rw [← set_at hget] at h
  exact ⟨(by first | rfl | trivial), l, rfl, hR, h⟩
theorem s105 {w0 w : World} {F : List Asr} {cb : Nat} {s : Sl} (h : SH w0 w (aC cb s :: F)) (hb : CurB w0 s) :
    CallW Try.prog 105 #[.pointer (some ⟨cb, 0, none⟩)] w (fun v w' => ∃ (l : List DProc) (t : Sl), v = pAgg t ∧ (1 ≤ l.length ∧ l.length ≤ 32) ∧ (∀ x, x ∈ l → AllR x) ∧ SH w0 w' (aC cb s :: RP t l :: F)) := by
  refine go105 ?_
  unfold W105
  refine h.alloc (fun w1 h e1 n1 => ?_)
  refine (s77 h 1 rfl hb).mono ?_
  rintro _ w3 ⟨n4, rfl, ⟨pa, pb⟩, h⟩
  refine ⟨n4, rfl, (s103 (F := aB w.heap.size (ZT.map Ce.v) :: F) (h.front (n := 1) rfl) hb ⟨by omega, by omega⟩).mono ?_⟩
  rintro _ w6 ⟨l, t, o, ops, rfl, hv, _, _, h⟩
  refine ⟨t, o, rfl, ?_⟩
  refine h.alloc (fun w9 h e9 n9 => ?_)
  refine h.setV 0 rfl rfl (fun w10 h n10 => ?_)
  have h : SH w0 w10 (aC cb s :: RP t l :: BS w6.heap.size t :: aB w.heap.size (ZT.map Ce.v) :: F) := ((h.dropAt 1).front (n := 2) rfl).front (n := 2) rfl
  refine JoinW.cut0 (fun w' => ∃ (l : List DProc) (t : Sl), PInv l ∧ SH w0 w' (aC cb s :: RP t l :: BS w6.heap.size t :: aB w.heap.size (ZT.map Ce.v) :: F)) ?_ ?_
  · refine (s78 h 0 rfl hb).mono ?_
    rintro _ w25 ⟨b26, rfl, h⟩
    refine ⟨b26, rfl, BIf.of (fun _ => ?_) (fun _ => ⟨l, t, hv, h⟩)⟩
    refine LoopW.m0 (fun n w' => ∃ (l : List DProc) (t : Sl), PInv l ∧ n = 32 - l.length ∧ SH w0 w' (aC cb s :: RP t l :: BS w6.heap.size t :: aB w.heap.size (ZT.map Ce.v) :: F)) ⟨l, t, hv, rfl, h⟩ ?_
    clear h hv
    rintro n w28 ⟨l, t, hv, rfl, h⟩ J hJ
    have hl := h.len 1 rfl
    rw [recs_len] at hl
    have hlen := hv.len
    refine ⟨t, h.cell 2 rfl rfl, BIf.dec (fun hlt => ?_) (fun _ => ⟨l, t, hv, h⟩)⟩
    obtain ⟨x, hx, _, _, hz⟩ := hv.head
    refine ⟨t, h.cell 2 rfl rfl, (s126 (i := 0) (h.front (n := 1) rfl) hv hx hz).mono ?_⟩
    rintro _ w32 ⟨t2, rfl, h⟩
    have hne : l.length ≠ 32 := by omega
    have hfr : forkR l x = (forkF l x, 0, ((gapQ l 0 : Nat) : Int) + 1, 0) := by unfold forkR; rw [if_neg hne]
    have hv2 := hv.fork hne (List.mem_of_getElem? hx) hz
    have hl2 : (forkF l x).length = l.length + 1 := by
      obtain ⟨_, q1, _, _⟩ := hv.gap
      unfold forkF
      rw [List.length_append, List.length_cons, List.length_take, List.length_drop]
      omega
    rw [hfr] at h ⊢
    refine ⟨t2, _, _, _, rfl, ?_⟩
    refine h.alloc (fun w37 h e37 n37 => ?_)
    refine h.alloc (fun w38 h e38 n38 => ?_)
    refine h.setV 1 rfl rfl (fun w39 h n39 => ?_)
    refine h.put 0 rfl rfl rfl (fun w40 h n40 => ?_)
    refine ⟨t2, h.cell 1 rfl rfl, ?_⟩
    refine h.setV 4 rfl rfl (fun w42 h n42 => ?_)
    exact hJ _ _ (by omega) ⟨forkF l x, t2, hv2, rfl, ((h.dropAt 1).dropAt 0).front (n := 1) rfl⟩
  clear h hv
  rintro w12 ⟨l, t, hv, h⟩
  have hlen := hv.len
  refine JoinW.cut0 (fun w' => ∃ l' : List DProc, l'.length = l.length ∧ (∀ x, x ∈ l' → AllR x) ∧ SH w0 w' (aC cb s :: RP t l' :: BS w6.heap.size t :: aB w.heap.size (ZT.map Ce.v) :: F)) ?_ ?_
  · refine (s78 h 0 rfl hb).mono ?_
    rintro _ w19 ⟨b20, rfl, h⟩
    refine ⟨b20, rfl, BIf.of (fun _ => ?_) (fun _ => ⟨l, rfl, fun x hx => allR hv hx, h⟩)⟩
    refine ⟨t, h.cell 2 rfl rfl, (s144 h hb (fun x hx => allR hv hx) ⟨hlen.1, by omega⟩).mono ?_⟩
    rintro _ w23 ⟨rfl, l', g1, g2, h⟩
    exact ⟨rfl, l', g1, g2, h⟩
  clear h
  rintro w14 ⟨l', g1, g2, h⟩
  refine ⟨t, h.cell 2 rfl rfl, ?_⟩
  refine h.setV 3 rfl rfl (fun w16 h n16 => ?_)
  exact ⟨t, h.cell 3 rfl rfl, l', t, rfl, ⟨by omega, by omega⟩, g2, ((h.dropAt 3).dropAt 2)⟩
theorem s60 {w0 w : World} {F : List Asr} {s : Sl} (h : SH w0 w F) (hb : CurB w0 s) :
    CallW Try.prog 60 #[.slice s.a s.len s.cap] w (fun v w' => ∃ (l : List DProc) (t : Sl) (k id to_ n : Int), v = .tuple #[pAgg t, .agg #[.int .i64 k, .int .i64 id, .int .i64 to_, .int .i64 n]] ∧ inR to_ ∧ (1 ≤ l.length ∧ l.length ≤ 32) ∧ (∀ x, x ∈ l → AllR x) ∧ SH w0 w' (RP t l :: F)) := by
  refine go60 ?_
  unfold W60
  refine h.alloc (fun w1 h e1 n1 => ?_)
  refine h.alloc (fun w2 h e2 n2 => ?_)
  refine (s75 h hb).mono ?_
  rintro _ w4 ⟨cb, rfl, h⟩
  refine ⟨_, rfl, (s105 h hb).mono ?_⟩
  rintro _ w7 ⟨l, t, rfl, hl, hR, h⟩
  refine ⟨t, rfl, ?_⟩
  refine h.alloc (fun w9 h e9 n9 => ?_)
  refine h.setV 0 rfl rfl (fun w10 h n10 => ?_)
  refine ⟨t, h.cell 0 rfl rfl, (s106 ((h.front (n := 2) rfl).front (n := 2) rfl) hb hR ⟨hl.1, by omega⟩).mono ?_⟩
  rintro _ w13 ⟨k, id, to_, n, rfl, hto, h⟩
  refine ⟨k, id, to_, n, rfl, ?_⟩
  refine h.alloc (fun w18 h e18 n18 => ?_)
  refine h.put 0 rfl rfl rfl (fun w19 h n19 => ?_)
  have h := h.drew
  refine ⟨t, h.cell 3 rfl rfl, _, h.cell 0 rfl rfl, _, h.cell 0 rfl rfl, _, h.cell 0 rfl rfl, _, h.cell 0 rfl rfl, ?_⟩
  refine h.setV 5 rfl rfl (fun w25 h n25 => ⟨⟨_, h.cell 0 rfl rfl, _, h.cell 0 rfl rfl, _, h.cell 0 rfl rfl, _, h.cell 0 rfl rfl, rfl⟩, ?_⟩)
  refine h.put 4 rfl rfl rfl (fun w30 h n30 => ?_)
  refine ⟨t, h.cell 5 rfl rfl, _, h.cell 4 rfl rfl, _, h.cell 4 rfl rfl, _, h.cell 4 rfl rfl, _, h.cell 4 rfl rfl, ?_⟩
  exact ⟨l, t, k, id, to_, n, rfl, hto, hl, hR, (((((h.dropAt 5).dropAt 4).dropAt 3).dropAt 1).dropAt 0)⟩
end Go.Proofs.Yteigefjiifihpaa

/- Two records of type 100 (a process of the law's state) are compared cell by cell. Conditions: none. -/
set_option linter.unusedVariables false
set_option maxRecDepth 100000
namespace Go.Proofs.Yteigefjiifihpaa
open Go Go.Den
theorem same100 : SameAt Try.prog 100 [.int .i64, .int .i64, .int .i64, .int .i64, .int .i64, .int .i64, .int .i64, .int .i64, .int .i64, .int .i64] :=
  sameAt_num (by kernel_rfl) (by kernel_rfl) (by kernel_rfl) (by kernel_rfl)
end Go.Proofs.Yteigefjiifihpaa

/- FnProcGuards: a kill by a user who is not 0 leaves the processes of others (plain). Conditions: none. -/
set_option linter.unusedVariables false
set_option linter.unusedSimpArgs false
namespace Go.Proofs.Yteigefjiifihpaa
open Go Go.Den
/-- What a kill keeps: as many processes; an error keeps all; else there is one who kills, and whoever is turned is one that it may hit. -/
theorem kill_guard {l : List DProc} (hv : PInv l) {id to_ n : Int} : (stepP l 4 id to_ n).1.length = l.length ∧ ((stepP l 4 id to_ n).2.1 = 0 → ∃ me : DProc, me ∈ l ∧ me.Id = id ∧ ∀ (i : Nat) (x y : DProc), l[i]? = some x → (stepP l 4 id to_ n).1[i]? = some y → x = y ∨ me.User = 0 ∨ x.User = me.User) := by
  have no : ∀ (c : Int), c ≠ 0 → (((l, c, 0, 0) : PRes).1.length = l.length ∧ (((l, c, 0, 0) : PRes).2.1 = 0 → ∃ me : DProc, me ∈ l ∧ me.Id = id ∧ ∀ (i : Nat) (x y : DProc), l[i]? = some x → ((l, c, 0, 0) : PRes).1[i]? = some y → x = y ∨ me.User = 0 ∨ x.User = me.User)) := fun c hc => ⟨rfl, fun e => absurd e hc⟩
  rcases ixP_find l id with ⟨g1, g2⟩ | ⟨i, me, g1, g2, g3⟩
  · rw [stepP_none hv (by omega) g1]; exact no 3 (by decide)
  rw [stepP_some (by omega) g1 g2]
  have hmem := List.mem_of_getElem? g2
  have hid := (prOf_some g3).2
  by_cases hz : me.State = 3
  · rw [if_pos hz]; exact no 21 (by decide)
  rw [if_neg hz]
  have hk : prR l i me 4 id to_ n = killR l me to_ n := by
    unfold prR
    rw [if_neg (by omega), if_neg (by omega), if_neg (by omega), if_pos rfl]
  rw [hk]
  by_cases hn : n < 0 ∨ n > 15
  · unfold killR
    rw [if_pos hn]; exact no 1 (by decide)
  have hmap : (killR l me to_ n).1 = l.map (killX me to_ n) := by
    rw [killR_eq hn]
    split
    · rfl
    · split <;> rfl
  rw [hmap]
  refine ⟨List.length_map .., fun _ => ⟨me, hmem, hid, fun j x y hx hy => ?_⟩⟩
  rw [List.getElem?_map, hx] at hy
  simp only [Option.map_some, Option.some.injEq] at hy
  subst hy
  unfold killX
  by_cases hc : n > 0 ∧ hit me to_ x = true
  · have h2 := hc.2
    unfold hit mayK at h2
    simp only [Bool.and_eq_true, Bool.or_eq_true, beq_iff_eq] at h2
    rcases h2.2 with e | e
    · exact .inr (.inl e)
    · exact .inr (.inr e.symm)
  · rw [if_neg hc]; exact .inl rfl
/-- Of two processes with one number each is the other. -/
theorem PInv.same {l : List DProc} (h : PInv l) {x y : DProc} (hx : x ∈ l) (hy : y ∈ l) (he : x.Id = y.Id) : x = y := by
  obtain ⟨i, hi⟩ := List.getElem?_of_mem hx
  obtain ⟨j, hj⟩ := List.getElem?_of_mem hy
  have h1 := (h.ix hi).2
  have h2 := (h.ix hj).2
  rw [he, h2] at h1
  exact (Option.some.inj h1).symm
end Go.Proofs.Yteigefjiifihpaa

/- FnProcGuards: the law's walk. Conditions: none. -/
set_option linter.unusedVariables false
set_option linter.unusedSimpArgs false
namespace Go.Proofs.Yteigefjiifihpaa
open Go Go.Den
theorem goc10 {a0 : Sl} {w : World} {K : Value → World → Prop} (h : W10 a0 w K) : Calls Try.prog 10 #[.slice a0.a a0.len a0.cap] w (fun e w' => ∃ v, e = .returned v ∧ K v w') :=
  denFn_sound tt_ok mix Try.func10 (by kernel_rfl) (eq10 a0 w K ▸ h)
set_option maxHeartbeats 1000000 in
theorem walk10 {w : World} {bs : List Int} {p0 : Sl} (h0 : IsD w (.sl 1 (bs.map (Dat.int .u8))) [.slice p0.a p0.len p0.cap]) : Calls Try.prog 10 #[.slice p0.a p0.len p0.cap] w (fun e w' => ∃ v, e = .returned v ∧ (v = .bool true ∧ Ext w w')) := by
  refine goc10 ?_
  unfold W10
  refine c29.mono ?_
  rintro _ w2 ⟨rfl, rfl⟩
  refine ⟨_, rfl, BIf.dec (fun _ => ⟨rfl, Only.refl _ _⟩) (fun hbig => ?_)⟩
  have hb := curb_of h0 (by omega)
  refine (s56 (SH.start w2)).mono ?_
  rintro _ w5 ⟨t0, rfl, h⟩
  refine ⟨t0, rfl, (c59 (qatOf h 0 rfl (by decide)) (fun x hx => (new_inv.ok x hx).rng)).mono ?_⟩
  rintro _ w8 ⟨b9, rfl, hb9, e8⟩
  have h := h.to e8
  refine ⟨b9, rfl, BIf.f (by rw [hb9.2 new_inv]; rfl) ((s60 h hb).mono ?_)⟩
  rintro _ w11 ⟨l, t, k, id, to_, n, rfl, hto, hl, hR, h⟩
  refine ⟨t, k, id, to_, n, rfl, ?_⟩
  refine h.alloc (fun w17 h e17 n17 => ?_)
  refine h.alloc (fun w18 h e18 n18 => ?_)
  refine h.setV 1 rfl rfl (fun w19 h n19 => ?_)
  refine h.put 0 rfl rfl rfl (fun w20 h n20 => ?_)
  refine ⟨t, h.cell 1 rfl rfl, (c57 (qatOf h 2 rfl (by omega))).mono ?_⟩
  rintro _ w23 ⟨b24, rfl, hb24, e23⟩
  have h := h.to e23
  refine ⟨b24, rfl, BIf.of (fun hno => ⟨rfl, h.ext⟩) (fun hyes => ?_)⟩
  have hv : PInv l := hb24.1 (by simpa using hyes)
  refine h.setV 0 rfl rfl (fun w25 h n25 => ?_)
  have h : SH w2 w25 [aB w17.heap.size ([.int .i64 4, .int .i64 id, .int .i64 to_, .int .i64 n].map Ce.v), BS w11.heap.size t, RP t l, RP t0 [proc1]] := h
  refine ⟨t, h.cell 1 rfl rfl, _, h.cell 0 rfl rfl, _, h.cell 0 rfl rfl, _, h.cell 0 rfl rfl, _, h.cell 0 rfl rfl, ?_⟩
  have hrng : ∀ x, x ∈ l → Rng x := fun x hx => (hv.ok x hx).rng
  have hres : pstepR l 4 id to_ n = stepP l 4 id to_ n := by unfold pstepR; rw [if_pos hv]
  have hkept := stepP_kept l 4 id to_ n
  obtain ⟨hlen2, hguard⟩ := kill_guard hv (id := id) (to_ := to_) (n := n)
  generalize stepP l 4 id to_ n = r at *
  refine (s51 (qatOf h 2 rfl (by omega)) hrng hto).mono ?_
  rintro _ w32 ⟨t2, rfl, g⟩
  rw [hres] at g ⊢
  have h := h.seq g
  refine ⟨t2, _, _, _, rfl, ?_⟩
  refine h.alloc (fun w37 h e37 n37 => ?_)
  refine h.alloc (fun w38 h e38 n38 => ?_)
  refine h.setV 1 rfl rfl (fun w39 h n39 => ?_)
  refine h.put 0 rfl rfl rfl (fun w40 h n40 => ?_)
  have hl1 := h.len 2 rfl
  have hl0 := h.len 5 rfl
  rw [recs_len] at hl1 hl0
  refine ⟨t2, h.cell 1 rfl rfl, t, h.cell 4 rfl rfl, BIf.f (by rw [bne_eq_false_iff_eq]; omega) ?_⟩
  refine ⟨t, h.cell 4 rfl rfl, _, h.cell 3 rfl rfl, _, h.cell 3 rfl rfl, _, h.cell 3 rfl rfl, _, h.cell 3 rfl rfl, ?_⟩
  refine (s48 (qatOf h 5 rfl (by omega))).mono ?_
  rintro _ w49 ⟨t3, rfl, g⟩
  rw [hres] at g ⊢
  have h := h.seq g
  refine ⟨t3, _, _, _, rfl, ?_⟩
  refine h.alloc (fun w54 h e54 n54 => ?_)
  refine h.alloc (fun w55 h e55 n55 => ?_)
  refine h.setV 1 rfl rfl (fun w56 h n56 => ?_)
  refine h.put 0 rfl rfl rfl (fun w57 h n57 => ?_)
  refine ⟨_, h.cell 3 rfl rfl, _, h.cell 0 rfl rfl, BIf.f (by simp) ?_⟩
  have h : SH w2 w57 [aB w37.heap.size ((rs3 r.2.1 r.2.2.1 r.2.2.2).map Ce.v), BS w32.heap.size t2, RP t2 r.1, aB w17.heap.size ([.int .i64 4, .int .i64 id, .int .i64 to_, .int .i64 n].map Ce.v), BS w11.heap.size t, RP t l, RP t0 [proc1]] := h.drop.drop.drop
  refine LoopW.m2 (fun (u : Int) (i : Int) w' => ∃ m : Nat, i = m ∧ m ≤ l.length ∧ (∀ (j : Nat) (x : DProc), j < m → l[j]? = some x → x.Id = id → u = x.User) ∧ SH w2 w' [aB w37.heap.size ((rs3 r.2.1 r.2.2.1 r.2.2.2).map Ce.v), BS w32.heap.size t2, RP t2 r.1, aB w17.heap.size ([.int .i64 4, .int .i64 id, .int .i64 to_, .int .i64 n].map Ce.v), BS w11.heap.size t, RP t l, RP t0 [proc1]]) (fun _ (i : Int) _ => (l.length - i).toNat) ⟨0, rfl, by omega, fun j x hj => absurd hj (by omega), h⟩ ?_
  clear h
  rintro (u : Int) (i : Int) w63 ⟨m, rfl, hm, hu, h⟩ J hJ
  refine ⟨t, h.cell 4 rfl rfl, BIf.dec (fun hlt => ?_) (fun hge => ?_)⟩
  · have hget : l[m]? = some l[m] := List.getElem?_eq_getElem (by omega)
    generalize l[m] = x at *
    have h := h.drew
    obtain ⟨q, hq⟩ := h.rowQ 5 rfl hget
    simp only [Int.toNat_natCast]
    rw [w64 (n := (m : Int) + 1) (by omega) (by omega)]
    refine ⟨t, h.cell 4 rfl rfl, by omega, by omega, q, hq, _, h.rdR 5 rfl hq hget rfl, _, h.cell 3 rfl rfl, BIf.eq (fun e => ?_) (fun e => ?_)⟩
    · refine ⟨t, h.cell 4 rfl rfl, by omega, by omega, q, hq, _, h.rdR 5 rfl hq hget rfl, ?_⟩
      refine hJ _ _ _ ⟨m + 1, by omega, by omega, fun j y hj hy hid => ?_, h⟩ (by omega)
      have := hv.same (List.mem_of_getElem? hget) (List.mem_of_getElem? hy) (by rw [hid]; exact e)
      rw [this]
    · refine hJ _ _ _ ⟨m + 1, by omega, by omega, fun j y hj hy hid => ?_, h⟩ (by omega)
      by_cases hjm : j = m
      · subst hjm
        rw [hget] at hy
        cases hy
        exact absurd hid e
      · exact hu j y (by omega) hy hid
  · have hall : ∀ x, x ∈ l → x.Id = id → u = x.User := fun x hx hid => by
      obtain ⟨j, hj⟩ := List.getElem?_of_mem hx
      have := (List.getElem?_eq_some_iff.1 hj).1
      exact hu j x (by omega) hj hid
    clear hJ hu
    refine LoopW.m1 (fun (i : Int) w' => ∃ m : Nat, i = m ∧ m ≤ l.length ∧ SH w2 w' [aB w37.heap.size ((rs3 r.2.1 r.2.2.1 r.2.2.2).map Ce.v), BS w32.heap.size t2, RP t2 r.1, aB w17.heap.size ([.int .i64 4, .int .i64 id, .int .i64 to_, .int .i64 n].map Ce.v), BS w11.heap.size t, RP t l, RP t0 [proc1]]) (fun (i : Int) _ => (l.length - i).toNat) ⟨0, rfl, by omega, h⟩ ?_
    clear h hge hm m
    rintro (i : Int) w74 ⟨m, rfl, hm, h⟩ J hJ
    refine ⟨t, h.cell 4 rfl rfl, BIf.dec (fun hlt => ?_) (fun hge => ⟨rfl, h.ext⟩)⟩
    have hget : l[m]? = some l[m] := List.getElem?_eq_getElem (by omega)
    have hget2 : r.1[m]? = some r.1[m] := List.getElem?_eq_getElem (by omega)
    generalize l[m] = x at *
    generalize r.1[m] = y at *
    have h := h.drew
    obtain ⟨q, hq⟩ := h.rowQ 5 rfl hget
    obtain ⟨q2, hq2⟩ := h.rowQ 2 rfl hget2
    simp only [Int.toNat_natCast]
    rw [w64 (n := (m : Int) + 1) (by omega) (by omega)]
    refine JoinW.cut1 (fun (c : Bool) w' => c = false ∧ w' = w74.drew) ?_ ?_
    rotate_left
    · rintro (c : Bool) w78 ⟨rfl, rfl⟩
      exact BIf.f rfl (hJ _ _ ⟨m + 1, by omega, by omega, h⟩ (by omega))
    refine ⟨t, h.cell 4 rfl rfl, by omega, by omega, q, hq, _, h.rdR 5 rfl hq hget rfl, _, h.rdR 5 rfl hq hget rfl, _, h.rdR 5 rfl hq hget rfl, _, h.rdR 5 rfl hq hget rfl, _, h.rdR 5 rfl hq hget rfl, _, h.rdR 5 rfl hq hget rfl, _, h.rdR 5 rfl hq hget rfl, _, h.rdR 5 rfl hq hget rfl, _, h.rdR 5 rfl hq hget rfl, _, h.rdR 5 rfl hq hget rfl, ?_⟩
    refine ⟨t2, h.cell 1 rfl rfl, by omega, by omega, q2, hq2, _, h.rdR 2 rfl hq2 hget2 rfl, _, h.rdR 2 rfl hq2 hget2 rfl, _, h.rdR 2 rfl hq2 hget2 rfl, _, h.rdR 2 rfl hq2 hget2 rfl, _, h.rdR 2 rfl hq2 hget2 rfl, _, h.rdR 2 rfl hq2 hget2 rfl, _, h.rdR 2 rfl hq2 hget2 rfl, _, h.rdR 2 rfl hq2 hget2 rfl, _, h.rdR 2 rfl hq2 hget2 rfl, _, h.rdR 2 rfl hq2 hget2 rfl, ?_⟩
    refine ⟨same100, BIf.of (fun hc => ?_) (fun _ => ⟨rfl, rfl⟩)⟩
    have hne : x ≠ y := fun e => by subst e; simp at hc
    refine ⟨_, h.cell 0 rfl rfl, BIf.ne (fun hcode => ?_) (fun hcode => ?_)⟩
    · exfalso
      rw [(hkept hcode).1, hget] at hget2
      cases hget2
      exact hne rfl
    · obtain ⟨me, hme, hmid, hall2⟩ := hguard hcode
      have hu := hall me hme hmid
      refine BIf.ne (fun hu0 => ?_) (fun _ => ⟨rfl, rfl⟩)
      refine ⟨t, h.cell 4 rfl rfl, by omega, by omega, q, hq, _, h.rdR 5 rfl hq hget rfl, ?_, rfl⟩
      rcases hall2 m x y hget hget2 with e | e | e
      · exact absurd e hne
      · omega
      · rw [bne_eq_false_iff_eq]; omega
open Go.RowKit in
theorem law_calls10 {w : World} {a0 : Option Addr} {len0 cap0 : Nat} {bs : List Int} (h0 : (cSlice (cInt .u8)).is w [.slice a0 len0 cap0] bs) : Calls Try.prog 10 #[.slice a0 len0 cap0] w (fun e w' => e = .returned (.bool true) ∧ Below w.heap.size w w') :=
  (walk10 (p0 := ⟨a0, len0, cap0⟩) (isD_mkSl (f := Dat.int .u8) h0 (fun es x hx => isD_mkInt hx))).mono (by rintro e w' ⟨v, rfl, rfl, he⟩; exact ⟨rfl, he.below⟩)
end Go.Proofs.Yteigefjiifihpaa

/- The row of the law FnProcGuards: what its walk shows is what the statement says. Conditions: none. -/
namespace Go.Proofs.Yteigefjiifihpaa.fnProcGuards
open Go.ChangeShapes Go.WideShapes Go.ChangeAt Go.RowKit
open Go.ChangeMaps (open_string shut_string)
set_option linter.unusedVariables false
theorem own : ownKnob Try.prog.godebug = none := by kernel_rfl
theorem laidOut : laidOutB Try.prog = true := by kernel_rfl
set_option maxRecDepth 100000 in
theorem lifted (os : Os) (started : os.Started) (H : Type) (enc : TypeId × Value → H) :
    ReturnsInHanded {} Try.checked os 10 .any (Rows.fnProcGuardsSpec.pre6 enc Try.prog Try.f10 Rows.fnProcGuardsRow.domain false) (Rows.fnProcGuardsSpec.post enc Try.prog Try.f10 false true false false) := by
  refine returnsInHanded_of_change_sized (C := Try.checked) own started (by kernel_rfl) Try.func10
    (ChangeSpec.witness6 (enc := enc) (C := Try.checked) false ⟨#[], #[.slice none 0 0], []⟩ 8 (by kernel_rfl) (by kernel_rfl) (by kernel_rfl) (by kernel_rfl)) ?_
  intro W base args ds gs before hval0 hW hcnd hsz0 _
  have hsz : (DataW.weightsEach Try.prog (Try.f10.params.toList ++ Rows.fnProcGuardsSpec.plain.varTypes Try.prog) (ds ++ gs)).all (· ≤ reachBytes) = true := hsz0
  have hval : ∀ (j : Nat) t v, Try.f10.params[j]? = some t → args[j]? = some v → Value.okWide Try.prog W .any base t v := hval0
  have hW' := hW
  obtain ⟨p, q, hA0, hV, rfl, hfz, hnd⟩ := hW
  have hA : DataW.TrodAll enc Try.prog W 0 (fun _ => true) true Try.f10.params.toList args.toList ds p := hA0
  rw [Try.params10] at hA hval hsz
  obtain ⟨v0, vs0, d0, ds0, p0, q0, hargs, rfl, rfl, h0, r0⟩ := trodAll_cons hA
  obtain ⟨rfl, rfl, rfl⟩ := trodAll_nil r0
  obtain rfl : args = #[v0] := by cases args; simp_all
  obtain ⟨rfl, rfl⟩ := trodVars_none hV
  have k0 := h0
  have lt0 : ∀ x ∈ p0, x.block < W.heap.size := by obtain ⟨m, hm⟩ := k0; exact DataW.trod_lt m _ _ _ hm
  obtain ⟨a0, len0, cap0, rfl⟩ := okWide_slice Try.underlying55 (hval 0 55 v0 rfl rfl)
  obtain ⟨x0, w0⟩ : ∃ x, (Go.Den.cSlice (Go.Den.cInt .u8)).is W [.slice a0 len0 cap0] x := by obtain ⟨fuel, hf⟩ := h0; exact ((o55).at_ enc W fuel _ _ hf).2
  clear hA0 hval0 hsz0 hsz
  refine (law_calls10 w0).mono fun e W' ⟨he, bel⟩ => ?_
  subst he
  exact ⟨_, rfl, _, _, _, [], _, [], hW', trodAll_mk1 (shut_bool Try.underlying4 _), (trodAll_cons_mk (Below.trod laidOut (by kernel_rfl) (of_decide_eq_true (by kernel_rfl)) k0 bel lt0) trodAll_mk0), rfl, bel.frame _, fun h => by cases h⟩
theorem over : Rows.fnProcGuardsRow.holds Try.pinned (OpenSpec.ofChange Rows.fnProcGuardsSpec) :=
  OpenClaim.holds_of_wide 10 Try.f10 rfl rfl rfl rfl rfl rfl rfl ⟨rfl, rfl, rfl, rfl, rfl⟩ rfl rfl rfl rfl rfl (by kernel_rfl) Try.func10 (by kernel_rfl)
    (of_decide_eq_true (by kernel_rfl)) (by unfold Func.isWrapper; first | (rw [if_pos (by decide +kernel)]; kernel_rfl) | (rw [if_neg (by decide +kernel)]; exact ⟨rfl, rfl⟩))
    (fun os started H enc _ => lifted os started H enc)
theorem proved : Rows.FnProcGuardsSaid := over
#print axioms proved
end Go.Proofs.Yteigefjiifihpaa.fnProcGuards
namespace Go.Proofs.Yteigefjiifihpaa
/-- The row, under a short name, for the claim. -/
theorem fnProcGuards_holds : Rows.FnProcGuardsSaid := fnProcGuards.proved
end Go.Proofs.Yteigefjiifihpaa
