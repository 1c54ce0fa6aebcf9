/- Part 5 of 5: plain readings of code, rules for them, and a proof over them, joined by a program. Conditions: none. -/
import Derived.Test.YteigefjiifihpaaSrun4
import Derived.Test.YteigefjiifihpaaRows
import Derived.WalkKit
import Derived.ProofKit
import Derived.OpenShut
import Derived.ShutString
import Derived.ChangeOld
import Derived.Below
import Derived.Carry
import Derived.SizedLaws
/- The scheduler, the reference's side: an operation. Conditions: none. -/
set_option linter.unusedVariables false
set_option linter.unusedSimpArgs false
namespace Go.Proofs.Yteigefjiifihpaa
open Go Go.Den
abbrev opV (k i n : Int) : List Value := [.int .i64 k, .int .i64 i, .int .i64 n]
def lockR (d : DSched) (i : Nat) (t : DThread) (kind id n : Int) : DSched × Int × Int :=
  if n < 0 ∨ n ≥ 16 then (d, 1, 0) else if t.State ≠ 1 then (d, 21, 0)
    else if kind = 4 then lockF d i t n
    else match lckOf d n with
      | none => (d, 2, 0)
      | some k => if k.Owner ≠ id then (d, 2, 0) else (handF d n, 0, 0)
theorem s110 {w0 w : World} {F : List Asr} {t l : Sl} {d : DSched} {i : Nat} {x : DThread} {kind id n : Int} (h : SH w0 w (RT t d.Threads :: RL l d.Locks :: F)) (hi : Inv0 d) (hn : d.Now ≤ 1099511627776) (hq : d.Seq ≤ 2199023255552) (hx : d.Threads[i]? = some x) :
    CallW Try.prog 110 #[sAgg d.Now d.Seq t l, .int .i64 (i : Int), .agg #[.int .i64 kind, .int .i64 id, .int .i64 n]] w (KR w0 F (lockR d i x kind id n)) := by
  refine go110 ?_
  unfold W110
  have hf := hi.few
  have hm := hi.mid hn
  have hil := (List.getElem?_eq_some_iff.1 hx).1
  have htl := h.len 0 rfl
  rw [recs_len] at htl
  have hll := h.len 1 rfl
  rw [recs_len] at hll
  obtain ⟨q, hqa⟩ := h.rowQ 0 rfl hx
  refine h.alloc (fun w1 h ew1 nw1 => ?_)
  refine h.alloc (fun w2 h ew2 nw2 => ?_)
  refine h.alloc (fun w3 h ew3 nw3 => ?_)
  refine h.alloc (fun w4 h ew4 nw4 => ?_)
  have h : SH w0 w4 (RT t d.Threads :: RL l d.Locks :: aB w3.heap.size (ZR.map Ce.v) :: aB w2.heap.size (ZS.map Ce.v) :: aB w1.heap.size ((opV kind id n).map Ce.v) :: aB w.heap.size ((sCells d.Now d.Seq t l).map Ce.v) :: F) := (h.front (n := 5) rfl).front (n := 5) rfl
  generalize w3.heap.size = rb at *
  generalize w2.heap.size = sb at *
  generalize w1.heap.size = ob at *
  unfold lockR
  refine ⟨_, h.cell 4 rfl rfl, ?_⟩
  refine join_or_ex _ (h.cell 4 rfl rfl) ?_
  refine BIf.of (fun hb => ?_) (fun hb => ?_)
  · simp only [Bool.or_eq_true, decide_eq_true_eq] at hb
    refine retS h 5 3 2 rfl rfl rfl rfl rfl (by simp) (fun w2 h => ?_)
    rw [if_pos hb]
    exact ⟨t, l, rfl, (((h.dropAt 5).dropAt 4).dropAt 3).dropAt 2⟩
  simp only [Bool.or_eq_false_iff, decide_eq_false_iff_not] at hb
  rw [if_neg (show ¬ (n < 0 ∨ n ≥ 16) by omega)]
  simp only [Int.toNat_natCast]
  refine ⟨t, h.cell 5 rfl rfl, by omega, by omega, q, hqa, _, h.rdR 0 rfl hqa hx rfl, BIf.ne (fun hs => ?_) (fun hs => ?_)⟩
  · refine retS h 5 3 2 rfl rfl rfl rfl rfl (by simp) (fun w2 h => ?_)
    rw [if_pos hs]
    exact ⟨t, l, rfl, (((h.dropAt 5).dropAt 4).dropAt 3).dropAt 2⟩
  rw [if_neg (by omega)]
  refine ⟨_, h.cell 4 rfl rfl, BIf.eq (fun h4 => ?_) (fun h4 => ?_)⟩
  · rw [if_pos h4]
    refine ⟨_, h.cell 5 rfl rfl, _, h.cell 5 rfl rfl, t, h.cell 5 rfl rfl, l, h.cell 5 rfl rfl, _, h.cell 4 rfl rfl, (s149 h hi hx).mono ?_⟩
    rintro _ w43 ⟨t', l', rfl, h⟩
    refine ⟨_, _, t', l', _, _, rfl, ?_⟩
    refine retR h 3 2 rfl rfl rfl rfl (by simp) (fun w2 h => ?_)
    exact ⟨t', l', rfl, (((h.dropAt 5).dropAt 4).dropAt 3).dropAt 2⟩
  rw [if_neg h4]
  refine ⟨_, h.cell 5 rfl rfl, _, h.cell 5 rfl rfl, t, h.cell 5 rfl rfl, l, h.cell 5 rfl rfl, _, h.cell 4 rfl rfl, (c121 (satOf h 0 1 rfl rfl ⟨by omega, by omega⟩)).mono ?_⟩
  rintro _ w64 ⟨rfl, e64⟩
  have h := (h.to e64).drew
  refine ⟨_, rfl, ?_⟩
  refine JoinW.cut1 (fun (c : Bool) w' => (c = false ↔ ∃ k, lckOf d n = some k ∧ k.Owner = id) ∧ SH w0 w' (RT t d.Threads :: RL l d.Locks :: aB rb (ZR.map Ce.v) :: aB sb (ZS.map Ce.v) :: aB ob ((opV kind id n).map Ce.v) :: aB w.heap.size ((sCells d.Now d.Seq t l).map Ce.v) :: F)) ?_ ?_
  · rcases idL_find d n with ⟨h1, h2⟩ | ⟨j, y, h1, h2, h3⟩
    · rw [h1]
      refine BIf.t rfl ⟨⟨(fun h => by cases h), ?_⟩, h⟩
      rintro ⟨k, hk, _⟩
      rw [h2] at hk; cases hk
    · rw [h1]
      have hjl := (List.getElem?_eq_some_iff.1 h2).1
      obtain ⟨r, hra⟩ := h.rowQ 1 rfl h2
      simp only [Int.toNat_natCast]
      refine BIf.f (decide_eq_false (by omega)) ⟨l, h.cell 5 rfl rfl, by omega, by omega, r, hra, _, h.rdR 1 rfl hra h2 rfl, _, h.cell 4 rfl rfl, ⟨fun hh => ⟨y, h3, by simpa [bne] using hh⟩, ?_⟩, h⟩
      rintro ⟨k, hk, hko⟩
      rw [h3] at hk; cases hk
      simp [hko]
  · rintro (c : Bool) w68 ⟨hc, h⟩
    refine BIf.of (fun hct => ?_) (fun hcf => ?_)
    · have hr : (match lckOf d n with | none => (d, 2, 0) | some k => if k.Owner ≠ id then (d, 2, 0) else (handF d n, 0, 0) : DSched × Int × Int) = (d, 2, 0) := by
        rcases hl : lckOf d n with _ | k
        · rfl
        · simp only
          rw [if_pos (fun ho => by rw [hc.2 ⟨k, hl, ho⟩] at hct; cases hct)]
      rw [hr]
      refine retS h 5 3 2 rfl rfl rfl rfl rfl (by simp) (fun w2 h => ?_)
      exact ⟨t, l, rfl, (((h.dropAt 5).dropAt 4).dropAt 3).dropAt 2⟩
    · obtain ⟨k, hk, hko⟩ := hc.1 hcf
      obtain ⟨hkm, hkn⟩ := lckOf_some hk
      rw [hk]
      simp only
      rw [if_neg (by omega)]
      refine ⟨_, h.cell 5 rfl rfl, _, h.cell 5 rfl rfl, t, h.cell 5 rfl rfl, l, h.cell 5 rfl rfl, _, h.cell 4 rfl rfl, (s148 h hm hi.ls hkm hkn ⟨hi.now.2, by omega⟩ ⟨by omega, by omega⟩).mono ?_⟩
      rintro _ w87 ⟨t', l', rfl, h⟩
      refine ⟨_, _, t', l', rfl, ?_⟩
      refine retR h 3 2 rfl rfl rfl rfl (by simp) (fun w2 h => ?_)
      exact ⟨t', l', rfl, (((h.dropAt 5).dropAt 4).dropAt 3).dropAt 2⟩
theorem step_thr {d : DSched} {kind id n : Int} {i : Nat} {x : DThread} (h1 : kind ≠ 1) (h3 : kind ≠ 3) (hr : ¬ (kind < 1 ∨ kind > 8)) (hid : idT d id = (i : Int)) (hx : d.Threads[i]? = some x) : stepF d kind id n = thrF d i x kind id n := by
  unfold stepF
  rw [if_neg h1, if_neg h3, if_neg hr, hid, Int.toNat_natCast]
  simp only [hx]
  rw [if_neg (by omega)]
theorem s61 {w0 w : World} {F : List Asr} {t l : Sl} {d : DSched} {kind id n : Int} (h : SH w0 w (RT t d.Threads :: RL l d.Locks :: F)) (hi : Inv0 d) (hn : d.Now ≤ 1099511627776) (hq : d.Seq ≤ 2199023255552) :
    CallW Try.prog 61 #[sAgg d.Now d.Seq t l, .agg #[.int .i64 kind, .int .i64 id, .int .i64 n]] w (KR w0 F (stepF d kind id n)) := by
  refine go61 ?_
  unfold W61
  have hf := hi.few
  have hnow := hi.now
  have htl := h.len 0 rfl
  rw [recs_len] at htl
  refine h.alloc (fun w1 h ew1 nw1 => ?_)
  refine h.alloc (fun w2 h ew2 nw2 => ?_)
  refine h.alloc (fun w3 h ew3 nw3 => ?_)
  refine h.alloc (fun w4 h ew4 nw4 => ?_)
  have h : SH w0 w4 (RT t d.Threads :: RL l d.Locks :: aB w3.heap.size (ZR.map Ce.v) :: aB w2.heap.size (ZS.map Ce.v) :: aB w1.heap.size ((opV kind id n).map Ce.v) :: aB w.heap.size ((sCells d.Now d.Seq t l).map Ce.v) :: F) := (h.front (n := 5) rfl).front (n := 5) rfl
  generalize w3.heap.size = rb at *
  generalize w2.heap.size = sb at *
  generalize w1.heap.size = ob at *
  refine ⟨_, h.cell 4 rfl rfl, BIf.eq (fun h1 => ?_) (fun h1 => ?_)⟩
  · have hr : stepF d kind id n = spawnR d n := by unfold stepF spawnR; rw [if_pos h1]
    rw [hr]
    refine ⟨_, h.cell 5 rfl rfl, _, h.cell 5 rfl rfl, t, h.cell 5 rfl rfl, l, h.cell 5 rfl rfl, _, h.cell 4 rfl rfl, (s107 h hi (by omega)).mono ?_⟩
    rintro _ w12 ⟨t', l', rfl, h⟩
    refine ⟨_, _, t', l', _, _, rfl, ?_⟩
    refine retR h 3 2 rfl rfl rfl rfl (by simp) (fun w2 h => ?_)
    exact ⟨t', l', rfl, (((h.dropAt 5).dropAt 4).dropAt 3).dropAt 2⟩
  refine ⟨_, h.cell 4 rfl rfl, BIf.eq (fun h3 => ?_) (fun h3 => ?_)⟩
  · have hr : stepF d kind id n = ((tickF d).1, 0, (tickF d).2) := by unfold stepF; rw [if_neg h1, if_pos h3]
    rw [hr]
    refine ⟨_, h.cell 5 rfl rfl, _, h.cell 5 rfl rfl, t, h.cell 5 rfl rfl, l, h.cell 5 rfl rfl, (s108 h hi hn hq).mono ?_⟩
    rintro _ w12 ⟨t', l', rfl, h⟩
    refine ⟨_, _, t', l', _, _, rfl, ?_⟩
    refine retR h 3 2 rfl rfl rfl rfl (by simp) (fun w2 h => ?_)
    exact ⟨t', l', rfl, (((h.dropAt 5).dropAt 4).dropAt 3).dropAt 2⟩
  refine ⟨_, h.cell 4 rfl rfl, ?_⟩
  refine join_or_ex _ (h.cell 4 rfl rfl) ?_
  refine BIf.of (fun hb => ?_) (fun hb => ?_)
  · simp only [Bool.or_eq_true, decide_eq_true_eq] at hb
    have hr : stepF d kind id n = (d, 1, 0) := by unfold stepF; rw [if_neg h1, if_neg h3, if_pos hb]
    rw [hr]
    refine retS h 5 3 2 rfl rfl rfl rfl rfl (by simp) (fun w2 h => ?_)
    exact ⟨t, l, rfl, (((h.dropAt 5).dropAt 4).dropAt 3).dropAt 2⟩
  simp only [Bool.or_eq_false_iff, decide_eq_false_iff_not] at hb
  have hb' : ¬ (kind < 1 ∨ kind > 8) := by omega
  refine ⟨_, h.cell 5 rfl rfl, _, h.cell 5 rfl rfl, t, h.cell 5 rfl rfl, l, h.cell 5 rfl rfl, _, h.cell 4 rfl rfl, (c80 (satOf h 0 1 rfl rfl ⟨by omega, by omega⟩)).mono ?_⟩
  rintro _ w70 ⟨rfl, e70⟩
  have h := h.to e70
  refine ⟨_, rfl, ?_⟩
  rcases idT_find d id with ⟨hid, hno⟩ | ⟨i, x, hid, hx, hxo⟩
  · have hr : stepF d kind id n = (d, 3, 0) := by
      unfold stepF
      rw [if_neg h1, if_neg h3, if_neg hb', hid]
      split
      · rfl
      · rfl
    rw [hid, hr]
    refine BIf.t rfl ?_
    refine retS h 5 3 2 rfl rfl rfl rfl rfl (by simp) (fun w2 h => ?_)
    exact ⟨t, l, rfl, (((h.dropAt 5).dropAt 4).dropAt 3).dropAt 2⟩
  rw [hid, step_thr h1 h3 hb' hid hx]
  have hxid := (thrOf_id hxo).1
  have hxm := List.mem_of_getElem? hx
  have hxt := hi.tok x hxm
  have hil := (List.getElem?_eq_some_iff.1 hx).1
  obtain ⟨q, hqa⟩ := h.rowQ 0 rfl hx
  refine BIf.f (decide_eq_false (by omega)) ⟨_, h.cell 4 rfl rfl, ?_⟩
  refine BIf.eq (fun h2 => ?_) (fun h2 => ?_)
  · have hr : thrF d i x kind id n = (exitF d x.Id, 0, 0) := by unfold thrF; rw [if_pos h2, hxid]
    rw [hr]
    refine ⟨_, h.cell 5 rfl rfl, _, h.cell 5 rfl rfl, t, h.cell 5 rfl rfl, l, h.cell 5 rfl rfl, (s109 h hi hn hq hx).mono ?_⟩
    rintro _ w12 ⟨t', l', rfl, h⟩
    refine ⟨_, _, t', l', rfl, ?_⟩
    refine retR h 3 2 rfl rfl rfl rfl (by simp) (fun w2 h => ?_)
    exact ⟨t', l', rfl, (((h.dropAt 5).dropAt 4).dropAt 3).dropAt 2⟩
  simp only [join_sw]
  refine BIf.of (fun h45 => ?_) (fun h45 => ?_)
  · have h45 : kind = 4 ∨ kind = 5 := by simpa using h45
    have hr : thrF d i x kind id n = lockR d i x kind id n := by unfold thrF lockR; rw [if_neg h2, if_pos h45]; rfl
    rw [hr]
    refine ⟨_, h.cell 5 rfl rfl, _, h.cell 5 rfl rfl, t, h.cell 5 rfl rfl, l, h.cell 5 rfl rfl, _, h.cell 4 rfl rfl, _, h.cell 4 rfl rfl, _, h.cell 4 rfl rfl, (s110 h hi hn hq hx).mono ?_⟩
    rintro _ w12 ⟨t', l', rfl, h⟩
    refine ⟨_, _, t', l', _, _, rfl, ?_⟩
    refine retR h 3 2 rfl rfl rfl rfl (by simp) (fun w2 h => ?_)
    exact ⟨t', l', rfl, (((h.dropAt 5).dropAt 4).dropAt 3).dropAt 2⟩
  have h45 : ¬ (kind = 4 ∨ kind = 5) := by simpa using h45
  have ht0 : thrF d i x kind id n = if kind = 6 then
    if n < 1 ∨ n > 1000 then (d, 1, 0) else if x.State ≠ 1 then (d, 21, 0)
    else (⟨d.Now, d.Seq, d.Threads.set i ⟨x.Id, x.Base, 3, x.Line, x.Left, x.Since, d.Now + n, x.Wait⟩, d.Locks⟩, 0, 0)
  else if kind = 7 then (if x.State ≠ 3 then (d, 21, 0) else (standF d i d.Now, 0, 0))
  else if n < 0 ∨ n > 7 then (d, 1, 0) else (⟨d.Now, d.Seq, d.Threads.set i ⟨x.Id, n, x.State, x.Line, x.Left, x.Since, x.Until, x.Wait⟩, d.Locks⟩, 0, 0) := by unfold thrF; rw [if_neg h2, if_neg h45]
  rw [ht0]
  simp only [Int.toNat_natCast]
  refine BIf.eq (fun h6 => ?_) (fun h6 => ?_)
  · rw [if_pos h6]
    refine ⟨_, h.cell 4 rfl rfl, ?_⟩
    refine join_or_ex _ (h.cell 4 rfl rfl) ?_
    refine BIf.of (fun hb => ?_) (fun hb => ?_)
    · simp only [Bool.or_eq_true, decide_eq_true_eq] at hb
      rw [if_pos hb]
      refine retS h 5 3 2 rfl rfl rfl rfl rfl (by simp) (fun w2 h => ?_)
      exact ⟨t, l, rfl, (((h.dropAt 5).dropAt 4).dropAt 3).dropAt 2⟩
    simp only [Bool.or_eq_false_iff, decide_eq_false_iff_not] at hb
    rw [if_neg (show ¬ (n < 1 ∨ n > 1000) by omega)]
    refine ⟨t, h.cell 5 rfl rfl, by omega, by omega, q, hqa, _, h.rdR 0 rfl hqa hx rfl, BIf.ne (fun hs => ?_) (fun hs => ?_)⟩
    · rw [if_pos hs]
      refine retS h 5 3 2 rfl rfl rfl rfl rfl (by simp) (fun w2 h => ?_)
      exact ⟨t, l, rfl, (((h.dropAt 5).dropAt 4).dropAt 3).dropAt 2⟩
    rw [if_neg (by omega)]
    refine ⟨t, h.cell 5 rfl rfl, by omega, by omega, q, hqa, ?_⟩
    rw [set_at hx] at h
    refine h.setR 0 (⟨x.Id, x.Base, 3, x.Line, x.Left, x.Since, x.Until, x.Wait⟩ : DThread) rfl hqa hil (by show 2 < 8; omega) rfl (fun w65 h nw65 => ?_)
    refine ⟨t, h.cell 5 rfl rfl, _, h.cell 5 rfl rfl, _, h.cell 4 rfl rfl, by omega, by omega, q, hqa, ?_⟩
    rw [w64 (n := d.Now + n) (by omega) (by omega)]
    refine h.setR 0 (⟨x.Id, x.Base, 3, x.Line, x.Left, x.Since, d.Now + n, x.Wait⟩ : DThread) rfl hqa hil (by show 6 < 8; omega) rfl (fun w69 h nw69 => ?_)
    refine retS h 5 3 2 rfl rfl rfl rfl rfl (by simp) (fun w2 h => ?_)
    exact ⟨t, l, rfl, (((h.dropAt 5).dropAt 4).dropAt 3).dropAt 2⟩
  rw [if_neg h6]
  refine BIf.eq (fun h7 => ?_) (fun h7 => ?_)
  · rw [if_pos h7]
    refine ⟨t, h.cell 5 rfl rfl, by omega, by omega, q, hqa, _, h.rdR 0 rfl hqa hx rfl, BIf.ne (fun hs => ?_) (fun hs => ?_)⟩
    · rw [if_pos hs]
      refine retS h 5 3 2 rfl rfl rfl rfl rfl (by simp) (fun w2 h => ?_)
      exact ⟨t, l, rfl, (((h.dropAt 5).dropAt 4).dropAt 3).dropAt 2⟩
    rw [if_neg (by omega)]
    refine ⟨_, h.cell 5 rfl rfl, _, h.cell 5 rfl rfl, t, h.cell 5 rfl rfl, l, h.cell 5 rfl rfl, _, h.cell 5 rfl rfl, (s111 h hx ⟨hnow.2, by omega⟩ (by omega)).mono ?_⟩
    rintro _ w12 ⟨t', l', rfl, h⟩
    refine ⟨_, _, t', l', rfl, ?_⟩
    refine retR h 3 2 rfl rfl rfl rfl (by simp) (fun w2 h => ?_)
    exact ⟨t', l', rfl, (((h.dropAt 5).dropAt 4).dropAt 3).dropAt 2⟩
  rw [if_neg h7]
  refine ⟨_, h.cell 4 rfl rfl, ?_⟩
  refine join_or_ex _ (h.cell 4 rfl rfl) ?_
  refine BIf.of (fun hb => ?_) (fun hb => ?_)
  · simp only [Bool.or_eq_true, decide_eq_true_eq] at hb
    rw [if_pos hb]
    refine retS h 5 3 2 rfl rfl rfl rfl rfl (by simp) (fun w2 h => ?_)
    exact ⟨t, l, rfl, (((h.dropAt 5).dropAt 4).dropAt 3).dropAt 2⟩
  simp only [Bool.or_eq_false_iff, decide_eq_false_iff_not] at hb
  rw [if_neg (show ¬ (n < 0 ∨ n > 7) by omega)]
  refine ⟨t, h.cell 5 rfl rfl, _, h.cell 4 rfl rfl, by omega, by omega, q, hqa, ?_⟩
  rw [set_at hx] at h
  refine h.setR 0 (⟨x.Id, n, x.State, x.Line, x.Left, x.Since, x.Until, x.Wait⟩ : DThread) rfl hqa hil (by show 1 < 8; omega) rfl (fun w65 h nw65 => ?_)
  refine retS h 5 3 2 rfl rfl rfl rfl rfl (by simp) (fun w2 h => ?_)
  exact ⟨t, l, rfl, (((h.dropAt 5).dropAt 4).dropAt 3).dropAt 2⟩
end Go.Proofs.Yteigefjiifihpaa

/- The scheduler, the reference's side: SchedStep, SchedRun. Conditions: none. -/
set_option linter.unusedVariables false
set_option linter.unusedSimpArgs false
namespace Go.Proofs.Yteigefjiifihpaa
open Go Go.Den
open Classical in
noncomputable def stepR (d : DSched) (kind id n : Int) : DSched × Int × Int := if SOk d then stepF d kind id n else (⟨0, 0, [], []⟩, 0, 0)
/-! ## SchedRun -/
def runL : DSched → List DSchedOp → List DSchedRes
  | _, [] => []
  | d, op :: r => ⟨(stepF d op.Kind op.Id op.N).2.1, (stepF d op.Kind op.Id op.N).2.2⟩ :: runL (stepF d op.Kind op.Id op.N).1 r
def zeroS : DSched := ⟨0, 0, [], []⟩
def runF (ops : List DSchedOp) : List DSchedRes := if ops.length > 4096 then [] else runL zeroS ops
theorem zero_inv : Inv0 zeroS := ⟨⟨by decide, by decide⟩, List.Pairwise.nil, List.Pairwise.nil, (fun t ht => by cases ht), (fun t ht => by cases ht), (fun t ht => by cases ht), (fun t ht => by cases ht), List.Pairwise.nil, ⟨fun _ => 0, fun t ht => by cases ht⟩⟩
theorem plain_res (x : DSchedRes) : ∀ v, v ∈ x.cells → plainB v = true := by intro v hv; simp [DSchedRes.cells] at hv; rcases hv with rfl | rfl <;> rfl
abbrev RO (s : Sl) (l : List DSchedRes) : Asr := aRow s 2 (recs DSchedRes.cells l)
theorem runL_len : ∀ (ops : List DSchedOp) (d : DSched), (runL d ops).length = ops.length
  | [], d => rfl
  | op :: r, d => by unfold runL; simp [runL_len r]
theorem s12 {w : World} {a0 : Sl} {ops : List DSchedOp} (ho : RecsAt w a0 3 DSchedOp.cells ops) :
    CallW Try.prog 12 #[.slice a0.a a0.len a0.cap] w (fun v w' => ∃ s : Sl, v = .slice s.a s.len s.cap ∧ SH w w' [RO s (runF ops)]) := by
  refine go12 ?_
  unfold W12
  have hol := ho.len
  have h := SH.start w
  refine h.alloc (fun w1 h ew1 nw1 => ?_)
  have h : SH w w1 [RO ⟨some ⟨w.heap.size, 0, none⟩, 0, 0⟩ []] := h.drop.nil _ 2
  refine BIf.dec (fun hbig => ?_) (fun hfew => ?_)
  · refine ⟨⟨some ⟨w.heap.size, 0, none⟩, 0, 0⟩, rfl, ?_⟩
    unfold runF
    rw [if_pos (by omega)]
    exact h
  have hrun : runF ops = runL zeroS ops := by unfold runF; rw [if_neg (by omega)]
  rw [hrun]
  refine h.alloc (fun w2 h ew2 nw2 => ?_)
  refine h.put 0 rfl rfl rfl (fun w3 h nw3 => ?_)
  have h : SH w w3 [RO ⟨some ⟨w.heap.size, 0, none⟩, 0, 0⟩ [], RT ⟨none, 0, 0⟩ zeroS.Threads, RL ⟨none, 0, 0⟩ zeroS.Locks, aB w1.heap.size ((sCells zeroS.Now zeroS.Seq ⟨none, 0, 0⟩ ⟨none, 0, 0⟩).map Ce.v)] := (SH.nil (SH.nil h none 2) none 8).front (n := 3) rfl
  refine LoopW.m2 (fun (s : Sl) (i : Int) w' => ∃ (n : Nat) (e : DSched) (out : List DSchedRes) (t l : Sl), i = n ∧ n ≤ ops.length ∧ out.length = n ∧ out ++ runL e (ops.drop n) = runL zeroS ops ∧ Inv0 e ∧ e.Now ≤ n ∧ e.Seq ≤ 33 * n ∧ SH w w' [RO s out, RT t e.Threads, RL l e.Locks, aB w1.heap.size ((sCells e.Now e.Seq t l).map Ce.v)]) (fun _ (i : Int) _ => (a0.len - i).toNat)
    ⟨0, zeroS, [], _, _, rfl, Nat.zero_le _, rfl, rfl, zero_inv, by decide, by decide, h⟩ ?_
  clear h
  rintro (s : Sl) (i : Int) w7 ⟨n, e, out, t, l, rfl, hnl, hout, hruns, hie, hen, hes, h⟩ J hJ
  refine BIf.dec (fun hlt => ?_) (fun hge => ?_)
  · have hk : n < ops.length := by omega
    have hget : ops[n]? = some ops[n] := List.getElem?_eq_getElem hk
    rw [List.drop_eq_getElem_cons hk, runL] at hruns
    obtain ⟨q, hq, hcell⟩ := ho.get (by omega) hget
    generalize ops[n] = op at *
    obtain ⟨hi2, hn2, hq2⟩ := hie.step (by omega) op.Kind op.Id op.N
    simp only [Int.toNat_natCast]
    rw [w64 (n := (n : Int) + 1) (by omega) (by omega)]
    refine JoinW.cut2 (fun (p8 p9 : Option Addr) w' => ∃ (b c : Nat) (t' l' : Sl), p8 = some ⟨b, 0, none⟩ ∧ p9 = some ⟨c, 0, none⟩ ∧ SH w w' [RO s out, RT t' (stepF e op.Kind op.Id op.N).1.Threads, RL l' (stepF e op.Kind op.Id op.N).1.Locks, aB b ((sCells (stepF e op.Kind op.Id op.N).1.Now (stepF e op.Kind op.Id op.N).1.Seq t' l').map Ce.v), aB c ((rsV (stepF e op.Kind op.Id op.N).2.1 (stepF e op.Kind op.Id op.N).2.2).map Ce.v), aB w1.heap.size ((sCells e.Now e.Seq t l).map Ce.v)]) ?_ ?_
    · have h := h.drew
      refine ⟨_, h.cell 3 rfl rfl, _, h.cell 3 rfl rfl, t, h.cell 3 rfl rfl, l, h.cell 3 rfl rfl, by omega, by omega, q, hq, _, h.ext.cell (hcell 0 _ rfl), _, h.ext.cell (hcell 1 _ rfl), _, h.ext.cell (hcell 2 _ rfl), ?_⟩
      refine ⟨?_, ?_⟩
      · skip
        refine (s61 ((h.front (n := 2) rfl).front (n := 2) rfl) hie (by omega) (by omega)).mono ?_
        rintro _ w121 ⟨tw121, lw121, rfl, h⟩
        refine ⟨_, _, tw121, lw121, _, _, rfl, ?_⟩
        refine ⟨?_, ?_⟩
        · skip
          refine h.alloc (fun w146 h ew146 nw146 => ?_)
          refine ⟨⟨_, h.ext.cell (hcell 0 _ rfl), _, h.ext.cell (hcell 1 _ rfl), _, h.ext.cell (hcell 2 _ rfl), rfl⟩, ?_⟩
          refine ⟨⟨_, h.cell 4 rfl rfl, _, h.cell 4 rfl rfl, t, h.cell 4 rfl rfl, l, h.cell 4 rfl rfl, rfl⟩, ?_⟩
          refine ⟨?_, trivial⟩
          refine h.alloc (fun w154 h ew154 nw154 => ?_)
          refine ⟨⟨_, h.ext.cell (hcell 0 _ rfl), _, h.ext.cell (hcell 1 _ rfl), _, h.ext.cell (hcell 2 _ rfl), rfl⟩, ?_⟩
          refine ⟨⟨_, h.cell 5 rfl rfl, _, h.cell 5 rfl rfl, t, h.cell 5 rfl rfl, l, h.cell 5 rfl rfl, rfl⟩, ?_⟩
          refine ⟨?_, trivial⟩
          refine h.put 1 rfl rfl rfl (fun w162 h nw162 => ?_)
          refine ⟨?_, trivial⟩
          refine h.put 0 rfl rfl rfl (fun w163 h nw163 => ?_)
          exact ⟨_, _, tw121, lw121, rfl, rfl, ((((((h.front (n := 5) rfl).front (n := 1) rfl).front (n := 2) rfl).front (n := 4) rfl).front (n := 4) rfl).front (n := 5) rfl)⟩
        · skip
          refine ⟨?_, trivial⟩
          refine h.alloc (fun w128 h ew128 nw128 => ?_)
          refine ⟨⟨_, h.ext.cell (hcell 0 _ rfl), _, h.ext.cell (hcell 1 _ rfl), _, h.ext.cell (hcell 2 _ rfl), rfl⟩, ?_⟩
          refine ⟨⟨_, h.cell 4 rfl rfl, _, h.cell 4 rfl rfl, t, h.cell 4 rfl rfl, l, h.cell 4 rfl rfl, rfl⟩, ?_⟩
          refine ⟨?_, trivial⟩
          refine h.alloc (fun w136 h ew136 nw136 => ?_)
          refine ⟨⟨_, h.ext.cell (hcell 0 _ rfl), _, h.ext.cell (hcell 1 _ rfl), _, h.ext.cell (hcell 2 _ rfl), rfl⟩, ?_⟩
          refine ⟨⟨_, h.cell 5 rfl rfl, _, h.cell 5 rfl rfl, t, h.cell 5 rfl rfl, l, h.cell 5 rfl rfl, rfl⟩, ?_⟩
          refine ⟨?_, trivial⟩
          refine h.put 0 rfl rfl rfl (fun w144 h nw144 => ?_)
          refine ⟨?_, trivial⟩
          refine h.put 1 rfl rfl rfl (fun w145 h nw145 => ?_)
          exact ⟨_, _, tw121, lw121, rfl, rfl, ((((((h.front (n := 5) rfl).front (n := 2) rfl).front (n := 2) rfl).front (n := 4) rfl).front (n := 4) rfl).front (n := 5) rfl)⟩
      · skip
        refine ⟨?_, ?_⟩
        · skip
          refine h.alloc (fun w76 h ew76 nw76 => ?_)
          refine ⟨⟨_, h.ext.cell (hcell 0 _ rfl), _, h.ext.cell (hcell 1 _ rfl), _, h.ext.cell (hcell 2 _ rfl), rfl⟩, ?_⟩
          refine ⟨⟨_, h.cell 4 rfl rfl, _, h.cell 4 rfl rfl, t, h.cell 4 rfl rfl, l, h.cell 4 rfl rfl, rfl⟩, ?_⟩
          refine ⟨?_, ?_⟩
          · skip
            refine (s61 ((h.front (n := 3) rfl).front (n := 3) rfl) hie (by omega) (by omega)).mono ?_
            rintro _ w103 ⟨tw103, lw103, rfl, h⟩
            refine ⟨_, _, tw103, lw103, _, _, rfl, ?_⟩
            refine ⟨?_, trivial⟩
            refine h.alloc (fun w110 h ew110 nw110 => ?_)
            refine ⟨⟨_, h.ext.cell (hcell 0 _ rfl), _, h.ext.cell (hcell 1 _ rfl), _, h.ext.cell (hcell 2 _ rfl), rfl⟩, ?_⟩
            refine ⟨⟨_, h.cell 5 rfl rfl, _, h.cell 5 rfl rfl, t, h.cell 5 rfl rfl, l, h.cell 5 rfl rfl, rfl⟩, ?_⟩
            refine ⟨?_, trivial⟩
            refine h.put 3 rfl rfl rfl (fun w118 h nw118 => ?_)
            refine ⟨?_, trivial⟩
            refine h.put 0 rfl rfl rfl (fun w119 h nw119 => ?_)
            exact ⟨_, _, tw103, lw103, rfl, rfl, ((((((h.front (n := 5) rfl).front (n := 1) rfl).front (n := 4) rfl).front (n := 4) rfl).front (n := 4) rfl).front (n := 5) rfl)⟩
          · skip
            refine ⟨?_, trivial⟩
            refine h.alloc (fun w84 h ew84 nw84 => ?_)
            refine ⟨⟨_, h.ext.cell (hcell 0 _ rfl), _, h.ext.cell (hcell 1 _ rfl), _, h.ext.cell (hcell 2 _ rfl), rfl⟩, ?_⟩
            refine ⟨⟨_, h.cell 5 rfl rfl, _, h.cell 5 rfl rfl, t, h.cell 5 rfl rfl, l, h.cell 5 rfl rfl, rfl⟩, ?_⟩
            refine ⟨?_, trivial⟩
            refine (s61 ((h.front (n := 4) rfl).front (n := 4) rfl) hie (by omega) (by omega)).mono ?_
            rintro _ w93 ⟨tw93, lw93, rfl, h⟩
            refine ⟨_, _, tw93, lw93, _, _, rfl, ?_⟩
            refine ⟨?_, trivial⟩
            refine h.put 3 rfl rfl rfl (fun w100 h nw100 => ?_)
            refine ⟨?_, trivial⟩
            refine h.put 2 rfl rfl rfl (fun w101 h nw101 => ?_)
            exact ⟨_, _, tw93, lw93, rfl, rfl, ((((((h.front (n := 5) rfl).front (n := 3) rfl).front (n := 4) rfl).front (n := 4) rfl).front (n := 4) rfl).front (n := 5) rfl)⟩
        · skip
          refine ⟨?_, trivial⟩
          refine h.alloc (fun w32 h ew32 nw32 => ?_)
          refine ⟨⟨_, h.ext.cell (hcell 0 _ rfl), _, h.ext.cell (hcell 1 _ rfl), _, h.ext.cell (hcell 2 _ rfl), rfl⟩, ?_⟩
          refine ⟨⟨_, h.cell 4 rfl rfl, _, h.cell 4 rfl rfl, t, h.cell 4 rfl rfl, l, h.cell 4 rfl rfl, rfl⟩, ?_⟩
          refine ⟨?_, ?_⟩
          · skip
            refine (s61 ((h.front (n := 3) rfl).front (n := 3) rfl) hie (by omega) (by omega)).mono ?_
            rintro _ w59 ⟨tw59, lw59, rfl, h⟩
            refine ⟨_, _, tw59, lw59, _, _, rfl, ?_⟩
            refine ⟨?_, trivial⟩
            refine h.alloc (fun w66 h ew66 nw66 => ?_)
            refine ⟨⟨_, h.ext.cell (hcell 0 _ rfl), _, h.ext.cell (hcell 1 _ rfl), _, h.ext.cell (hcell 2 _ rfl), rfl⟩, ?_⟩
            refine ⟨⟨_, h.cell 5 rfl rfl, _, h.cell 5 rfl rfl, t, h.cell 5 rfl rfl, l, h.cell 5 rfl rfl, rfl⟩, ?_⟩
            refine ⟨?_, trivial⟩
            refine h.put 0 rfl rfl rfl (fun w74 h nw74 => ?_)
            refine ⟨?_, trivial⟩
            refine h.put 3 rfl rfl rfl (fun w75 h nw75 => ?_)
            exact ⟨_, _, tw59, lw59, rfl, rfl, ((((((h.front (n := 5) rfl).front (n := 4) rfl).front (n := 2) rfl).front (n := 4) rfl).front (n := 4) rfl).front (n := 5) rfl)⟩
          · skip
            refine ⟨?_, trivial⟩
            refine h.alloc (fun w40 h ew40 nw40 => ?_)
            refine ⟨⟨_, h.ext.cell (hcell 0 _ rfl), _, h.ext.cell (hcell 1 _ rfl), _, h.ext.cell (hcell 2 _ rfl), rfl⟩, ?_⟩
            refine ⟨⟨_, h.cell 5 rfl rfl, _, h.cell 5 rfl rfl, t, h.cell 5 rfl rfl, l, h.cell 5 rfl rfl, rfl⟩, ?_⟩
            refine ⟨?_, trivial⟩
            refine (s61 ((h.front (n := 4) rfl).front (n := 4) rfl) hie (by omega) (by omega)).mono ?_
            rintro _ w49 ⟨tw49, lw49, rfl, h⟩
            refine ⟨_, _, tw49, lw49, _, _, rfl, ?_⟩
            refine ⟨?_, trivial⟩
            refine h.put 2 rfl rfl rfl (fun w56 h nw56 => ?_)
            refine ⟨?_, trivial⟩
            refine h.put 3 rfl rfl rfl (fun w57 h nw57 => ?_)
            exact ⟨_, _, tw49, lw49, rfl, rfl, ((((((h.front (n := 5) rfl).front (n := 4) rfl).front (n := 4) rfl).front (n := 4) rfl).front (n := 4) rfl).front (n := 5) rfl)⟩
    · rintro (p8 : Option Addr) (p9 : Option Addr) w11 ⟨b, c, t', l', rfl, rfl, h⟩
      refine addrOf_mk ?_
      refine ⟨_, h.cellP 3 rfl rfl, _, h.cellP 3 rfl rfl, t', h.cellP 3 rfl rfl, l', h.cellP 3 rfl rfl, ?_⟩
      refine h.put 5 rfl rfl rfl (fun w17 h nw17 => ?_)
      refine addrOf_mk ?_
      refine ⟨_, h.cellP 4 rfl rfl, _, h.cellP 4 rfl rfl, ?_⟩
      refine LetW_iff.2 (SH.appendR1 (f := DSchedRes.cells) (x := ⟨(stepF e op.Kind op.Id op.N).2.1, (stepF e op.Kind op.Id op.N).2.2⟩) h rfl rfl rfl (by decide) (by show _ * 16 ≤ _; omega) (plain_res _) (fun l22 w23 h hl22 _ => ?_))
      refine hJ _ _ _ ⟨n + 1, (stepF e op.Kind op.Id op.N).1, out ++ [(⟨(stepF e op.Kind op.Id op.N).2.1, (stepF e op.Kind op.Id op.N).2.2⟩ : DSchedRes)], t', l', by omega, by omega, by simp [hout], ?_, hi2, by omega, by omega, (h.dropAt 4).dropAt 3⟩ (by omega)
      rw [List.append_assoc]; exact hruns
  · rw [List.drop_eq_nil_of_le (by omega)] at hruns
    have hruns : out ++ [] = runL zeroS ops := hruns
    rw [List.append_nil] at hruns
    rw [← hruns]
    exact ⟨s, rfl, h.one⟩
end Go.Proofs.Yteigefjiifihpaa

/- The scheduler, the program's side: stand, a lock handed on. Conditions: none. -/
set_option linter.unusedVariables false
set_option linter.unusedSimpArgs false
namespace Go.Proofs.Yteigefjiifihpaa
open Go Go.Den
abbrev PB (b : Nat) (d : DSched) (t l : Sl) : Asr := aB b ((sCells d.Now d.Seq t l).map Ce.v)
theorem patOf {w0 w : World} {As : List Asr} (h : SH w0 w As) (n : Nat) {b : Nat} {d : DSched} {t l : Sl} (hA : As[n]? = some (PB b d t l)) : PAt w ⟨b, 0, none⟩ d.Now d.Seq t l := fun j v hj => h.cellP n hA (by rw [List.getElem?_map, hj]; rfl)
theorem s115 {w0 w : World} {F : List Asr} {b : Nat} {t l : Sl} {d : DSched} {i : Nat} {x : DThread} {q : Addr} (h : SH w0 w (PB b d t l :: RT t d.Threads :: RL l d.Locks :: F)) (hx : d.Threads[i]? = some x) (hqa : t.a = some q) (hq : 0 ≤ d.Seq ∧ d.Seq ≤ 4398046511104) :
    CallW Try.prog 115 #[.pointer (some ⟨b, 0, none⟩), .pointer (some (q.add (i * 8)))] w (fun v w' => v = .tuple #[] ∧ SH w0 w' (PB b (standF d i d.Now) t l :: RT t (standF d i d.Now).Threads :: RL l (standF d i d.Now).Locks :: F)) := by
  refine go115 ?_
  unfold W115
  have hil := (List.getElem?_eq_some_iff.1 hx).1
  rw [standF_at hx]
  refine ⟨_, rfl, _, h.cellP 0 rfl rfl, _, rfl, ?_⟩
  rw [w64 (n := d.Seq + 1) (by omega) (by omega)]
  refine h.setVP 0 rfl rfl (fun w4 h nw4 => ?_)
  have h := h.drew
  refine ⟨_, rfl, _, h.cellP 0 rfl rfl, _, rfl, _, h.cellP 0 rfl rfl, _, rfl, ?_⟩
  rw [set_at hx] at h
  refine h.setR 1 (⟨x.Id, x.Base, 1, x.Line, x.Left, x.Since, x.Until, x.Wait⟩ : DThread) rfl hqa hil (by show 2 < 8; omega) rfl (fun w10 h nw10 => ⟨_, rfl, ?_⟩)
  refine h.setR 1 (⟨x.Id, x.Base, 1, d.Seq + 1, x.Left, x.Since, x.Until, x.Wait⟩ : DThread) rfl hqa hil (by show 3 < 8; omega) rfl (fun w12 h nw12 => ⟨_, rfl, ?_⟩)
  refine h.setR 1 (⟨x.Id, x.Base, 1, d.Seq + 1, 4, x.Since, x.Until, x.Wait⟩ : DThread) rfl hqa hil (by show 4 < 8; omega) rfl (fun w14 h nw14 => ⟨_, rfl, ?_⟩)
  refine h.setR 1 (⟨x.Id, x.Base, 1, d.Seq + 1, 4, d.Now, x.Until, x.Wait⟩ : DThread) rfl hqa hil (by show 5 < 8; omega) rfl (fun w16 h nw16 => ⟨_, rfl, ?_⟩)
  refine h.setR 1 (⟨x.Id, x.Base, 1, d.Seq + 1, 4, d.Now, x.Until, -1⟩ : DThread) rfl hqa hil (by show 7 < 8; omega) rfl (fun w18 h nw18 => ⟨_, rfl, ?_⟩)
  refine h.setR 1 (⟨x.Id, x.Base, 1, d.Seq + 1, 4, d.Now, 0, -1⟩ : DThread) rfl hqa hil (by show 6 < 8; omega) rfl (fun w20 h nw20 => ?_)
  exact ⟨rfl, h⟩
theorem c150 {p c : Addr} {x : DThread} {id : Int} {w : World} (hc : ∀ j v, x.cells[j]? = some v → w.cell? (p.add j) = some v) (hid : w.cell? c = some (.int .i64 id)) : CallW Try.prog 150 #[.pointer (some p), .pointer (some c)] w (fun v w' => v = .bool (waitsFor id x) ∧ Ext w w') := by
  refine go150 ?_
  unfold W150
  have e := ext_drew w
  refine ⟨p, rfl, _, e.cell (hc 2 _ rfl), BIf.of (fun hs => ⟨p, rfl, _, e.cell (hc 7 _ rfl), _, e.cell hid, ?_, e⟩) (fun hs => ⟨?_, e⟩)⟩
  · unfold waitsFor; rw [hs]; rfl
  · unfold waitsFor; rw [hs]; rfl
theorem s116 {w0 w : World} {F : List Asr} {b : Nat} {t l : Sl} {d : DSched} {id : Int} {k : DLock} (h : SH w0 w (PB b d t l :: RT t d.Threads :: RL l d.Locks :: F)) (hm : Mid d) (hs : Srt DLock.Id d.Locks) (hk : k ∈ d.Locks) (hid : k.Id = id) (hq : 0 ≤ d.Seq ∧ d.Seq ≤ 4398046511104) (hf : d.Threads.length ≤ 1048576 ∧ d.Locks.length ≤ 1048576) :
    CallW Try.prog 116 #[.pointer (some ⟨b, 0, none⟩), .int .i64 id] w (fun v w' => v = .tuple #[] ∧ ∃ l' : Sl, SH w0 w' (PB b (handF d id) t l' :: RT t (handF d id).Threads :: RL l' (handF d id).Locks :: F)) := by
  refine go116 ?_
  unfold W116
  have hll := h.len 2 rfl
  rw [recs_len] at hll
  refine h.alloc (fun w1 h ew1 nw1 => ?_)
  have hcap := h.cell 0 (i := 0) rfl rfl
  refine (c124 (f := 150) (fx := []) (fc := [.pointer (some ⟨w.heap.size, 0, none⟩)]) (ok := waitsFor id) hm (patOf h 1 rfl) (satOf h 2 3 rfl rfl hf) (fun x p w' e hc => c150 hc (e.cell hcap))).mono ?_
  rintro _ w3 ⟨rfl, e3, hrange⟩
  have h := h.to e3
  refine ⟨_, rfl, ?_⟩
  have hhf : handF d id = if bestF d (waitsFor id) < 0 then ⟨d.Now, d.Seq, d.Threads, d.Locks.filter (fun k => k.Id != id)⟩
    else match d.Threads[(bestF d (waitsFor id)).toNat]? with
      | some w => standF ⟨d.Now, d.Seq, d.Threads, d.Locks.set (idL d id).toNat ⟨id, w.Id⟩⟩ (bestF d (waitsFor id)).toNat d.Now
      | none => d := rfl
  rcases bestF_cases hm (waitsFor id) with ⟨h1, _⟩ | ⟨i, x, hx, _, h1⟩
  · rw [h1, if_pos (by omega)] at hhf
    rw [h1, ptr_none, hhf]
    refine BIf.t rfl ⟨_, rfl, l, h.cellP 1 rfl rfl, ?_⟩
    have h : SH w0 w3 (RL ⟨none, 0, 0⟩ ((d.Locks.take 0).filter (fun k => k.Id != id)) :: aB w.heap.size ([.int .i64 id].map Ce.v) :: PB b d t l :: RT t d.Threads :: RL l d.Locks :: F) := SH.nil h none 2
    refine LoopW.m2 (fun (s : Sl) (i : Int) w' => ∃ m : Nat, i = m ∧ m ≤ d.Locks.length ∧ SH w0 w' (RL s ((d.Locks.take m).filter (fun k => k.Id != id)) :: aB w.heap.size ([.int .i64 id].map Ce.v) :: PB b d t l :: RT t d.Threads :: RL l d.Locks :: F)) (fun _ (i : Int) _ => (d.Locks.length - i).toNat) ⟨0, rfl, by omega, h⟩ ?_
    clear h
    rintro (s : Sl) (i : Int) w10 ⟨m, rfl, hmm, h⟩ J hJ
    refine BIf.dec (fun hlt => ?_) (fun hge => ?_)
    · have hml : m < d.Locks.length := by omega
      have hget : d.Locks[m]? = some d.Locks[m] := List.getElem?_eq_getElem hml
      obtain ⟨r, hra⟩ := h.rowQ 4 rfl hget
      have hfs := filter_take_succ (fun k : DLock => k.Id != id) hget
      generalize d.Locks[m] = y at *
      simp only [Int.toNat_natCast]
      rw [w64 (n := (m : Int) + 1) (by omega) (by omega)]
      refine ⟨by omega, by omega, r, hra, _, h.rdR 4 rfl hra hget rfl, _, h.rdR 4 rfl hra hget rfl, ?_⟩
      refine h.alloc (fun w14 h ew14 nw14 => ?_)
      refine h.put 0 rfl rfl rfl (fun w15 h nw15 => ?_)
      refine ⟨_, h.cell 0 rfl rfl, _, h.cell 2 rfl rfl, BIf.of (fun hc => ?_) (fun hc => ?_)⟩
      · refine ⟨_, h.cell 0 rfl rfl, _, h.cell 0 rfl rfl, ?_⟩
        have hlen := List.length_filter_le (fun k : DLock => k.Id != id) (d.Locks.take m)
        rw [List.length_take] at hlen
        refine LetW_iff.2 (SH.appendR1 (f := DLock.cells) (x := y) h.drop rfl rfl rfl (by decide) (by show _ * 16 ≤ _; omega) (plain_lck _) (fun l28 w29 h hl28 _ => ?_))
        rw [if_pos hc] at hfs
        exact hJ _ _ _ ⟨m + 1, by omega, by omega, by rw [hfs]; exact h⟩ (by omega)
      · rw [if_neg (by rw [hc]; simp), List.append_nil] at hfs
        exact hJ _ _ _ ⟨m + 1, by omega, by omega, by rw [hfs]; exact h.drop⟩ (by omega)
    · rw [show m = d.Locks.length by omega, List.take_length] at h
      refine ⟨_, rfl, ?_⟩
      refine h.setVP 2 rfl rfl (fun w24 h nw24 => ?_)
      exact ⟨rfl, s, ((h.dropAt 4).dropAt 1).p2.p2⟩
  · rw [h1, if_neg (by omega), Int.toNat_natCast, hx] at hhf
    simp only at hhf
    obtain ⟨j, hj, hjk⟩ := idL_at hm.findL hk hid
    have hjl := (List.getElem?_eq_some_iff.1 hjk).1
    rw [hj, Int.toNat_natCast] at hhf
    obtain ⟨q, hqa⟩ := h.rowQ 2 rfl hx
    obtain ⟨r, hra⟩ := h.rowQ 3 rfl hjk
    rw [h1, ptr_some hqa, hhf]
    have h := h.drew
    refine BIf.f rfl ⟨_, h.cell 0 rfl rfl, _, rfl, _, h.rdR 2 rfl hqa hx rfl, (c83 (patOf h 1 rfl) (satOf h 2 3 rfl rfl hf)).mono ?_⟩
    rintro _ w29 ⟨rfl, rfl⟩
    rw [hj, ptr_some hra]
    refine ⟨_, rfl, ⟨_, h.rdR 2 rfl hqa hx rfl, rfl⟩, _, rfl, ?_⟩
    rw [set_at hjk] at h
    refine h.setR 3 (⟨id, x.Id⟩ : DLock) rfl hra hjl (by show 1 < 2; omega) (by show [Value.int .i64 id, .int .i64 x.Id] = [Value.int .i64 k.Id, .int .i64 x.Id]; rw [hid]) (fun w33 h nw33 => ?_)
    refine (s115 (d := ⟨d.Now, d.Seq, d.Threads, d.Locks.set j ⟨id, x.Id⟩⟩) h.drop hx hqa hq).mono ?_
    rintro _ w35 ⟨rfl, h⟩
    exact ⟨rfl, rfl, l, h⟩
theorem c114 {n : Int} {w : World} : CallW Try.prog 114 #[.int .i64 n] w (fun v w' => v = .agg #[.int .i64 n, .int .i64 0] ∧ Ext w w') := by
  refine go114 ?_
  unfold W114
  have h := SH.start w
  refine h.alloc (fun w1 h ew1 nw1 => ?_)
  refine h.put 0 rfl rfl rfl (fun w2 h nw2 => ?_)
  exact ⟨_, h.cell 0 rfl rfl, _, h.cell 0 rfl rfl, rfl, h.ext⟩
end Go.Proofs.Yteigefjiifihpaa

/- The scheduler, the program's side: an operation on a state at an address. Conditions: none. -/
set_option linter.unusedVariables false
set_option linter.unusedSimpArgs false
namespace Go.Proofs.Yteigefjiifihpaa
open Go Go.Den
theorem retV {w0 w : World} {As : List Asr} (h : SH w0 w As) (j : Nat) {c : Nat} {us : List Value} {x y : Int} {K : Value → World → Prop} (hc : As[j]? = some (aB c (us.map Ce.v))) (hu : us.length = 2)
    (hk : ∀ w2, SH w0 w2 (As.set j (aB c ((rsV x y).map Ce.v))) → K (.agg #[.int .i64 x, .int .i64 y]) w2) :
    MayN w ⟨c, 0, none⟩ 2 ∧ LetW (Den.puts w ⟨c, 0, none⟩ 0 [.int .i64 x, .int .i64 y]) fun w14 => ∃ n19 : Int, w14.cell? ⟨c, 0, none⟩ = some (.int .i64 n19) ∧ ∃ n20 : Int, w14.cell? ⟨c, 1, none⟩ = some (.int .i64 n20) ∧ K (.agg #[.int .i64 n19, .int .i64 n20]) w14 := by
  refine h.put j hc rfl hu (fun w14 h nw => ?_)
  have hj := (List.getElem?_eq_some_iff.1 hc).1
  have g2 : (As.set j (aB c ((rsV x y).map Ce.v)))[j]? = some (aB c ((rsV x y).map Ce.v)) := List.getElem?_set_self hj
  exact ⟨x, h.cell j g2 rfl, y, h.cell j g2 rfl, hk _ h⟩
theorem retC {w0 w : World} {As : List Asr} (h : SH w0 w As) (j : Nat) {c : Nat} {us : List Value} {n : Int} {K : Value → World → Prop} (hc : As[j]? = some (aB c (us.map Ce.v))) (hu : us.length = 2)
    (hk : ∀ w2, SH w0 w2 (As.set j (aB c ((rsV n 0).map Ce.v))) → K (.agg #[.int .i64 n, .int .i64 0]) w2) :
    CallW Try.prog 114 #[.int .i64 n] w fun v7 w8 => ∃ n9 : Int, ∃ n10 : Int, v7 = .agg #[.int .i64 n9, .int .i64 n10] ∧ MayN w8 ⟨c, 0, none⟩ 2 ∧ LetW (Den.puts w8 ⟨c, 0, none⟩ 0 [.int .i64 n9, .int .i64 n10]) fun w14 => ∃ n19 : Int, w14.cell? ⟨c, 0, none⟩ = some (.int .i64 n19) ∧ ∃ n20 : Int, w14.cell? ⟨c, 1, none⟩ = some (.int .i64 n20) ∧ K (.agg #[.int .i64 n19, .int .i64 n20]) w14 := by
  refine c114.mono ?_
  rintro _ w8 ⟨rfl, e⟩
  exact ⟨_, _, rfl, retV (h.to e) j hc hu hk⟩
def KP (w0 : World) (F : List Asr) (b : Nat) (r : DSched × Int × Int) (v : Value) (w' : World) : Prop := ∃ t l : Sl, v = .agg #[.int .i64 r.2.1, .int .i64 r.2.2] ∧ SH w0 w' (PB b r.1 t l :: RT t r.1.Threads :: RL l r.1.Locks :: F)
theorem s68 {w0 w : World} {F : List Asr} {b : Nat} {t l : Sl} {d : DSched} {kind id n : Int} (h : SH w0 w (PB b d t l :: RT t d.Threads :: RL l d.Locks :: F)) (hi : Inv0 d) (hn : d.Now ≤ 1099511627776) (hq : d.Seq ≤ 2199023255552) :
    CallW Try.prog 68 #[.pointer (some ⟨b, 0, none⟩), .agg #[.int .i64 kind, .int .i64 id, .int .i64 n]] w (KP w0 F b (stepF d kind id n)) := by
  refine go68 ?_
  unfold W68
  have hf := hi.few
  have hnow := hi.now
  have hm := hi.mid hn
  have htl := h.len 1 rfl
  rw [recs_len] at htl
  have htc := h.lenCap 1 rfl
  have hll := h.len 2 rfl
  rw [recs_len] at hll
  have hlc := h.lenCap 2 rfl
  refine h.alloc (fun w1 h ew1 nw1 => ?_)
  refine h.alloc (fun w2 h ew2 nw2 => ?_)
  have h : SH w0 w2 (PB b d t l :: RT t d.Threads :: RL l d.Locks :: aB w1.heap.size (ZR.map Ce.v) :: aB w.heap.size ((opV kind id n).map Ce.v) :: F) := ((h.front (n := 4) rfl).front (n := 4) rfl).front (n := 4) rfl
  generalize w1.heap.size = rb at *
  generalize w.heap.size = ob at *
  refine ⟨_, h.cell 4 rfl rfl, ?_⟩
  refine join_or_ex _ (h.cell 4 rfl rfl) ?_
  refine BIf.of (fun hb => ?_) (fun hb => ?_)
  · simp only [Bool.or_eq_true, decide_eq_true_eq] at hb
    have hr : stepF d kind id n = (d, 1, 0) := by unfold stepF; rw [if_neg (by omega), if_neg (by omega), if_pos hb]
    rw [hr]
    refine retC h 3 rfl rfl (fun w2 h => ?_)
    exact ⟨t, l, rfl, (h.dropAt 4).dropAt 3⟩
  simp only [Bool.or_eq_false_iff, decide_eq_false_iff_not] at hb
  have hb' : ¬ (kind < 1 ∨ kind > 8) := by omega
  refine ⟨_, h.cell 4 rfl rfl, BIf.eq (fun h1 => ?_) (fun h1 => ?_)⟩
  · -- spawn
    have hr : stepF d kind id n = spawnR d n := by unfold stepF spawnR; rw [if_pos h1]
    rw [hr]
    refine ⟨_, h.cell 4 rfl rfl, ?_⟩
    refine join_or_ex _ (h.cell 4 rfl rfl) ?_
    unfold spawnR
    refine BIf.of (fun hb => ?_) (fun hb => ?_)
    · simp only [Bool.or_eq_true, decide_eq_true_eq] at hb
      rw [if_pos hb]
      refine retC h 3 rfl rfl (fun w2 h => ?_)
      exact ⟨t, l, rfl, (h.dropAt 4).dropAt 3⟩
    simp only [Bool.or_eq_false_iff, decide_eq_false_iff_not] at hb
    rw [if_neg (show ¬ (n < 0 ∨ n > 7) by omega)]
    refine ⟨_, rfl, t, h.cellP 0 rfl rfl, BIf.eq (fun h32 => ?_) (fun h32 => ?_)⟩
    · rw [if_pos (by omega)]
      refine retC h 3 rfl rfl (fun w2 h => ?_)
      exact ⟨t, l, rfl, (h.dropAt 4).dropAt 3⟩
    rw [if_neg (by omega)]
    obtain ⟨g1, g2, g3⟩ := gap_spec hi
    refine LoopW.m1 (fun (i : Int) w' => ∃ m : Nat, i = m ∧ m ≤ gapL d.Threads 0 ∧ SH w0 w' (PB b d t l :: RT t d.Threads :: RL l d.Locks :: aB rb (ZR.map Ce.v) :: aB ob ((opV kind id n).map Ce.v) :: F)) (fun (i : Int) _ => (32 - i).toNat) ⟨0, rfl, Nat.zero_le _, h⟩ ?_
    clear h
    rintro (i : Int) w37 ⟨m, rfl, hmg, h⟩ J hJ
    refine ⟨_, rfl, t, h.cellP 0 rfl rfl, ?_⟩
    refine JoinW.cut1 (fun (c : Bool) w' => c = decide (m < gapL d.Threads 0) ∧ SH w0 w' (PB b d t l :: RT t d.Threads :: RL l d.Locks :: aB rb (ZR.map Ce.v) :: aB ob ((opV kind id n).map Ce.v) :: F)) ?_ ?_
    · refine BIf.dec (fun hlt => ?_) (fun hge => ⟨(decide_eq_false (by omega)).symm, h⟩)
      have hml : m < d.Threads.length := by omega
      have hget : d.Threads[m]? = some d.Threads[m] := List.getElem?_eq_getElem hml
      obtain ⟨q, hqa⟩ := h.rowQ 1 rfl hget
      simp only [Int.toNat_natCast]
      refine ⟨_, rfl, t, h.cellP 0 rfl rfl, by omega, by omega, q, hqa, _, h.rdR 1 rfl hqa hget rfl, ?_, h⟩
      by_cases hmg2 : m < gapL d.Threads 0
      · rw [decide_eq_true hmg2, g2 m _ hmg2 hget]; simp
      · have := g3 m _ (by omega) hget
        rw [decide_eq_false hmg2]
        simp; omega
    rintro (c : Bool) w42 ⟨rfl, h⟩
    refine BIf.dec (fun hc => ?_) (fun hc => ?_)
    · rw [w64 (by omega) (by omega)]
      exact hJ _ _ ⟨m + 1, by omega, by omega, h⟩ (by omega)
    obtain rfl : m = gapL d.Threads 0 := by omega
    have hst0 : spawnF d n = ⟨d.Now, d.Seq + 1, d.Threads.take (gapL d.Threads 0) ++ ⟨(gapL d.Threads 0 : Nat), n, 1, d.Seq + 1, 4, d.Now, 0, -1⟩ :: d.Threads.drop (gapL d.Threads 0), d.Locks⟩ := rfl
    generalize hgn : gapL d.Threads 0 = m at *
    simp only [Int.toNat_natCast]
    refine ⟨_, rfl, t, h.cellP 0 rfl rfl, by omega, by omega, ?_⟩
    have hrow := h.rowR 1 rfl
    have h := SH.nil h none 8
    refine SH.appendR (f := DThread.cells) (l := []) (us := d.Threads.take m) h (hrow.pre (fun _ => rfl) (by omega)) (by simp; omega) (fun _ => rfl) rfl rfl (by decide) (by show (_ + _) * 64 ≤ _; simp; omega) plain_thr (fun l45 w46 h hl45 _ => ?_)
    have h := h.drew
    refine ⟨_, h.cell 5 rfl rfl, _, rfl, t, h.cellP 1 rfl rfl, by omega, by omega, ?_⟩
    refine LetW_iff.2 ?_
    have hx0 : ([] ++ d.Threads.take m ++ [(⟨m, n, 0, 0, 0, 0, 0, 0⟩ : DThread)] ++ d.Threads.drop m)[m]? = some ⟨m, n, 0, 0, 0, 0, 0, 0⟩ := by
      rw [List.nil_append, List.append_assoc, List.getElem?_append_right (by rw [List.length_take]; omega)]
      simp [Nat.min_eq_left g1]
    have hfact := (h.to (ext_alloc w46.drew (.cells #[.int .i64 (m : Int), .int .i64 n, .int .i64 0, .int .i64 0, .int .i64 0, .int .i64 0, .int .i64 0, .int .i64 0] 61))).cellP 1 (i := 2) rfl rfl
    refine ⟨⟨t, hfact, rfl⟩, ?_⟩
    refine SH.appendR1 (f := DThread.cells) (x := ⟨m, n, 0, 0, 0, 0, 0, 0⟩) h rfl rfl rfl (by decide) (by show _ * 64 ≤ _; simp; omega) (plain_thr _) (fun l52 w53 h hl52 _ => ?_)
    refine ⟨⟨t, h.cellP 1 rfl rfl, rfl⟩, ?_⟩
    have hrow := h.rowR 2 rfl
    refine SH.appendR (f := DThread.cells) (us := d.Threads.drop m) h (hrow.suf (fun _ => rfl) htl htc (by omega)) (by simp; omega) (fun _ => rfl) rfl rfl (by decide) (by show (_ + _) * 64 ≤ _; simp; omega) plain_thr (fun l55 w56 h hl55 _ => ?_)
    refine ⟨_, rfl, ?_⟩
    refine h.setVP 1 rfl rfl (fun w58 h nw58 => ?_)
    obtain ⟨q, hqa⟩ := h.rowQ 0 rfl hx0
    have hl55' : l55.len = ([] ++ d.Threads.take m ++ [(⟨m, n, 0, 0, 0, 0, 0, 0⟩ : DThread)] ++ d.Threads.drop m).length := by have := h.len 0 rfl; rwa [recs_len] at this
    have hxl := (List.getElem?_eq_some_iff.1 hx0).1
    refine ⟨_, rfl, l55, h.cellP 1 rfl rfl, by omega, by omega, q, hqa, ?_⟩
    have h : SH w0 w58 (PB b ⟨d.Now, d.Seq, [] ++ d.Threads.take m ++ [⟨m, n, 0, 0, 0, 0, 0, 0⟩] ++ d.Threads.drop m, d.Locks⟩ l55 l :: RT l55 ([] ++ d.Threads.take m ++ [⟨m, n, 0, 0, 0, 0, 0, 0⟩] ++ d.Threads.drop m) :: RL l d.Locks :: aB rb (ZR.map Ce.v) :: aB ob ((opV kind id n).map Ce.v) :: F) := (h.dropAt 2).front (n := 1) rfl
    refine (s115 (d := ⟨d.Now, d.Seq, [] ++ d.Threads.take m ++ [⟨m, n, 0, 0, 0, 0, 0, 0⟩] ++ d.Threads.drop m, d.Locks⟩) h hx0 hqa ⟨hnow.2, by show d.Seq ≤ _; omega⟩).mono ?_
    rintro _ w63 ⟨rfl, h⟩
    have hst : standF ⟨d.Now, d.Seq, [] ++ d.Threads.take m ++ [⟨m, n, 0, 0, 0, 0, 0, 0⟩] ++ d.Threads.drop m, d.Locks⟩ m d.Now = spawnF d n := by
      rw [standF_at hx0, hst0]
      congr 1
      rw [List.nil_append, List.append_assoc, List.set_append_right _ _ (by rw [List.length_take]; omega)]
      simp [Nat.min_eq_left g1, standT]
    have h : SH w0 w63 (PB b (spawnF d n) l55 l :: RT l55 (spawnF d n).Threads :: RL l (spawnF d n).Locks :: aB rb (ZR.map Ce.v) :: aB ob ((opV kind id n).map Ce.v) :: F) := by rw [← hst]; exact h
    refine ⟨rfl, ?_⟩
    refine retV h 3 rfl rfl (fun w2 h => ?_)
    exact ⟨l55, l, rfl, (h.dropAt 4).dropAt 3⟩
  refine BIf.eq (fun h3 => ?_) (fun h3 => ?_)
  · -- tick
    have hr : stepF d kind id n = (laterF (tickM (wakeF d 0 d.Threads.length)).1, 0, (tickM (wakeF d 0 d.Threads.length)).2) := by unfold stepF; rw [if_neg h1, if_pos h3, tickF_M]
    rw [hr]
    refine ⟨_, rfl, t, h.cellP 0 rfl rfl, ?_⟩
    refine LoopW.m1 (fun (i : Int) w' => ∃ (m : Nat) (e : DSched), i = m ∧ m ≤ d.Threads.length ∧ wakeF e m (d.Threads.length - m) = wakeF d 0 d.Threads.length ∧ Inv0 e ∧ e.Now = d.Now ∧ e.Seq ≤ d.Seq + m ∧ e.Threads.length = d.Threads.length ∧ e.Locks.length = d.Locks.length ∧ SH w0 w' (PB b e t l :: RT t e.Threads :: RL l e.Locks :: aB rb (ZR.map Ce.v) :: aB ob ((opV kind id n).map Ce.v) :: F)) (fun (i : Int) _ => (d.Threads.length - i).toNat) ⟨0, d, rfl, Nat.zero_le _, rfl, hi, rfl, by omega, rfl, rfl, h⟩ ?_
    clear h
    rintro (i : Int) w76 ⟨m, e, rfl, hml, hw, hie, hen, hes, hel, helk, h⟩ J hJ
    refine BIf.dec (fun hlt => ?_) (fun hge => ?_)
    · have hk : m < e.Threads.length := by omega
      have hget : e.Threads[m]? = some e.Threads[m] := List.getElem?_eq_getElem hk
      rw [show d.Threads.length - m = (d.Threads.length - (m + 1)) + 1 by omega, wakeF_step, hget] at hw
      obtain ⟨q, hqa⟩ := h.rowQ 1 rfl hget
      generalize e.Threads[m] = x at *
      refine ⟨_, rfl, t, h.cellP 0 rfl rfl, by omega, by omega, q, hqa, ?_⟩
      have h := h.drew
      simp only [Int.toNat_natCast]
      rw [w64 (n := (m : Int) + 1) (by omega) (by omega)]
      refine JoinW.cut1 (fun (c : Bool) w' => c = decide (x.State = 3 ∧ x.Until ≤ e.Now) ∧ SH w0 w' (PB b e t l :: RT t e.Threads :: RL l e.Locks :: aB rb (ZR.map Ce.v) :: aB ob ((opV kind id n).map Ce.v) :: F)) ?_ ?_
      · refine ⟨_, rfl, _, h.rdR 1 rfl hqa hget rfl, BIf.eq (fun h3 => ?_) (fun h3 => ⟨(decide_eq_false (by rintro ⟨hh, _⟩; exact h3 hh)).symm, h⟩)⟩
        refine ⟨_, rfl, _, h.rdR 1 rfl hqa hget rfl, _, rfl, _, h.cellP 0 rfl rfl, ?_, h⟩
        rw [decide_eq_decide]
        exact ⟨fun hh => ⟨h3, hh⟩, fun hh => hh.2⟩
      rintro (c : Bool) w10 ⟨rfl, h⟩
      simp only at hw
      refine BIf.dec (fun hc => ?_) (fun hc => ?_)
      · rw [if_pos hc] at hw
        refine (s115 h hget hqa ⟨hie.now.2, by omega⟩).mono ?_
        rintro _ w84 ⟨rfl, h⟩
        refine ⟨rfl, ?_⟩
        obtain ⟨s1, s2, s3, s4, s5⟩ := standF_now e m e.Now
        exact hJ _ _ ⟨m + 1, _, by omega, by omega, hw, hie.stand hget, by omega, by omega, by omega, by rw [s4]; omega, h⟩ (by omega)
      · rw [if_neg hc] at hw
        exact hJ _ _ ⟨m + 1, _, by omega, by omega, hw, hie, hen, by omega, hel, helk, h⟩ (by omega)
    · have hwd : wakeF d 0 d.Threads.length = e := by rw [← hw, show d.Threads.length - m = 0 by omega]; rfl
      rw [hwd]
      have hm := hie.mid (by omega)
      refine JoinW.cut1 (fun (c : Int) w' => c = (tickM e).2 ∧ (tickM e).1.Now = d.Now ∧ SH w0 w' (PB b (tickM e).1 t l :: RT t (tickM e).1.Threads :: RL l (tickM e).1.Locks :: aB rb (ZR.map Ce.v) :: aB ob ((opV kind id n).map Ce.v) :: F)) ?_ ?_
      · refine (c89 hm (patOf h 0 rfl) (satOf h 1 2 rfl rfl ⟨by omega, by omega⟩)).mono ?_
        rintro _ w102 ⟨rfl, e102, _⟩
        have h := h.to e102
        refine ⟨_, rfl, ?_⟩
        rcases bestF_cases hm isReady with ⟨p1, _⟩ | ⟨j, x, p1, _, p2⟩
        · have htm : tickM e = (e, -1) := by unfold tickM; rw [p1, if_pos (by omega)]
          rw [show bestI e = -1 from p1, ptr_none, htm]
          exact BIf.f rfl ⟨rfl, hen, h⟩
        · have hxm := List.mem_of_getElem? p1
          have hxl := (hie.tok x hxm).left
          have hjl := (List.getElem?_eq_some_iff.1 p1).1
          obtain ⟨q, hqa⟩ := h.rowQ 1 rfl p1
          have htm : tickM e = (if x.Left - 1 = 0 then standF e j (e.Now + 1) else ⟨e.Now, e.Seq, e.Threads.set j ⟨x.Id, x.Base, x.State, x.Line, x.Left - 1, e.Now + 1, x.Until, x.Wait⟩, e.Locks⟩, x.Id) := by
            unfold tickM
            rw [p2, if_neg (by omega), Int.toNat_natCast]
            simp only [p1]
          rw [show bestI e = (j : Int) from p2, ptr_some hqa, htm]
          refine BIf.t rfl ⟨_, rfl, _, h.rdR 1 rfl hqa p1 rfl, _, rfl, _, h.rdR 1 rfl hqa p1 rfl, _, rfl, ?_⟩
          rw [w64 (n := x.Left - 1) (by omega) (by omega)]
          rw [set_at p1] at h
          refine h.setR 1 (⟨x.Id, x.Base, x.State, x.Line, x.Left - 1, x.Since, x.Until, x.Wait⟩ : DThread) rfl hqa hjl (by show 4 < 8; omega) rfl (fun w109 h nw109 => ?_)
          have hy : (e.Threads.set j ⟨x.Id, x.Base, x.State, x.Line, x.Left - 1, x.Since, x.Until, x.Wait⟩)[j]? = some ⟨x.Id, x.Base, x.State, x.Line, x.Left - 1, x.Since, x.Until, x.Wait⟩ := List.getElem?_set_self hjl
          refine JoinW.cut0 (fun w' => ∃ (y : DThread) (sq : Int), (if x.Left - 1 = 0 then standF e j (e.Now + 1) else ⟨e.Now, e.Seq, e.Threads.set j ⟨x.Id, x.Base, x.State, x.Line, x.Left - 1, e.Now + 1, x.Until, x.Wait⟩, e.Locks⟩) = (⟨e.Now, sq, e.Threads.set j ⟨y.Id, y.Base, y.State, y.Line, y.Left, e.Now + 1, y.Until, y.Wait⟩, e.Locks⟩ : DSched) ∧ SH w0 w' (PB b ⟨e.Now, sq, e.Threads.set j y, e.Locks⟩ t l :: RT t (e.Threads.set j y) :: RL l e.Locks :: aB rb (ZR.map Ce.v) :: aB ob ((opV kind id n).map Ce.v) :: F)) ?_ ?_
          · refine ⟨_, rfl, _, h.rdR 1 rfl hqa hy rfl, BIf.eq (fun h0 => ?_) (fun h0 => ?_)⟩
            · refine (s115 (d := ⟨e.Now, e.Seq, e.Threads.set j ⟨x.Id, x.Base, x.State, x.Line, x.Left - 1, x.Since, x.Until, x.Wait⟩, e.Locks⟩) h hy hqa ⟨hie.now.2, by show e.Seq ≤ _; omega⟩).mono ?_
              rintro _ w119 ⟨rfl, h⟩
              refine ⟨rfl, standT e e.Now x, e.Seq + 1, ?_, ?_⟩
              · rw [if_pos h0, standF_at p1]; rfl
              · rw [standF_at hy] at h
                simp only [List.set_set] at h
                exact h
            · refine ⟨⟨x.Id, x.Base, x.State, x.Line, x.Left - 1, x.Since, x.Until, x.Wait⟩, e.Seq, ?_, h⟩
              rw [if_neg h0]
          · rintro w111 ⟨y, sq, hyq, h⟩
            refine ⟨_, rfl, _, h.cellP 0 rfl rfl, _, rfl, ?_⟩
            rw [w64 (n := e.Now + 1) (by omega) (by omega)]
            refine h.setR 1 (⟨y.Id, y.Base, y.State, y.Line, y.Left, e.Now + 1, y.Until, y.Wait⟩ : DThread) rfl hqa hjl (by show 5 < 8; omega) rfl (fun w115 h nw115 => ?_)
            rw [hyq]
            exact ⟨rfl, hen, h⟩
      · rintro (c : Int) w93 ⟨rfl, hnw, h⟩
        refine ⟨_, rfl, _, h.cellP 0 rfl rfl, _, rfl, ?_⟩
        rw [w64 (n := (tickM e).1.Now + 1) (by omega) (by omega)]
        refine h.setVP 0 rfl rfl (fun w97 h nw97 => ?_)
        refine retV h 3 rfl rfl (fun w2 h => ?_)
        exact ⟨t, l, rfl, (h.dropAt 4).dropAt 3⟩
  refine ⟨_, h.cell 4 rfl rfl, (c84 (patOf h 0 rfl) (satOf h 1 2 rfl rfl ⟨by omega, by omega⟩)).mono ?_⟩
  rintro _ w122 ⟨rfl, rfl⟩
  refine ⟨_, rfl, ?_⟩
  rcases idT_find d id with ⟨hid, hno⟩ | ⟨i, x, hid, hx, hxo⟩
  · have hr : stepF d kind id n = (d, 3, 0) := by
      unfold stepF
      rw [if_neg h1, if_neg h3, if_neg hb', hid]
      split
      · rfl
      · rfl
    rw [hid, hr, ptr_none]
    refine BIf.t rfl ?_
    refine retC h 3 rfl rfl (fun w2 h => ?_)
    exact ⟨t, l, rfl, (h.dropAt 4).dropAt 3⟩
  have hxid := (thrOf_id hxo).1
  have hxm := List.mem_of_getElem? hx
  have hxt := hi.tok x hxm
  have hil := (List.getElem?_eq_some_iff.1 hx).1
  obtain ⟨q, hqa⟩ := h.rowQ 1 rfl hx
  rw [hid, ptr_some hqa, step_thr h1 h3 hb' hid hx]
  refine BIf.f rfl ?_
  refine JoinW.cut0 (fun w' => (thrF d i x kind id n).2 = (0, 0) ∧ ∃ t' l' : Sl, SH w0 w' (PB b (thrF d i x kind id n).1 t' l' :: RT t' (thrF d i x kind id n).1.Threads :: RL l' (thrF d i x kind id n).1.Locks :: aB rb (ZR.map Ce.v) :: aB ob ((opV kind id n).map Ce.v) :: F)) ?_ ?_
  · refine ⟨_, h.cell 4 rfl rfl, BIf.eq (fun h2 => ?_) (fun h2 => ?_)⟩
    · -- exit
      have hr : thrF d i x kind id n = (exitF d id, 0, 0) := by unfold thrF; rw [if_pos h2]
      rw [hr]
      refine ⟨_, rfl, t, h.cellP 0 rfl rfl, ?_⟩
      have h : SH w0 _ (RT ⟨none, 0, 0⟩ ((d.Threads.take 0).filter (fun k => k.Id != id)) :: PB b d t l :: RT t d.Threads :: RL l d.Locks :: aB rb (ZR.map Ce.v) :: aB ob ((opV kind id n).map Ce.v) :: F) := SH.nil h none 8
      refine LoopW.m2 (fun (s : Sl) (i : Int) w' => ∃ m : Nat, i = m ∧ m ≤ d.Threads.length ∧ SH w0 w' (RT s ((d.Threads.take m).filter (fun k => k.Id != id)) :: PB b d t l :: RT t d.Threads :: RL l d.Locks :: aB rb (ZR.map Ce.v) :: aB ob ((opV kind id n).map Ce.v) :: F)) (fun _ (i : Int) _ => (d.Threads.length - i).toNat) ⟨0, rfl, by omega, h⟩ ?_
      clear h
      rintro (s : Sl) (i : Int) w146 ⟨m, rfl, hmm, h⟩ J hJ
      refine BIf.dec (fun hlt => ?_) (fun hge => ?_)
      · have hml : m < d.Threads.length := by omega
        have hget : d.Threads[m]? = some d.Threads[m] := List.getElem?_eq_getElem hml
        have hfs := filter_take_succ (fun k : DThread => k.Id != id) hget
        generalize d.Threads[m] = y at *
        simp only [Int.toNat_natCast]
        rw [w64 (n := (m : Int) + 1) (by omega) (by omega)]
        refine ⟨by omega, by omega, q, hqa, ?_⟩
        refine ⟨_, h.rdR 2 rfl hqa hget rfl, _, h.rdR 2 rfl hqa hget rfl, _, h.rdR 2 rfl hqa hget rfl, _, h.rdR 2 rfl hqa hget rfl, _, h.rdR 2 rfl hqa hget rfl, _, h.rdR 2 rfl hqa hget rfl, _, h.rdR 2 rfl hqa hget rfl, _, h.rdR 2 rfl hqa hget rfl, ?_⟩
        refine h.alloc (fun w156 h ew156 nw156 => ?_)
        refine h.put 0 rfl rfl rfl (fun w157 h nw157 => ?_)
        refine ⟨_, h.cell 0 rfl rfl, _, h.cell 6 rfl rfl, BIf.of (fun hc => ?_) (fun hc => ?_)⟩
        · refine ⟨_, h.cell 0 rfl rfl, _, h.cell 0 rfl rfl, _, h.cell 0 rfl rfl, _, h.cell 0 rfl rfl, _, h.cell 0 rfl rfl, _, h.cell 0 rfl rfl, _, h.cell 0 rfl rfl, _, h.cell 0 rfl rfl, ?_⟩
          have hlen := List.length_filter_le (fun k : DThread => k.Id != id) (d.Threads.take m)
          rw [List.length_take] at hlen
          refine LetW_iff.2 (SH.appendR1 (f := DThread.cells) (x := y) h.drop rfl rfl rfl (by decide) (by show _ * 64 ≤ _; omega) (plain_thr _) (fun l28 w29 h hl28 _ => ?_))
          rw [if_pos hc] at hfs
          exact hJ _ _ _ ⟨m + 1, by omega, by omega, by rw [hfs]; exact h⟩ (by omega)
        · rw [if_neg (by rw [hc]; simp), List.append_nil] at hfs
          exact hJ _ _ _ ⟨m + 1, by omega, by omega, by rw [hfs]; exact h.drop⟩ (by omega)
      · rw [show m = d.Threads.length by omega, List.take_length] at h
        refine ⟨_, rfl, ?_⟩
        refine h.setVP 1 rfl rfl (fun w172 h nw172 => ?_)
        refine ⟨_, rfl, l, h.cellP 1 rfl rfl, ?_⟩
        have h : SH w0 w172 (PB b ⟨d.Now, d.Seq, d.Threads.filter (fun k => k.Id != id), d.Locks⟩ s l :: RT s (d.Threads.filter (fun k => k.Id != id)) :: RL l d.Locks :: aB rb (ZR.map Ce.v) :: aB ob ((opV kind id n).map Ce.v) :: F) := (h.dropAt 2).front (n := 1) rfl
        have hrow := h.rowR 2 rfl
        have h := SH.nil h none 2
        refine SH.appendR (f := DLock.cells) (l := []) (us := d.Locks) h hrow (by omega) (fun _ => rfl) rfl rfl (by decide) (by show (_ + _) * 16 ≤ _; simp; omega) plain_lck (fun l175 w176 h hl175 _ => ?_)
        have hl175' : l175.len = d.Locks.length := by simp at hl175; omega
        have hg0 := hi.gone id
        clear hJ J
        refine LoopW.m1 (fun (a : Int) w' => ∃ (k : Nat) (e : DSched) (t l : Sl), a = k ∧ k ≤ d.Locks.length ∧ exitL id (d.Locks.drop k) e = exitF d id ∧ Inv (fun o => o = id) e ∧ e.Now = d.Now ∧ e.Seq ≤ d.Seq + k ∧ (∀ u, u ∈ e.Threads → u.Id ≠ id) ∧ (∀ y, y ∈ d.Locks.drop k → y ∈ e.Locks) ∧ (∀ y, y ∈ e.Locks → y.Owner = id → y ∈ d.Locks.drop k) ∧
          SH w0 w' (RL l175 d.Locks :: PB b e t l :: RT t e.Threads :: RL l e.Locks :: aB rb (ZR.map Ce.v) :: aB ob ((opV kind id n).map Ce.v) :: F)) (fun (i : Int) _ => (d.Locks.length - i).toNat) ⟨0, _, s, l, rfl, by omega, rfl, hg0, rfl, Int.le_of_eq (by simp), ?_, fun y hy => hy, fun y hy _ => hy, h⟩ ?_
        · intro u hu he; have := (List.mem_filter.1 hu).2; simp [he] at this
        clear h
        rintro (a : Int) w179 ⟨k, e, t, l, rfl, hk16, hex, hie, hen, hes, hgo, hsub, hown, h⟩ J hJ
        have hef := hie.few
        have hm := hie.mid (by omega)
        refine BIf.dec (fun hlt => ?_) (fun hge => ?_)
        · have hkl : k < d.Locks.length := by omega
          have hget : d.Locks[k]? = some d.Locks[k] := List.getElem?_eq_getElem hkl
          have hdr := List.drop_eq_getElem_cons hkl
          have hsrt : Srt DLock.Id (d.Locks.drop k) := List.Pairwise.sublist (List.drop_sublist _ _) hi.ls
          obtain ⟨r, hra⟩ := h.rowQ 0 rfl hget
          generalize d.Locks[k] = y at *
          rw [hdr] at hex hsub hown hsrt
          obtain ⟨hs1, hs2⟩ := List.pairwise_cons.1 hsrt
          unfold exitL at hex
          simp only [Int.toNat_natCast]
          rw [w64 (n := (k : Int) + 1) (by omega) (by omega)]
          refine ⟨by omega, by omega, r, hra, _, h.rdR 0 rfl hra hget rfl, _, h.rdR 0 rfl hra hget rfl, ?_⟩
          refine h.alloc (fun w183 h ew183 nw183 => ?_)
          refine h.put 0 rfl rfl rfl (fun w184 h nw184 => ?_)
          refine ⟨_, h.cell 0 rfl rfl, _, h.cell 6 rfl rfl, BIf.eq (fun hyo => ?_) (fun hyo => ?_)⟩
          · rw [if_pos hyo] at hex
            have hy := hsub y (by simp)
            refine ⟨_, h.cell 0 rfl rfl, ?_⟩
            have h := h.drop
            have h := ((h.front (n := 3) rfl).front (n := 3) rfl).front (n := 3) rfl
            refine (s116 h hm hie.ls hy rfl ⟨hie.now.2, by omega⟩ ⟨by omega, by omega⟩).mono ?_
            rintro _ w189 ⟨rfl, l', h⟩
            refine ⟨rfl, ?_⟩
            obtain ⟨l1, l2, l3⟩ := hand_locks hie (by omega) hy
            have hnw := handF_now e y.Id
            have hhd := hie.hand (by omega) hy
            refine hJ _ _ ⟨k + 1, _, t, l', by omega, by omega, hex, hhd, by omega, by omega, fun u hu he => ?_, fun v hv => ?_, fun v hv hvo => ?_, h.front (n := 3) rfl⟩ (by omega)
            · obtain ⟨u', hu', hue⟩ := (l3 u.Id).1 ⟨u, hu, rfl⟩
              exact hgo u' hu' (by omega)
            · exact l2 v (hsub v (by simp only [List.mem_cons]; exact .inr hv)) (by have := hs1 v hv; omega)
            · rcases l1 v hv with ⟨h5, h6⟩ | ⟨h5, u, hu, hue⟩
              · rcases List.mem_cons.1 (hown v h5 hvo) with rfl | h7
                · exact absurd rfl h6
                · exact h7
              · exact absurd (hue.trans hvo) (hgo u hu)
          · rw [if_neg hyo] at hex
            refine hJ _ _ ⟨k + 1, e, t, l, by omega, by omega, hex, hie, hen, by omega, hgo, fun v hv => hsub v (by simp only [List.mem_cons]; exact .inr hv), fun v hv hvo => ?_, h.drop⟩ (by omega)
            rcases List.mem_cons.1 (hown v hv hvo) with rfl | h7
            · exact absurd hvo hyo
            · exact h7
        · rw [List.drop_eq_nil_of_le (by omega)] at hex
          have hex : e = exitF d id := hex
          rw [← hex]
          exact ⟨rfl, t, l, h.drop⟩
    refine BIf.eq (fun h4 => ?_) (fun h4 => ?_)
    · -- lock
      have hr : thrF d i x kind id n = lockR d i x kind id n := by unfold thrF lockR; rw [if_neg h2, if_pos (.inl h4)]; rfl
      rw [hr]
      unfold lockR
      refine ⟨_, h.cell 4 rfl rfl, ?_⟩
      refine join_or_ex _ (h.cell 4 rfl rfl) ?_
      refine BIf.of (fun hb => ?_) (fun hb => ?_)
      · simp only [Bool.or_eq_true, decide_eq_true_eq] at hb
        rw [if_pos hb]
        refine retC h 3 rfl rfl (fun w2 h => ?_)
        exact ⟨t, l, rfl, (h.dropAt 4).dropAt 3⟩
      simp only [Bool.or_eq_false_iff, decide_eq_false_iff_not] at hb
      rw [if_neg (show ¬ (n < 0 ∨ n ≥ 16) by omega)]
      refine ⟨_, rfl, _, h.rdR 1 rfl hqa hx rfl, BIf.ne (fun hs => ?_) (fun hs => ?_)⟩
      · rw [if_pos hs]
        refine retC h 3 rfl rfl (fun w2 h => ?_)
        exact ⟨t, l, rfl, (h.dropAt 4).dropAt 3⟩
      rw [if_neg (by omega), if_pos h4]
      refine ⟨_, h.cell 4 rfl rfl, (c83 (patOf h 0 rfl) (satOf h 1 2 rfl rfl ⟨by omega, by omega⟩)).mono ?_⟩
      rintro _ w212 ⟨rfl, rfl⟩
      refine ⟨_, rfl, ?_⟩
      rcases idL_find d n with ⟨hl1, hl2⟩ | ⟨j, y, hl1, hl2, hl3⟩
      · rw [hl1, ptr_none]
        refine BIf.t rfl ?_
        have hlock : lockF d i x n = (⟨d.Now, d.Seq, d.Threads, d.Locks.take (lockPl d.Locks n 0) ++ ⟨n, x.Id⟩ :: d.Locks.drop (lockPl d.Locks n 0)⟩, 0, 0) := by unfold lockF; rw [hl2]
        rw [hlock]
        obtain ⟨p, hp0, hp1, hp2, hp3⟩ := lockPl_spec d.Locks n 0 hi.ls (lckOf_none hl2)
        rw [Nat.zero_add] at hp0
        rw [hp0]
        refine LoopW.m1 (fun (i : Int) w' => ∃ m : Nat, i = m ∧ m ≤ p ∧ SH w0 w' (PB b d t l :: RT t d.Threads :: RL l d.Locks :: aB rb (ZR.map Ce.v) :: aB ob ((opV kind id n).map Ce.v) :: F)) (fun (i : Int) _ => (32 - i).toNat) ⟨0, rfl, Nat.zero_le _, h⟩ ?_
        clear h
        rintro (i : Int) w216 ⟨m, rfl, hmp, h⟩ J hJ
        refine JoinW.cut1 (fun (c : Bool) w' => c = decide (m < p) ∧ SH w0 w' (PB b d t l :: RT t d.Threads :: RL l d.Locks :: aB rb (ZR.map Ce.v) :: aB ob ((opV kind id n).map Ce.v) :: F)) ?_ ?_
        · have h := h.drew
          refine ⟨_, rfl, l, h.cellP 0 rfl rfl, BIf.dec (fun hlt => ?_) (fun hge => ⟨(decide_eq_false (by omega)).symm, h⟩)⟩
          have hml : m < d.Locks.length := by omega
          have hget : d.Locks[m]? = some d.Locks[m] := List.getElem?_eq_getElem hml
          obtain ⟨r, hra⟩ := h.rowQ 2 rfl hget
          simp only [Int.toNat_natCast]
          refine ⟨_, rfl, l, h.cellP 0 rfl rfl, by omega, by omega, r, hra, _, h.rdR 2 rfl hra hget rfl, _, h.cell 4 rfl rfl, ?_, h⟩
          rw [decide_eq_decide]
          by_cases hmp2 : m < p
          · have := hp2 m _ hmp2 hget
            exact ⟨fun _ => hmp2, fun _ => this⟩
          · have := hp3 m _ (by omega) hget
            exact ⟨fun hh => by omega, fun hh => absurd hh hmp2⟩
        rintro (c : Bool) w219 ⟨rfl, h⟩
        refine BIf.dec (fun hc => ?_) (fun hc => ?_)
        · rw [w64 (by omega) (by omega)]
          exact hJ _ _ ⟨m + 1, by omega, by omega, h⟩ (by omega)
        obtain rfl : m = p := by omega
        simp only [Int.toNat_natCast]
        refine ⟨_, rfl, l, h.cellP 0 rfl rfl, by omega, by omega, ?_⟩
        have hrow := h.rowR 2 rfl
        have h := SH.nil h none 2
        refine SH.appendR (f := DLock.cells) (l := []) (us := d.Locks.take m) h (hrow.pre (fun _ => rfl) (by omega)) (by simp; omega) (fun _ => rfl) rfl rfl (by decide) (by show (_ + _) * 16 ≤ _; simp; omega) plain_lck (fun l222 w223 h hl222 _ => ?_)
        have h := h.drew
        refine ⟨_, h.cell 5 rfl rfl, _, h.cell 5 rfl rfl, _, rfl, l, h.cellP 1 rfl rfl, by omega, by omega, ?_⟩
        refine LetW_iff.2 ?_
        have hfact := (h.to (ext_alloc w223.drew (.cells #[.int .i64 n, .int .i64 id] 122))).cellP 1 (i := 3) rfl rfl
        refine ⟨⟨l, hfact, rfl⟩, ?_⟩
        refine SH.appendR1 (f := DLock.cells) (x := ⟨n, id⟩) h rfl rfl rfl (by decide) (by show _ * 16 ≤ _; simp; omega) (plain_lck _) (fun l230 w231 h hl230 _ => ?_)
        refine ⟨⟨l, h.cellP 1 rfl rfl, rfl⟩, ?_⟩
        have hrow := h.rowR 3 rfl
        refine SH.appendR (f := DLock.cells) (us := d.Locks.drop m) h (hrow.suf (fun _ => rfl) hll hlc (by omega)) (by simp; omega) (fun _ => rfl) rfl rfl (by decide) (by show (_ + _) * 16 ≤ _; simp; omega) plain_lck (fun l233 w234 h hl233 _ => ?_)
        refine ⟨_, rfl, ?_⟩
        refine h.setVP 1 rfl rfl (fun w236 h nw236 => ?_)
        refine retC h 4 rfl rfl (fun w2 h => ?_)
        have h2 := (((h.dropAt 5).dropAt 4).dropAt 3)
        refine ⟨t, l233, rfl, ?_⟩
        have h3 : SH w0 w2 (RL l233 ([] ++ d.Locks.take m ++ [⟨n, id⟩] ++ d.Locks.drop m) :: PB b ⟨d.Now, d.Seq, d.Threads, d.Locks⟩ t l233 :: RT t d.Threads :: F) := h2
        have h4 := h3.p2.p2
        rw [hxid]
        simpa using h4
      · have hjl := (List.getElem?_eq_some_iff.1 hl2).1
        obtain ⟨r, hra⟩ := h.rowQ 2 rfl hl2
        rw [hl1, ptr_some hra]
        have h := h.drew
        refine BIf.f rfl ⟨_, rfl, _, h.rdR 2 rfl hra hl2 rfl, _, h.cell 4 rfl rfl, BIf.eq (fun ho => ?_) (fun ho => ?_)⟩
        · have hlock : lockF d i x n = (d, 4, 0) := by unfold lockF; rw [hl3]; simp only; rw [if_pos (by rw [hxid]; exact ho)]
          rw [hlock]
          refine retC h 3 rfl rfl (fun w2 h => ?_)
          exact ⟨t, l, rfl, (h.dropAt 4).dropAt 3⟩
        have h := h.drew
        refine ⟨_, rfl, _, h.rdR 2 rfl hra hl2 rfl, _, h.cell 4 rfl rfl, (c85 (patOf h 0 rfl) (satOf h 1 2 rfl rfl ⟨by omega, by omega⟩)).mono ?_⟩
        rintro _ w265 ⟨rfl, rfl⟩
        rw [waits_same hm.owned hm.few]
        refine ⟨_, rfl, BIf.of (fun hw => ?_) (fun hw => ?_)⟩
        · have hlock : lockF d i x n = (d, 17, 0) := by unfold lockF; rw [hl3]; simp only; rw [if_neg (by rw [hxid]; exact ho), hxid, if_pos hw]
          rw [hlock]
          refine retC h 3 rfl rfl (fun w2 h => ?_)
          exact ⟨t, l, rfl, (h.dropAt 4).dropAt 3⟩
        · have hlock : lockF d i x n = (⟨d.Now, d.Seq, d.Threads.set i ⟨x.Id, x.Base, 2, x.Line, x.Left, x.Since, x.Until, n⟩, d.Locks⟩, 0, 1) := by unfold lockF; rw [hl3]; simp only; rw [if_neg (by rw [hxid]; exact ho), hxid, if_neg (by rw [hw]; simp)]
          rw [hlock]
          have h := h.drew
          refine ⟨_, h.cell 4 rfl rfl, _, rfl, ?_⟩
          rw [set_at hx] at h
          refine h.setR 1 (⟨x.Id, x.Base, 2, x.Line, x.Left, x.Since, x.Until, x.Wait⟩ : DThread) rfl hqa hil (by show 2 < 8; omega) rfl (fun w276 h nw276 => ?_)
          refine ⟨⟨_, h.cell 4 rfl rfl, rfl⟩, _, rfl, ?_⟩
          refine h.setR 1 (⟨x.Id, x.Base, 2, x.Line, x.Left, x.Since, x.Until, n⟩ : DThread) rfl hqa hil (by show 7 < 8; omega) rfl (fun w279 h nw279 => ?_)
          refine retV h 3 rfl rfl (fun w2 h => ?_)
          exact ⟨t, l, rfl, (h.dropAt 4).dropAt 3⟩
    refine BIf.eq (fun h5 => ?_) (fun h5 => ?_)
    · -- unlock
      have hr : thrF d i x kind id n = lockR d i x kind id n := by unfold thrF lockR; rw [if_neg h2, if_pos (.inr h5)]; rfl
      rw [hr]
      unfold lockR
      refine ⟨_, h.cell 4 rfl rfl, ?_⟩
      refine join_or_ex _ (h.cell 4 rfl rfl) ?_
      refine BIf.of (fun hb => ?_) (fun hb => ?_)
      · simp only [Bool.or_eq_true, decide_eq_true_eq] at hb
        rw [if_pos hb]
        refine retC h 3 rfl rfl (fun w2 h => ?_)
        exact ⟨t, l, rfl, (h.dropAt 4).dropAt 3⟩
      simp only [Bool.or_eq_false_iff, decide_eq_false_iff_not] at hb
      rw [if_neg (show ¬ (n < 0 ∨ n ≥ 16) by omega)]
      refine ⟨_, rfl, _, h.rdR 1 rfl hqa hx rfl, BIf.ne (fun hs => ?_) (fun hs => ?_)⟩
      · rw [if_pos hs]
        refine retC h 3 rfl rfl (fun w2 h => ?_)
        exact ⟨t, l, rfl, (h.dropAt 4).dropAt 3⟩
      rw [if_neg (by omega), if_neg h4]
      refine ⟨_, h.cell 4 rfl rfl, (c83 (patOf h 0 rfl) (satOf h 1 2 rfl rfl ⟨by omega, by omega⟩)).mono ?_⟩
      rintro _ w306 ⟨rfl, rfl⟩
      have h := h.drew
      refine ⟨_, rfl, ?_⟩
      refine JoinW.cut1 (fun (c : Bool) w' => (c = false ↔ ∃ k, lckOf d n = some k ∧ k.Owner = id) ∧ SH w0 w' (PB b d t l :: RT t d.Threads :: RL l d.Locks :: aB rb (ZR.map Ce.v) :: aB ob ((opV kind id n).map Ce.v) :: F)) ?_ ?_
      · rcases idL_find d n with ⟨hl1, hl2⟩ | ⟨j, y, hl1, hl2, hl3⟩
        · rw [hl1, ptr_none]
          refine BIf.t rfl ⟨⟨(fun h => by cases h), ?_⟩, h⟩
          rintro ⟨k, hk, _⟩
          rw [hl2] at hk; cases hk
        · obtain ⟨r, hra⟩ := h.rowQ 2 rfl hl2
          rw [hl1, ptr_some hra]
          refine BIf.f rfl ⟨_, rfl, _, h.rdR 2 rfl hra hl2 rfl, _, h.cell 4 rfl rfl, ⟨fun hh => ⟨y, hl3, by simpa [bne] using hh⟩, ?_⟩, h⟩
          rintro ⟨k, hk, hko⟩
          rw [hl3] at hk; cases hk
          simp [hko]
      · rintro (c : Bool) w310 ⟨hc, h⟩
        refine BIf.of (fun hct => ?_) (fun hcf => ?_)
        · rcases hl : lckOf d n with _ | k
          · refine retC h 3 rfl rfl (fun w2 h => ?_)
            exact ⟨t, l, rfl, (h.dropAt 4).dropAt 3⟩
          · have hko : k.Owner ≠ id := fun ho => by rw [hc.2 ⟨k, hl, ho⟩] at hct; cases hct
            simp only
            rw [if_pos hko]
            refine retC h 3 rfl rfl (fun w2 h => ?_)
            exact ⟨t, l, rfl, (h.dropAt 4).dropAt 3⟩
        · obtain ⟨k, hk, hko⟩ := hc.1 hcf
          obtain ⟨hkm, hkn⟩ := lckOf_some hk
          rw [hk]
          simp only
          rw [if_neg (by omega)]
          refine ⟨_, h.cell 4 rfl rfl, (s116 h hm hi.ls hkm hkn ⟨hnow.2, by omega⟩ ⟨by omega, by omega⟩).mono ?_⟩
          rintro _ w320 ⟨rfl, l', h⟩
          exact ⟨rfl, rfl, t, l', h⟩
    have h45 : ¬ (kind = 4 ∨ kind = 5) := by omega
    have ht0 : thrF d i x kind id n = if kind = 6 then
      if n < 1 ∨ n > 1000 then (d, 1, 0) else if x.State ≠ 1 then (d, 21, 0)
      else (⟨d.Now, d.Seq, d.Threads.set i ⟨x.Id, x.Base, 3, x.Line, x.Left, x.Since, d.Now + n, x.Wait⟩, d.Locks⟩, 0, 0)
    else if kind = 7 then (if x.State ≠ 3 then (d, 21, 0) else (standF d i d.Now, 0, 0))
    else if n < 0 ∨ n > 7 then (d, 1, 0) else (⟨d.Now, d.Seq, d.Threads.set i ⟨x.Id, n, x.State, x.Line, x.Left, x.Since, x.Until, x.Wait⟩, d.Locks⟩, 0, 0) := by unfold thrF; rw [if_neg h2, if_neg h45]
    rw [ht0]
    refine BIf.eq (fun h6 => ?_) (fun h6 => ?_)
    · rw [if_pos h6]
      refine ⟨_, h.cell 4 rfl rfl, ?_⟩
      refine join_or_ex _ (h.cell 4 rfl rfl) ?_
      refine BIf.of (fun hb => ?_) (fun hb => ?_)
      · simp only [Bool.or_eq_true, decide_eq_true_eq] at hb
        rw [if_pos hb]
        refine retC h 3 rfl rfl (fun w2 h => ?_)
        exact ⟨t, l, rfl, (h.dropAt 4).dropAt 3⟩
      simp only [Bool.or_eq_false_iff, decide_eq_false_iff_not] at hb
      rw [if_neg (show ¬ (n < 1 ∨ n > 1000) by omega)]
      refine ⟨_, rfl, _, h.rdR 1 rfl hqa hx rfl, BIf.ne (fun hs => ?_) (fun hs => ?_)⟩
      · rw [if_pos hs]
        refine retC h 3 rfl rfl (fun w2 h => ?_)
        exact ⟨t, l, rfl, (h.dropAt 4).dropAt 3⟩
      rw [if_neg (by omega)]
      have h := h.drew
      refine ⟨_, rfl, _, h.cellP 0 rfl rfl, _, h.cell 4 rfl rfl, _, rfl, ?_⟩
      rw [set_at hx] at h
      refine h.setR 1 (⟨x.Id, x.Base, 3, x.Line, x.Left, x.Since, x.Until, x.Wait⟩ : DThread) rfl hqa hil (by show 2 < 8; omega) rfl (fun w349 h nw349 => ?_)
      refine ⟨⟨_, h.cell 4 rfl rfl, rfl⟩, _, rfl, ?_⟩
      rw [w64 (n := d.Now + n) (by omega) (by omega)]
      refine h.setR 1 (⟨x.Id, x.Base, 3, x.Line, x.Left, x.Since, d.Now + n, x.Wait⟩ : DThread) rfl hqa hil (by show 6 < 8; omega) rfl (fun w352 h nw352 => ?_)
      exact ⟨rfl, t, l, h⟩
    rw [if_neg h6]
    refine BIf.eq (fun h7 => ?_) (fun h7 => ?_)
    · rw [if_pos h7]
      refine ⟨_, rfl, _, h.rdR 1 rfl hqa hx rfl, BIf.ne (fun hs => ?_) (fun hs => ?_)⟩
      · rw [if_pos hs]
        refine retC h 3 rfl rfl (fun w2 h => ?_)
        exact ⟨t, l, rfl, (h.dropAt 4).dropAt 3⟩
      rw [if_neg (by omega)]
      refine (s115 h hx hqa ⟨hnow.2, by omega⟩).mono ?_
      rintro _ w364 ⟨rfl, h⟩
      exact ⟨rfl, rfl, t, l, h⟩
    rw [if_neg h7]
    refine BIf.t (by simp; omega) ⟨_, h.cell 4 rfl rfl, ?_⟩
    refine join_or_ex _ (h.cell 4 rfl rfl) ?_
    refine BIf.of (fun hb => ?_) (fun hb => ?_)
    · simp only [Bool.or_eq_true, decide_eq_true_eq] at hb
      rw [if_pos hb]
      refine retC h 3 rfl rfl (fun w2 h => ?_)
      exact ⟨t, l, rfl, (h.dropAt 4).dropAt 3⟩
    simp only [Bool.or_eq_false_iff, decide_eq_false_iff_not] at hb
    rw [if_neg (show ¬ (n < 0 ∨ n > 7) by omega)]
    refine ⟨_, h.cell 4 rfl rfl, _, rfl, ?_⟩
    rw [set_at hx] at h
    refine h.setR 1 (⟨x.Id, n, x.State, x.Line, x.Left, x.Since, x.Until, x.Wait⟩ : DThread) rfl hqa hil (by show 1 < 8; omega) rfl (fun w378 h nw378 => ?_)
    exact ⟨rfl, t, l, h⟩
  · rintro w132 ⟨h00, t', l', h⟩
    refine retC h 3 rfl rfl (fun w2 h => ?_)
    refine ⟨t', l', ?_, (h.dropAt 4).dropAt 3⟩
    rw [h00]
end Go.Proofs.Yteigefjiifihpaa

/- The scheduler, the program's side: SchedStep, SchedRun. Conditions: none. -/
set_option linter.unusedVariables false
set_option linter.unusedSimpArgs false
namespace Go.Proofs.Yteigefjiifihpaa
open Go Go.Den
/-- An operation that fails leaves the state. -/
theorem lockF_same {d : DSched} {i : Nat} {t : DThread} {n : Int} (h : (lockF d i t n).2.1 ≠ 0) : (lockF d i t n).1 = d ∧ (lockF d i t n).2.2 = 0 := by
  unfold lockF at h ⊢
  split at h
  · exact absurd rfl h
  · split at h
    · rename_i h1; rw [if_pos h1]; exact ⟨rfl, rfl⟩
    · split at h
      · rename_i h1 h2; rw [if_neg h1, if_pos h2]; exact ⟨rfl, rfl⟩
      · exact absurd rfl h
theorem stepF_same {d : DSched} {kind id n : Int} (h : (stepF d kind id n).2.1 ≠ 0) : (stepF d kind id n).1 = d ∧ (stepF d kind id n).2.2 = 0 := by
  unfold stepF at h ⊢
  by_cases h1 : kind = 1
  · rw [if_pos h1] at h ⊢
    by_cases h2 : n < 0 ∨ n > 7
    · rw [if_pos h2]; exact ⟨rfl, rfl⟩
    · rw [if_neg h2] at h ⊢
      by_cases h3 : d.Threads.length = 32
      · rw [if_pos h3]; exact ⟨rfl, rfl⟩
      · rw [if_neg h3] at h; exact absurd rfl h
  · rw [if_neg h1] at h ⊢
    by_cases h2 : kind = 3
    · rw [if_pos h2] at h; exact absurd rfl h
    · rw [if_neg h2] at h ⊢
      by_cases h3 : kind < 1 ∨ kind > 8
      · rw [if_pos h3]; exact ⟨rfl, rfl⟩
      · rw [if_neg h3] at h ⊢
        rcases ht : d.Threads[(idT d id).toNat]? with _ | t
        · exact ⟨rfl, rfl⟩
        · rw [ht] at h
          simp only at h ⊢
          by_cases h4 : idT d id < 0
          · rw [if_pos h4]; exact ⟨rfl, rfl⟩
          · rw [if_neg h4] at h ⊢
            unfold thrF at h ⊢
            by_cases k2 : kind = 2
            · rw [if_pos k2] at h; exact absurd rfl h
            · rw [if_neg k2] at h ⊢
              by_cases k4 : kind = 4 ∨ kind = 5
              · rw [if_pos k4] at h ⊢
                by_cases b1 : n < 0 ∨ n ≥ 16
                · rw [if_pos b1]; exact ⟨rfl, rfl⟩
                · rw [if_neg b1] at h ⊢
                  by_cases b2 : t.State ≠ 1
                  · rw [if_pos b2]; exact ⟨rfl, rfl⟩
                  · rw [if_neg b2] at h ⊢
                    by_cases b3 : kind = 4
                    · rw [if_pos b3] at h ⊢; exact lockF_same h
                    · rw [if_neg b3] at h ⊢
                      rcases hl : lckOf d n with _ | k
                      · exact ⟨rfl, rfl⟩
                      · rw [hl] at h
                        simp only at h ⊢
                        by_cases b4 : k.Owner ≠ id
                        · rw [if_pos b4]; exact ⟨rfl, rfl⟩
                        · rw [if_neg b4] at h; exact absurd rfl h
              · rw [if_neg k4] at h ⊢
                by_cases k6 : kind = 6
                · rw [if_pos k6] at h ⊢
                  by_cases b1 : n < 1 ∨ n > 1000
                  · rw [if_pos b1]; exact ⟨rfl, rfl⟩
                  · rw [if_neg b1] at h ⊢
                    by_cases b2 : t.State ≠ 1
                    · rw [if_pos b2]; exact ⟨rfl, rfl⟩
                    · rw [if_neg b2] at h; exact absurd rfl h
                · rw [if_neg k6] at h ⊢
                  by_cases k7 : kind = 7
                  · rw [if_pos k7] at h ⊢
                    by_cases b2 : t.State ≠ 3
                    · rw [if_pos b2]; exact ⟨rfl, rfl⟩
                    · rw [if_neg b2] at h; exact absurd rfl h
                  · rw [if_neg k7] at h ⊢
                    by_cases b1 : n < 0 ∨ n > 7
                    · rw [if_pos b1]; exact ⟨rfl, rfl⟩
                    · rw [if_neg b1] at h; exact absurd rfl h
theorem s24 {w : World} {t l : Sl} {d : DSched} {kind id n : Int} (hs : SAt w t l d) :
    CallW Try.prog 24 #[sAgg d.Now d.Seq t l, .agg #[.int .i64 kind, .int .i64 id, .int .i64 n]] w (KR w [] (stepR d kind id n)) := by
  refine go24 ?_
  unfold W24
  have htl := hs.tl
  have hll := hs.ll
  have few := hs.few
  have h := SH.start w
  refine h.alloc (fun w1 h ew1 nw1 => ?_)
  refine h.alloc (fun w2 h ew2 nw2 => ?_)
  refine h.alloc (fun w3 h ew3 nw3 => ?_)
  refine h.alloc (fun w4 h ew4 nw4 => ?_)
  have h : SH w w4 [aB w3.heap.size (ZR.map Ce.v), aB w2.heap.size (ZS.map Ce.v), aB w1.heap.size ((opV kind id n).map Ce.v), aB w.heap.size ((sCells d.Now d.Seq t l).map Ce.v)] := h
  generalize w3.heap.size = rb at *
  generalize w2.heap.size = sb at *
  generalize w1.heap.size = ob at *
  refine ⟨_, h.cell 3 rfl rfl, _, h.cell 3 rfl rfl, t, h.cell 3 rfl rfl, l, h.cell 3 rfl rfl, (c34 (hs.ext h.ext)).mono ?_⟩
  rintro _ w10 ⟨b, rfl, hiff, e10⟩
  have h := h.to e10
  refine ⟨_, rfl, BIf.of (fun hn => ?_) (fun hy => ?_)⟩
  · have hno : ¬ SOk d := fun hh => by rw [hiff.2 hh] at hn; cases hn
    refine retR (t := ⟨none, 0, 0⟩) (l := ⟨none, 0, 0⟩) h 1 0 rfl rfl rfl rfl (by simp) (fun w2 h => ?_)
    unfold stepR
    rw [if_neg hno]
    exact ⟨⟨none, 0, 0⟩, ⟨none, 0, 0⟩, rfl, SH.nil (SH.nil (SH.start w |>.to h.ext) none 2) none 8⟩
  have hok : SOk d := hiff.1 (by simpa using hy)
  obtain ⟨hi, hnow, hseq⟩ := sok_iff.1 hok
  have hres : stepR d kind id n = stepF d kind id n := by unfold stepR; rw [if_pos hok]
  rw [hres]
  refine JoinW.cut1 (fun (p : Option Addr) w' => ∃ (b : Nat) (t' l' : Sl), p = some ⟨b, 0, none⟩ ∧ SH w w' [PB b d t' l', RT t' d.Threads, RL l' d.Locks, aB rb (ZR.map Ce.v), aB sb (ZS.map Ce.v), aB ob ((opV kind id n).map Ce.v), aB w.heap.size ((sCells d.Now d.Seq t l).map Ce.v)]) ?_ ?_
  · have h := h.drew
    refine ⟨_, h.cell 3 rfl rfl, _, h.cell 3 rfl rfl, t, h.cell 3 rfl rfl, l, h.cell 3 rfl rfl, ?_⟩
    refine ⟨?_, ?_⟩
    · skip
      have h := SH.nil h none 8
      refine SH.appendR (f := DThread.cells) (l := []) (us := d.Threads) h (hs.ext h.ext).tr (by omega) (fun _ => rfl) rfl rfl (by decide) (by show (_ + _) * 64 ≤ _; simp; omega) plain_thr (fun l86 w87 h hll86 _ => ?_)
      refine ⟨⟨l, h.cell 4 rfl rfl, rfl⟩, ?_⟩
      refine ⟨⟨_, h.cell 4 rfl rfl, rfl⟩, ?_⟩
      refine ⟨⟨_, h.cell 4 rfl rfl, rfl⟩, ?_⟩
      refine ⟨?_, ?_⟩
      · skip
        have h := SH.nil h none 2
        refine SH.appendR (f := DLock.cells) (l := []) (us := d.Locks) h (hs.ext h.ext).lr (by omega) (fun _ => rfl) rfl rfl (by decide) (by show (_ + _) * 16 ≤ _; simp; omega) plain_lck (fun l101 w102 h hll101 _ => ?_)
        refine ⟨⟨_, h.cell 5 rfl rfl, rfl⟩, ?_⟩
        refine ⟨⟨_, h.cell 5 rfl rfl, rfl⟩, ?_⟩
        refine ⟨?_, trivial⟩
        refine h.alloc (fun w105 h ew105 nw105 => ?_)
        refine ⟨⟨l, h.cell 6 rfl rfl, rfl⟩, ?_⟩
        refine ⟨⟨t, h.cell 6 rfl rfl, rfl⟩, ?_⟩
        refine ⟨⟨_, h.cell 6 rfl rfl, rfl⟩, ?_⟩
        refine ⟨⟨_, h.cell 6 rfl rfl, rfl⟩, ?_⟩
        refine ⟨?_, trivial⟩
        refine h.put 0 rfl rfl rfl (fun w110 h nw110 => ?_)
        exact ⟨_, l86, l101, rfl, (((((((h.front (n := 6) rfl).front (n := 6) rfl).front (n := 6) rfl).front (n := 6) rfl).front (n := 5) rfl).front (n := 6) rfl).front (n := 6) rfl)⟩
      · skip
        refine ⟨?_, trivial⟩
        refine h.alloc (fun w91 h ew91 nw91 => ?_)
        refine ⟨⟨l, h.cell 5 rfl rfl, rfl⟩, ?_⟩
        refine ⟨⟨t, h.cell 5 rfl rfl, rfl⟩, ?_⟩
        refine ⟨⟨_, h.cell 5 rfl rfl, rfl⟩, ?_⟩
        refine ⟨⟨_, h.cell 5 rfl rfl, rfl⟩, ?_⟩
        refine ⟨?_, trivial⟩
        have h := SH.nil h none 2
        refine SH.appendR (f := DLock.cells) (l := []) (us := d.Locks) h (hs.ext h.ext).lr (by omega) (fun _ => rfl) rfl rfl (by decide) (by show (_ + _) * 16 ≤ _; simp; omega) plain_lck (fun l96 w97 h hll96 _ => ?_)
        refine ⟨⟨_, h.cell 6 rfl rfl, rfl⟩, ?_⟩
        refine ⟨⟨_, h.cell 6 rfl rfl, rfl⟩, ?_⟩
        refine ⟨?_, trivial⟩
        refine h.put 1 rfl rfl rfl (fun w100 h nw100 => ?_)
        exact ⟨_, l86, l96, rfl, (((((((h.front (n := 6) rfl).front (n := 6) rfl).front (n := 6) rfl).front (n := 6) rfl).front (n := 4) rfl).front (n := 6) rfl).front (n := 6) rfl)⟩
    · skip
      refine ⟨?_, trivial⟩
      refine h.alloc (fun w71 h ew71 nw71 => ?_)
      refine ⟨⟨l, h.cell 4 rfl rfl, rfl⟩, ?_⟩
      refine ⟨⟨t, h.cell 4 rfl rfl, rfl⟩, ?_⟩
      refine ⟨⟨_, h.cell 4 rfl rfl, rfl⟩, ?_⟩
      refine ⟨⟨_, h.cell 4 rfl rfl, rfl⟩, ?_⟩
      refine ⟨?_, trivial⟩
      have h := SH.nil h none 8
      refine SH.appendR (f := DThread.cells) (l := []) (us := d.Threads) h (hs.ext h.ext).tr (by omega) (fun _ => rfl) rfl rfl (by decide) (by show (_ + _) * 64 ≤ _; simp; omega) plain_thr (fun l76 w77 h hll76 _ => ?_)
      refine ⟨⟨l, h.cell 5 rfl rfl, rfl⟩, ?_⟩
      refine ⟨⟨_, h.cell 5 rfl rfl, rfl⟩, ?_⟩
      refine ⟨⟨_, h.cell 5 rfl rfl, rfl⟩, ?_⟩
      refine ⟨?_, trivial⟩
      have h := SH.nil h none 2
      refine SH.appendR (f := DLock.cells) (l := []) (us := d.Locks) h (hs.ext h.ext).lr (by omega) (fun _ => rfl) rfl rfl (by decide) (by show (_ + _) * 16 ≤ _; simp; omega) plain_lck (fun l81 w82 h hll81 _ => ?_)
      refine ⟨⟨_, h.cell 6 rfl rfl, rfl⟩, ?_⟩
      refine ⟨⟨_, h.cell 6 rfl rfl, rfl⟩, ?_⟩
      refine ⟨?_, trivial⟩
      refine h.put 2 rfl rfl rfl (fun w85 h nw85 => ?_)
      exact ⟨_, l76, l81, rfl, (((((((h.front (n := 6) rfl).front (n := 6) rfl).front (n := 6) rfl).front (n := 6) rfl).front (n := 4) rfl).front (n := 5) rfl).front (n := 6) rfl)⟩

  rintro (p : Option Addr) w22 ⟨b, t', l', rfl, h⟩
  refine ⟨_, h.cell 5 rfl rfl, _, h.cell 5 rfl rfl, _, h.cell 5 rfl rfl, (s68 h hi hnow (by omega)).mono ?_⟩
  rintro _ w27 ⟨t2, l2, rfl, h⟩
  refine ⟨_, _, rfl, ?_⟩
  refine h.alloc (fun w30 h ew30 nw30 => ?_)
  refine h.put 0 rfl rfl rfl (fun w31 h nw31 => ?_)
  refine JoinW.cut0 (fun w' => ∃ t3 l3 : Sl, SH w w' [aB w27.heap.size ((rsV (stepF d kind id n).2.1 (stepF d kind id n).2.2).map Ce.v), PB b (stepF d kind id n).1 t3 l3, RT t3 (stepF d kind id n).1.Threads, RL l3 (stepF d kind id n).1.Locks, aB rb (ZR.map Ce.v), aB sb (ZS.map Ce.v)]) ?_ ?_
  · refine ⟨_, h.cell 0 rfl rfl, BIf.ne (fun hc => ?_) (fun hc => ?_)⟩
    · have hsame := (stepF_same hc).1
      have h := h.drew
      refine ⟨_, h.cell 7 rfl rfl, _, h.cell 7 rfl rfl, t, h.cell 7 rfl rfl, l, h.cell 7 rfl rfl, ?_⟩
      have h := SH.nil h none 8
      refine SH.appendR (f := DThread.cells) (l := []) (us := d.Threads) h (hs.ext h.ext).tr (by omega) (fun _ => rfl) rfl rfl (by decide) (by show (_ + _) * 64 ≤ _; simp; omega) plain_thr (fun l56 w57 h hl56 _ => ?_)
      refine ⟨⟨l, h.cell 8 rfl rfl, rfl⟩, ⟨_, h.cell 8 rfl rfl, rfl⟩, ⟨_, h.cell 8 rfl rfl, rfl⟩, ?_⟩
      have h := SH.nil h none 2
      refine SH.appendR (f := DLock.cells) (l := []) (us := d.Locks) h (hs.ext h.ext).lr (by omega) (fun _ => rfl) rfl rfl (by decide) (by show (_ + _) * 16 ≤ _; simp; omega) plain_lck (fun l61 w62 h hl61 _ => ?_)
      refine ⟨⟨_, h.cell 9 rfl rfl, rfl⟩, ⟨_, h.cell 9 rfl rfl, rfl⟩, ?_⟩
      refine addrOf_mk ?_
      refine h.put 3 rfl rfl rfl (fun w66 h nw66 => ?_)
      rw [hsame]
      exact ⟨l56, l61, ((((((((h.dropAt 9).dropAt 8).dropAt 5).dropAt 4).front (n := 0) rfl).front (n := 1) rfl).front (n := 3) rfl).front (n := 3) rfl)⟩
    · exact ⟨t2, l2, (h.dropAt 7).dropAt 6⟩
  · rintro w33 ⟨t3, l3, h⟩
    refine addrOf_mk ?_
    have h := h.drew
    refine ⟨_, h.cellP 1 rfl rfl, _, h.cellP 1 rfl rfl, t3, h.cellP 1 rfl rfl, l3, h.cellP 1 rfl rfl, _, h.cell 0 rfl rfl, _, h.cell 0 rfl rfl, ?_⟩
    refine h.put 5 rfl rfl rfl (fun w41 h nw41 => ?_)
    refine ⟨⟨_, h.cell 0 rfl rfl, _, h.cell 0 rfl rfl, rfl⟩, ?_⟩
    refine h.put 4 rfl rfl rfl (fun w44 h nw44 => ?_)
    refine ⟨_, h.cell 5 rfl rfl, _, h.cell 5 rfl rfl, t3, h.cell 5 rfl rfl, l3, h.cell 5 rfl rfl, _, h.cell 4 rfl rfl, _, h.cell 4 rfl rfl, ?_⟩
    exact ⟨t3, l3, rfl, (((h.dropAt 5).dropAt 4).dropAt 1).dropAt 0⟩
theorem satOf2 {w0 w : World} {As : List Asr} (h : SH w0 w As) (i j : Nat) {t l : Sl} {d : DSched} (hi : As[i]? = some (RT t d.Threads)) (hj : As[j]? = some (RL l d.Locks)) (hv : Inv0 d) : SAt w t l d := by
  have := hv.few
  exact satOf h i j hi hj ⟨by omega, by omega⟩
theorem stepR_inv {d : DSched} (h : Inv0 d) (hn : d.Now ≤ 1099511627776) (hq : d.Seq ≤ 1099511627776) (kind id n : Int) : stepR d kind id n = stepF d kind id n := by
  unfold stepR
  rw [if_pos (sok_iff.2 ⟨h, hn, hq⟩)]
theorem s14 {w : World} {a0 : Sl} {ops : List DSchedOp} (ho : RecsAt w a0 3 DSchedOp.cells ops) :
    CallW Try.prog 14 #[.slice a0.a a0.len a0.cap] w (fun v w' => ∃ s : Sl, v = .slice s.a s.len s.cap ∧ SH w w' [RO s (runF ops)]) := by
  refine go14 ?_
  unfold W14
  have hol := ho.len
  have h := SH.start w
  refine BIf.dec (fun hbig => ?_) (fun hfew => ?_)
  · refine ⟨⟨none, 0, 0⟩, rfl, ?_⟩
    unfold runF
    rw [if_pos (by omega)]
    exact SH.nil h none 2
  have hrun : runF ops = runL zeroS ops := by unfold runF; rw [if_neg (by omega)]
  rw [hrun]
  refine h.alloc (fun w1 h ew1 nw1 => ?_)
  have h : SH w w1 [RO ⟨none, 0, 0⟩ [], RT ⟨none, 0, 0⟩ zeroS.Threads, RL ⟨none, 0, 0⟩ zeroS.Locks, aB w.heap.size ((sCells zeroS.Now zeroS.Seq ⟨none, 0, 0⟩ ⟨none, 0, 0⟩).map Ce.v)] := SH.nil (SH.nil (SH.nil h none 2) none 8) none 2
  refine LoopW.m2 (fun (s : Sl) (i : Int) w' => ∃ (n : Nat) (e : DSched) (out : List DSchedRes) (t l : Sl), i = n ∧ n ≤ ops.length ∧ out.length = n ∧ out ++ runL e (ops.drop n) = runL zeroS ops ∧ Inv0 e ∧ e.Now ≤ n ∧ e.Seq ≤ 33 * n ∧ SH w w' [RO s out, RT t e.Threads, RL l e.Locks, aB w.heap.size ((sCells e.Now e.Seq t l).map Ce.v)]) (fun _ (i : Int) _ => (a0.len - i).toNat)
    ⟨0, zeroS, [], _, _, rfl, Nat.zero_le _, rfl, rfl, zero_inv, by decide, by decide, h⟩ ?_
  clear h
  rintro (s : Sl) (i : Int) w5 ⟨n, e, out, t, l, rfl, hnl, hout, hruns, hie, hen, hes, h⟩ J hJ
  refine BIf.dec (fun hlt => ?_) (fun hge => ?_)
  · have hk : n < ops.length := by omega
    have hget : ops[n]? = some ops[n] := List.getElem?_eq_getElem hk
    rw [List.drop_eq_getElem_cons hk, runL] at hruns
    obtain ⟨q, hq, hcell⟩ := ho.get (by omega) hget
    generalize ops[n] = op at *
    obtain ⟨hi2, hn2, hq2⟩ := hie.step (by omega) op.Kind op.Id op.N
    simp only [Int.toNat_natCast]
    rw [w64 (n := (n : Int) + 1) (by omega) (by omega)]
    refine ⟨by omega, by omega, q, hq, _, h.ext.cell (hcell 0 _ rfl), _, h.ext.cell (hcell 1 _ rfl), _, h.ext.cell (hcell 2 _ rfl), ?_⟩
    refine h.alloc (fun w10 h ew10 nw10 => ?_)
    refine h.put 0 rfl rfl rfl (fun w11 h nw11 => ?_)
    refine h.alloc (fun w12 h ew12 nw12 => ?_)
    refine ⟨_, h.cell 5 rfl rfl, _, h.cell 5 rfl rfl, t, h.cell 5 rfl rfl, l, h.cell 5 rfl rfl, _, h.cell 1 rfl rfl, _, h.cell 1 rfl rfl, _, h.cell 1 rfl rfl, (s24 (satOf2 h 3 4 rfl rfl hie)).mono ?_⟩
    rintro _ w21 ⟨t', l', rfl, g⟩
    rw [stepR_inv hie (by omega) (by omega)] at g ⊢
    have h := h.seq g
    refine ⟨_, _, t', l', _, _, rfl, ?_⟩
    refine h.put 7 rfl rfl rfl (fun w28 h nw28 => ?_)
    refine h.put 2 rfl rfl rfl (fun w29 h nw29 => ?_)
    refine ⟨_, h.cell 2 rfl rfl, _, h.cell 2 rfl rfl, ?_⟩
    have h := h.front (n := 4) rfl
    refine LetW_iff.2 (SH.appendR1 (f := DSchedRes.cells) (x := ⟨(stepF e op.Kind op.Id op.N).2.1, (stepF e op.Kind op.Id op.N).2.2⟩) h rfl rfl rfl (by decide) (by show _ * 16 ≤ _; omega) (plain_res _) (fun l22 w23 h hl22 _ => ?_))
    refine hJ _ _ _ ⟨n + 1, (stepF e op.Kind op.Id op.N).1, out ++ [(⟨(stepF e op.Kind op.Id op.N).2.1, (stepF e op.Kind op.Id op.N).2.2⟩ : DSchedRes)], t', l', by omega, by omega, by simp [hout], ?_, hi2, by omega, by omega, (((h.dropAt 6).dropAt 5).dropAt 4).dropAt 3⟩ (by omega)
    rw [List.append_assoc]; exact hruns
  · rw [List.drop_eq_nil_of_le (by omega)] at hruns
    have hruns : out ++ [] = runL zeroS ops := hruns
    rw [List.append_nil] at hruns
    rw [← hruns]
    exact ⟨s, rfl, h.one⟩
end Go.Proofs.Yteigefjiifihpaa

/- The law's own functions over trees: copies, sizes, comparisons, marks; printed by a program. Conditions: none. -/
set_option linter.unusedVariables false
set_option linter.unusedSimpArgs false
set_option maxRecDepth 4000
namespace Go.Proofs.Yteigefjiifihpaa
open Go Go.Den

theorem has_SchedOp {d : Dat} (h : Has TySchedOp d) : ∃ x_0 : Int, ∃ x_1 : Int, ∃ x_2 : Int, d = .st [.int .i64 x_0, .int .i64 x_1, .int .i64 x_2] := by
  obtain ⟨_, rfl, g⟩ := has_st h
  obtain ⟨_, _, rfl, h_0, g⟩ := hasF_cons g
  obtain ⟨_, _, rfl, h_1, g⟩ := hasF_cons g
  obtain ⟨_, _, rfl, h_2, g⟩ := hasF_cons g
  obtain rfl := hasF_nil g
  obtain ⟨x_0, rfl⟩ := has_int h_0
  obtain ⟨x_1, rfl⟩ := has_int h_1
  obtain ⟨x_2, rfl⟩ := has_int h_2
  exact ⟨x_0, x_1, x_2, rfl⟩
theorem cells_SchedOp {w : World} {x_0 : Int} {x_1 : Int} {x_2 : Int} {cs : List Value} (h : IsD w (.st [.int .i64 x_0, .int .i64 x_1, .int .i64 x_2]) cs) : cs = [.int .i64 x_0, .int .i64 x_1, .int .i64 x_2] ∧ ((Lit.int .i64 x_0).wf = true) ∧ ((Lit.int .i64 x_1).wf = true) ∧ ((Lit.int .i64 x_2).wf = true) := by
  have q := isD_st h
  obtain ⟨_, _, rfl, i_0, q⟩ := isF_cons q
  obtain ⟨_, _, rfl, i_1, q⟩ := isF_cons q
  obtain ⟨_, _, rfl, i_2, q⟩ := isF_cons q
  obtain rfl := isF_nil q
  obtain ⟨rfl, ws_0⟩ := isD_int i_0
  obtain ⟨rfl, ws_1⟩ := isD_int i_1
  obtain ⟨rfl, ws_2⟩ := isD_int i_2
  exact ⟨rfl, ws_0, ws_1, ws_2⟩
theorem has_SchedRes {d : Dat} (h : Has TySchedRes d) : ∃ x_0 : Int, ∃ x_1 : Int, d = .st [.int .i64 x_0, .int .i64 x_1] := by
  obtain ⟨_, rfl, g⟩ := has_st h
  obtain ⟨_, _, rfl, h_0, g⟩ := hasF_cons g
  obtain ⟨_, _, rfl, h_1, g⟩ := hasF_cons g
  obtain rfl := hasF_nil g
  obtain ⟨x_0, rfl⟩ := has_int h_0
  obtain ⟨x_1, rfl⟩ := has_int h_1
  exact ⟨x_0, x_1, rfl⟩
theorem cells_SchedRes {w : World} {x_0 : Int} {x_1 : Int} {cs : List Value} (h : IsD w (.st [.int .i64 x_0, .int .i64 x_1]) cs) : cs = [.int .i64 x_0, .int .i64 x_1] ∧ ((Lit.int .i64 x_0).wf = true) ∧ ((Lit.int .i64 x_1).wf = true) := by
  have q := isD_st h
  obtain ⟨_, _, rfl, i_0, q⟩ := isF_cons q
  obtain ⟨_, _, rfl, i_1, q⟩ := isF_cons q
  obtain rfl := isF_nil q
  obtain ⟨rfl, ws_0⟩ := isD_int i_0
  obtain ⟨rfl, ws_1⟩ := isD_int i_1
  exact ⟨rfl, ws_0, ws_1⟩
/- szSchedOpS -/
theorem c11 {l : List Dat} {a0 : Sl} {left : Int} {w : World} (ht : ∀ e, e ∈ l → Has TySchedOp e) (h : IsD w (.sl 3 l) [.slice a0.a a0.len a0.cap]) (h0 : 0 ≤ left) (hl : left ≤ 4611686018427387904) : CallW Try.prog 11 #[.slice a0.a a0.len a0.cap, .int .i64 left] w (fun v w' => SzPost (Dat.sl 3 l).sz left v ∧ Ext w w') := by
  refine go11 ?_
  unfold W11
  obtain ⟨hlen, hmax, hel⟩ := isD_sl h
  have hmx : maxLen = 9223372036854775807 := rfl
  rw [hlen, w64 (by omega) (by omega)]
  have hz : Dat.szs l = 0 := by
    refine szs_zero (fun d hd => ?_)
    have ht0 := ht d hd
    obtain ⟨x_0, x_1, x_2, rfl⟩ := has_SchedOp ht0
    rfl
  refine BIf.dec (fun hn => ⟨⟨_, rfl, .inr ⟨by omega, by simp only [Dat.sz]; omega⟩⟩, Only.refl _ _⟩) (fun hp => ⟨⟨_, rfl, .inl ⟨by simp only [Dat.sz]; omega, by omega⟩⟩, Only.refl _ _⟩)

/- toSchedOp -/
theorem c23 {d : Dat} {cs : List Value} {w : World} (ht : Has TySchedOp d) (h : IsD w d cs) (hs : d.sz ≤ 4194304) : CallW Try.prog 23 #[.agg ⟨cs⟩] w (fun v w' => ∃ cs', v = .agg ⟨cs'⟩ ∧ Fr w.heap.size w'.heap.size w' d cs' ∧ Ext w w') := by
  obtain ⟨x_0, x_1, x_2, rfl⟩ := has_SchedOp ht
  obtain ⟨rfl, ws_0, ws_1, ws_2⟩ := cells_SchedOp h
  show CallW Try.prog 23 #[.agg #[.int .i64 x_0, .int .i64 x_1, .int .i64 x_2]] w _
  refine go23 ?_
  unfold W23
  refine alloc_step (fun w1 e1 ha n1 => ?_)
  refine alloc_step (fun w2 e2 hc n2 => ?_)
  have ha := ha.ext e2
  refine alloc_step (fun w3 e3 hb n3 => ?_)
  have ha := ha.ext e3
  have hc := hc.ext e3
  have e := Only.trans e1 (Only.trans e2 e3)
  refine ⟨_, ha.cell 0, ?_⟩
  refine set_step hb (by simp) (fun w4 o4 hb n4 => ?_)
  have ha := ha.only o4 (by omega)
  have hc := hc.only o4 (by omega)
  have e := Ext.own e o4 (fun k hk => by omega)
  refine ⟨_, ha.cell 1, ?_⟩
  refine set_step hb (by simp) (fun w5 o5 hb n5 => ?_)
  have ha := ha.only o5 (by omega)
  have hc := hc.only o5 (by omega)
  have e := Ext.own e o5 (fun k hk => by omega)
  refine ⟨_, ha.cell 2, ?_⟩
  refine set_step hb (by simp) (fun w6 o6 hb n6 => ?_)
  have ha := ha.only o6 (by omega)
  have hc := hc.only o6 (by omega)
  have e := Ext.own e o6 (fun k hk => by omega)
  refine ⟨_, hb.cell 0, _, hb.cell 1, _, hb.cell 2, ?_⟩
  refine put_step hc rfl rfl (fun w7 o7 hc n7 => ?_)
  have e := Ext.own e o7 (fun k hk => by omega)
  refine ⟨_, hc.cell 0, _, hc.cell 1, _, hc.cell 2, ?_⟩
  exact ⟨[.int .i64 x_0, .int .i64 x_1, .int .i64 x_2], rfl, frF_st (frF_cons (m := w.heap.size) (fr_int ws_0) (frF_cons (m := w.heap.size) (fr_int ws_1) (frF_cons (m := w.heap.size) (fr_int ws_2) (frF_nil) (by omega) (by omega)) (by omega) (by omega)) (by omega) (by omega)), e⟩

/- toSchedOpS -/
theorem c13 {l : List Dat} {a0 : Sl} {w : World} (ht : ∀ e, e ∈ l → Has TySchedOp e) (h : IsD w (.sl 3 l) [.slice a0.a a0.len a0.cap]) (hs : (Dat.sl 3 l).sz ≤ 4194304) : CallW Try.prog 13 #[.slice a0.a a0.len a0.cap] w (fun v w' => ∃ s : Sl, v = .slice s.a s.len s.cap ∧ Fr w.heap.size w'.heap.size w' (.sl 3 l) [.slice s.a s.len s.cap] ∧ Ext w w') := by
  refine go13 ?_
  unfold W13
  obtain ⟨hlen, hmax, hel⟩ := isD_sl h
  simp only [Dat.sz] at hs
  rw [hlen]; simp only [Int.toNat_natCast]
  refine ⟨by omega, by omega, by omega, by omega, LetW_iff.2 ?_⟩
  have hs0 := ToInv.start (w := w) (z := 3) (zero := ti49.zero) (e := 49) l rfl
  generalize w.alloc (.cells ⟨zerosOf ti49.zero l.length⟩ 49) = w1 at *
  refine LoopW.m1 (fun (i : Int) w' => ∃ (k : Nat) (bs : List Nat) (vs : List Value), i = k ∧ ToInv w w' w.heap.size 3 l k bs vs) (fun (i : Int) _ => (l.length - i).toNat) ⟨0, [], _, rfl, hs0⟩ ?_
  rintro (i : Int) w4 ⟨k, bs, vs, rfl, hi⟩ J hJ
  refine BIf.dec (fun hlt => ?_) (fun hge => ?_)
  · obtain ⟨d, hd⟩ : ∃ d, l[k]? = some d := ⟨_, List.getElem?_eq_getElem (by omega)⟩
    have hsz := szs_get hd
    obtain ⟨p, es, hp, he, hc, his⟩ := isD_at (IsD.ext hi.ext _ _ h) hd
    have ht0 := ht d (mem_get hd)
    obtain ⟨x_0, x_1, x_2, rfl⟩ := has_SchedOp ht0
    have his0 := his
    obtain ⟨rfl, ws_0, ws_1, ws_2⟩ := cells_SchedOp his
    refine ⟨by omega, by omega, p, hp, _, hc 0 _ rfl, _, hc 1 _ rfl, _, hc 2 _ rfl, (c23 (cs := [.int .i64 x_0, .int .i64 x_1, .int .i64 x_2]) ht0 his0 (by omega)).mono ?_⟩
    rintro _ w9 ⟨r, rfl, f, e9⟩
    have hr := f.is
    obtain ⟨rfl, wr_0, wr_1, wr_2⟩ := cells_SchedOp hr
    obtain ⟨b1, ho, hn, hb⟩ := f
    obtain ⟨hm, hi2⟩ := hi.step hd e9 ho hn (fun c hc => (hb c hc).1) rfl
    refine ⟨_, _, _, rfl, by omega, by omega, _, rfl, hm, LetW_iff.2 ?_⟩
    rw [w64 (by omega) (by omega)]
    exact hJ _ _ ⟨k + 1, _, _, by omega, hi2⟩ (by omega)
  · exact ⟨⟨some ⟨w.heap.size, 0, none⟩, l.length, l.length⟩, rfl, (hi.done (by omega) hmax).fr, hi.ext⟩

/- eqSchedRes -/
theorem c26 {d : Dat} {cs1 cs2 : List Value} {w : World} (ht : Has TySchedRes d) (h : IsD w d cs1) (h2 : IsD w d cs2) : CallW Try.prog 26 #[.agg ⟨cs1⟩, .agg ⟨cs2⟩] w (fun v w' => v = .bool true ∧ Ext w w') := by
  obtain ⟨x_0, x_1, rfl⟩ := has_SchedRes ht
  obtain ⟨rfl, ws_0, ws_1⟩ := cells_SchedRes h
  obtain ⟨rfl, wu_0, wu_1⟩ := cells_SchedRes h2
  show CallW Try.prog 26 #[.agg #[.int .i64 x_0, .int .i64 x_1], .agg #[.int .i64 x_0, .int .i64 x_1]] w _
  refine go26 ?_
  unfold W26
  refine alloc_step (fun w1 e1 ha n1 => ?_)
  refine alloc_step (fun w2 e2 hb n2 => ?_)
  have ha := ha.ext e2
  have e := Only.trans e1 e2
  refine ⟨_, ha.cell 0, _, hb.cell 0, BIf.f (by simp) ?_⟩
  refine ⟨_, ha.cell 1, _, hb.cell 1, BIf.f (by simp) ?_⟩
  exact ⟨rfl, e⟩

/- eqSchedResS -/
theorem c15 {l : List Dat} {a0 a1 : Sl} {w : World} (ht : ∀ e, e ∈ l → Has TySchedRes e) (h : IsD w (.sl 2 l) [.slice a0.a a0.len a0.cap]) (h2 : IsD w (.sl 2 l) [.slice a1.a a1.len a1.cap]) : CallW Try.prog 15 #[.slice a0.a a0.len a0.cap, .slice a1.a a1.len a1.cap] w (fun v w' => v = .bool true ∧ Ext w w') := by
  refine go15 ?_
  unfold W15
  obtain ⟨hlen, hmax, hel⟩ := isD_sl h
  obtain ⟨hlen2, _, hel2⟩ := isD_sl h2
  have hmx : maxLen = 9223372036854775807 := rfl
  rw [hlen, hlen2]
  refine BIf.f (by simp) ?_
  refine LoopW.m1 (fun (i : Int) w' => ∃ k : Nat, i = k ∧ k ≤ l.length ∧ Ext w w') (fun (i : Int) _ => (l.length - i).toNat) ⟨0, rfl, by omega, Only.refl _ _⟩ ?_
  rintro (i : Int) w4 ⟨k, rfl, hk, e4⟩ J hJ
  refine BIf.dec (fun hlt => ?_) (fun hge => ⟨rfl, e4⟩)
  obtain ⟨d, hd⟩ : ∃ d, l[k]? = some d := ⟨_, List.getElem?_eq_getElem (by omega)⟩
  have e4 := Only.trans e4 (ext_drew w4)
  obtain ⟨p, es, hp, he, hc, his⟩ := isD_at (IsD.ext e4 _ _ h) hd
  obtain ⟨p2, es2, hp2, he2, hc2, his2⟩ := isD_at (IsD.ext e4 _ _ h2) hd
  have ht0 := ht d (mem_get hd)
  have ht1 := ht0
  obtain ⟨x_0, x_1, rfl⟩ := has_SchedRes ht1
  have his0 := his
  have his20 := his2
  obtain ⟨rfl, ws_0, ws_1⟩ := cells_SchedRes his
  obtain ⟨rfl, wu_0, wu_1⟩ := cells_SchedRes his2
  refine ⟨by omega, by omega, p, hp, _, hc 0 _ rfl, _, hc 1 _ rfl, by omega, by omega, p2, hp2, _, hc2 0 _ rfl, _, hc2 1 _ rfl, (c26 (cs1 := [.int .i64 x_0, .int .i64 x_1]) (cs2 := [.int .i64 x_0, .int .i64 x_1]) ht0 his0 his20).mono ?_⟩
  rintro _ w9 ⟨rfl, e9⟩
  refine ⟨true, rfl, BIf.f rfl ?_⟩
  rw [w64 (by omega) (by omega)]
  exact hJ _ _ ⟨k + 1, by omega, by omega, Only.trans e4 e9⟩ (by omega)

/- eqSchedOp -/
theorem c62 {d : Dat} {cs1 cs2 : List Value} {w : World} (ht : Has TySchedOp d) (h : IsD w d cs1) (h2 : IsD w d cs2) : CallW Try.prog 62 #[.agg ⟨cs1⟩, .agg ⟨cs2⟩] w (fun v w' => v = .bool true ∧ Ext w w') := by
  obtain ⟨x_0, x_1, x_2, rfl⟩ := has_SchedOp ht
  obtain ⟨rfl, ws_0, ws_1, ws_2⟩ := cells_SchedOp h
  obtain ⟨rfl, wu_0, wu_1, wu_2⟩ := cells_SchedOp h2
  show CallW Try.prog 62 #[.agg #[.int .i64 x_0, .int .i64 x_1, .int .i64 x_2], .agg #[.int .i64 x_0, .int .i64 x_1, .int .i64 x_2]] w _
  refine go62 ?_
  unfold W62
  refine alloc_step (fun w1 e1 ha n1 => ?_)
  refine alloc_step (fun w2 e2 hb n2 => ?_)
  have ha := ha.ext e2
  have e := Only.trans e1 e2
  refine ⟨_, ha.cell 0, _, hb.cell 0, BIf.f (by simp) ?_⟩
  refine ⟨_, ha.cell 1, _, hb.cell 1, BIf.f (by simp) ?_⟩
  refine ⟨_, ha.cell 2, _, hb.cell 2, BIf.f (by simp) ?_⟩
  exact ⟨rfl, e⟩

/- eqSchedOpS -/
theorem c16 {l : List Dat} {a0 a1 : Sl} {w : World} (ht : ∀ e, e ∈ l → Has TySchedOp e) (h : IsD w (.sl 3 l) [.slice a0.a a0.len a0.cap]) (h2 : IsD w (.sl 3 l) [.slice a1.a a1.len a1.cap]) : CallW Try.prog 16 #[.slice a0.a a0.len a0.cap, .slice a1.a a1.len a1.cap] w (fun v w' => v = .bool true ∧ Ext w w') := by
  refine go16 ?_
  unfold W16
  obtain ⟨hlen, hmax, hel⟩ := isD_sl h
  obtain ⟨hlen2, _, hel2⟩ := isD_sl h2
  have hmx : maxLen = 9223372036854775807 := rfl
  rw [hlen, hlen2]
  refine BIf.f (by simp) ?_
  refine LoopW.m1 (fun (i : Int) w' => ∃ k : Nat, i = k ∧ k ≤ l.length ∧ Ext w w') (fun (i : Int) _ => (l.length - i).toNat) ⟨0, rfl, by omega, Only.refl _ _⟩ ?_
  rintro (i : Int) w4 ⟨k, rfl, hk, e4⟩ J hJ
  refine BIf.dec (fun hlt => ?_) (fun hge => ⟨rfl, e4⟩)
  obtain ⟨d, hd⟩ : ∃ d, l[k]? = some d := ⟨_, List.getElem?_eq_getElem (by omega)⟩
  have e4 := Only.trans e4 (ext_drew w4)
  obtain ⟨p, es, hp, he, hc, his⟩ := isD_at (IsD.ext e4 _ _ h) hd
  obtain ⟨p2, es2, hp2, he2, hc2, his2⟩ := isD_at (IsD.ext e4 _ _ h2) hd
  have ht0 := ht d (mem_get hd)
  have ht1 := ht0
  obtain ⟨x_0, x_1, x_2, rfl⟩ := has_SchedOp ht1
  have his0 := his
  have his20 := his2
  obtain ⟨rfl, ws_0, ws_1, ws_2⟩ := cells_SchedOp his
  obtain ⟨rfl, wu_0, wu_1, wu_2⟩ := cells_SchedOp his2
  refine ⟨by omega, by omega, p, hp, _, hc 0 _ rfl, _, hc 1 _ rfl, _, hc 2 _ rfl, by omega, by omega, p2, hp2, _, hc2 0 _ rfl, _, hc2 1 _ rfl, _, hc2 2 _ rfl, (c62 (cs1 := [.int .i64 x_0, .int .i64 x_1, .int .i64 x_2]) (cs2 := [.int .i64 x_0, .int .i64 x_1, .int .i64 x_2]) ht0 his0 his20).mono ?_⟩
  rintro _ w9 ⟨rfl, e9⟩
  refine ⟨true, rfl, BIf.f rfl ?_⟩
  rw [w64 (by omega) (by omega)]
  exact hJ _ _ ⟨k + 1, by omega, by omega, Only.trans e4 e9⟩ (by omega)

/- markSchedOpS -/
theorem c17 {l : List Dat} {a0 : Sl} {bs : List Nat} {k0 : Int} {w : World} (ht : ∀ e, e ∈ l → Has TySchedOp e) (h : OwnD w (.sl 3 l) bs [.slice a0.a a0.len a0.cap]) (hn : bs.Nodup) (h0 : 1 ≤ k0) (hk : k0 + Dat.cnts l ≤ 1099511627776) : CallW Try.prog 17 #[.slice a0.a a0.len a0.cap, .int .i64 k0] w (fun v w' => v = .int .i64 (k0 + Dat.cnts l) ∧ ∃ l', l'.length = l.length ∧ Dat.cnts l' = Dat.cnts l ∧ (∀ e, e ∈ l' → Has TySchedOp e) ∧ MarkedF TXT l' k0 ∧ OwnD w' (.sl 3 l') bs [.slice a0.a a0.len a0.cap] ∧ Only (fun k => k ∈ bs) w w') := by
  refine go17 ?_
  unfold W17
  obtain ⟨hlen, hmax⟩ := ownD_len h
  have hmx : maxLen = 9223372036854775807 := rfl
  rw [hlen]
  refine LoopW.m2 (fun (x i : Int) w' => ∃ (k : Nat) (l' : List Dat), i = k ∧ k ≤ l.length ∧ l'.length = k ∧ x = k0 + Dat.cnts l' ∧ Dat.cnts l' = Dat.cnts (l.take k) ∧ (∀ e, e ∈ l' → Has TySchedOp e) ∧ MarkedF TXT l' k0 ∧ OwnD w' (.sl 3 (l' ++ l.drop k)) bs [.slice a0.a a0.len a0.cap] ∧ Only (fun k => k ∈ bs) w w') (fun _ (i : Int) _ => (l.length - i).toNat) ⟨0, [], rfl, by omega, rfl, by simp [Dat.cnts], by simp [Dat.cnts], fun e he => (by cases he), markedF_nil, by simpa using h, Only.refl _ _⟩ ?_
  rintro (kx : Int) (i : Int) w4 ⟨k, l', rfl, hkl, hl', hx, hcn, hty, hmk, ho, o4⟩ J hJ
  refine BIf.dec (fun hlt => ?_) (fun hge => ?_)
  · obtain ⟨d, hd⟩ : ∃ d, l[k]? = some d := ⟨_, List.getElem?_eq_getElem (by omega)⟩
    have hcg := cnts_get hd
    have hct := cnts_take hd
    have ht0 := ht d (mem_get hd)
    obtain ⟨x_0, x_1, x_2, rfl⟩ := has_SchedOp ht0
    simp only [Dat.cnt, Dat.cnts] at hcg hct
    obtain ⟨b, bp, b1, bq, vp, v1, vq, ha, hbs, hvp, hod, hm, hvl, hlc, _⟩ := ownD_at ho (get_app hl' hd)
    rw [(take_app hl').1, (take_app hl').2] at hm
    have hv0 := hm.len
    have hbs0 := hbs
    rw [Int.toNat_natCast, ← hvp]
    simp (disch := omega) only [w64]
    have hbs : bs = b :: (bp ++ (([] ++ b1) ++ bq)) := hbs
    have me : ME w4 b 3 l' (l.drop (k + 1)) bp bq vp vq [] _ [] b1 [] v1 := ⟨hm, by unfold OwnF; exact ⟨rfl, rfl⟩, ownD_st hod, by rw [← hbs]; exact hn⟩
    refine ⟨by omega, by omega, _, ha, ?_⟩
    refine me.sc (d' := .int .i64 (kx)) sc_int (fun w => own_int (wf_i64 (by omega) (by omega))) rfl (fun w5 cr5 o5 me => ?_)
    have o4 := Only.trans o4 (o5.mono (fun c _ hc => by subst hc; rw [hbs]; simp))
    refine ⟨by omega, by omega, _, ha, ?_⟩
    refine me.sc (d' := .int .i64 (kx + 1)) sc_int (fun w => own_int (wf_i64 (by omega) (by omega))) rfl (fun w6 cr6 o6 me => ?_)
    have o4 := Only.trans o4 (o6.mono (fun c _ hc => by subst hc; rw [hbs]; simp))
    refine ⟨by omega, by omega, _, ha, ?_⟩
    refine me.sc (d' := .int .i64 (kx + 1 + 1)) sc_int (fun w => own_int (wf_i64 (by omega) (by omega))) rfl (fun w7 cr7 o7 me => ?_)
    have o4 := Only.trans o4 (o7.mono (fun c _ hc => by subst hc; rw [hbs]; simp))
    obtain ⟨hm2, hod2, hbr⟩ := me.fin
    subst hbr
    have hrow := row_close (bs := bs) (a0 := a0) hm2 hod2 hvp hl' (by omega) ha (by rw [hlen]) (by rw [hbs, List.append_nil]) (by have : (l' ++ l.drop k).length = l.length := (by simp; omega); omega) hmax hv0 hvl
    have hmkd : Marked TXT (.st [.int .i64 (kx), .int .i64 (kx + 1), .int .i64 (kx + 1 + 1)]) kx := marked_st (markedF_cons (k := kx) (k' := kx + 1) (marked_int (by rw [w64 (by omega) (by omega)])) (markedF_cons (k := kx + 1) (k' := kx + 1 + 1) (marked_int (by rw [w64 (by omega) (by omega)])) (markedF_cons (k := kx + 1 + 1) (k' := kx + 1 + 1 + 1) (marked_int (by rw [w64 (by omega) (by omega)])) (markedF_nil (k := kx + 1 + 1 + 1)) (by simp only [Dat.cnt]; omega)) (by simp only [Dat.cnt]; omega)) (by simp only [Dat.cnt]; omega))
    have hhas : Has TySchedOp (.st [.int .i64 (kx), .int .i64 (kx + 1), .int .i64 (kx + 1 + 1)]) := mk_st (mkF_cons mk_int (mkF_cons mk_int (mkF_cons mk_int (mkF_nil))))
    refine hJ _ _ _ ⟨k + 1, l' ++ [_], by omega, by omega, by simp; omega, ?_, ?_, has_snoc hty hhas, markedF_snoc hmk hmkd hx, hrow, o4⟩ (by omega)
    · rw [cnts_snoc]; simp only [Dat.cnt, Dat.cnts]; omega
    · rw [cnts_snoc, hct]; simp only [Dat.cnt, Dat.cnts]; omega
  · have hkl2 : k = l.length := by omega
    subst hkl2
    rw [List.take_length] at hcn
    rw [List.drop_length, List.append_nil, hlen] at ho
    exact ⟨by rw [hx, hcn], l', hl', hcn, hty, hmk, ho, o4⟩

/- markSchedResS -/
theorem c18 {l : List Dat} {a0 : Sl} {bs : List Nat} {k0 : Int} {w : World} (ht : ∀ e, e ∈ l → Has TySchedRes e) (h : OwnD w (.sl 2 l) bs [.slice a0.a a0.len a0.cap]) (hn : bs.Nodup) (h0 : 1 ≤ k0) (hk : k0 + Dat.cnts l ≤ 1099511627776) : CallW Try.prog 18 #[.slice a0.a a0.len a0.cap, .int .i64 k0] w (fun v w' => v = .int .i64 (k0 + Dat.cnts l) ∧ ∃ l', l'.length = l.length ∧ Dat.cnts l' = Dat.cnts l ∧ (∀ e, e ∈ l' → Has TySchedRes e) ∧ MarkedF TXT l' k0 ∧ OwnD w' (.sl 2 l') bs [.slice a0.a a0.len a0.cap] ∧ Only (fun k => k ∈ bs) w w') := by
  refine go18 ?_
  unfold W18
  obtain ⟨hlen, hmax⟩ := ownD_len h
  have hmx : maxLen = 9223372036854775807 := rfl
  rw [hlen]
  refine LoopW.m2 (fun (x i : Int) w' => ∃ (k : Nat) (l' : List Dat), i = k ∧ k ≤ l.length ∧ l'.length = k ∧ x = k0 + Dat.cnts l' ∧ Dat.cnts l' = Dat.cnts (l.take k) ∧ (∀ e, e ∈ l' → Has TySchedRes e) ∧ MarkedF TXT l' k0 ∧ OwnD w' (.sl 2 (l' ++ l.drop k)) bs [.slice a0.a a0.len a0.cap] ∧ Only (fun k => k ∈ bs) w w') (fun _ (i : Int) _ => (l.length - i).toNat) ⟨0, [], rfl, by omega, rfl, by simp [Dat.cnts], by simp [Dat.cnts], fun e he => (by cases he), markedF_nil, by simpa using h, Only.refl _ _⟩ ?_
  rintro (kx : Int) (i : Int) w4 ⟨k, l', rfl, hkl, hl', hx, hcn, hty, hmk, ho, o4⟩ J hJ
  refine BIf.dec (fun hlt => ?_) (fun hge => ?_)
  · obtain ⟨d, hd⟩ : ∃ d, l[k]? = some d := ⟨_, List.getElem?_eq_getElem (by omega)⟩
    have hcg := cnts_get hd
    have hct := cnts_take hd
    have ht0 := ht d (mem_get hd)
    obtain ⟨x_0, x_1, rfl⟩ := has_SchedRes ht0
    simp only [Dat.cnt, Dat.cnts] at hcg hct
    obtain ⟨b, bp, b1, bq, vp, v1, vq, ha, hbs, hvp, hod, hm, hvl, hlc, _⟩ := ownD_at ho (get_app hl' hd)
    rw [(take_app hl').1, (take_app hl').2] at hm
    have hv0 := hm.len
    have hbs0 := hbs
    rw [Int.toNat_natCast, ← hvp]
    simp (disch := omega) only [w64]
    have hbs : bs = b :: (bp ++ (([] ++ b1) ++ bq)) := hbs
    have me : ME w4 b 2 l' (l.drop (k + 1)) bp bq vp vq [] _ [] b1 [] v1 := ⟨hm, by unfold OwnF; exact ⟨rfl, rfl⟩, ownD_st hod, by rw [← hbs]; exact hn⟩
    refine ⟨by omega, by omega, _, ha, ?_⟩
    refine me.sc (d' := .int .i64 (kx)) sc_int (fun w => own_int (wf_i64 (by omega) (by omega))) rfl (fun w5 cr5 o5 me => ?_)
    have o4 := Only.trans o4 (o5.mono (fun c _ hc => by subst hc; rw [hbs]; simp))
    refine ⟨by omega, by omega, _, ha, ?_⟩
    refine me.sc (d' := .int .i64 (kx + 1)) sc_int (fun w => own_int (wf_i64 (by omega) (by omega))) rfl (fun w6 cr6 o6 me => ?_)
    have o4 := Only.trans o4 (o6.mono (fun c _ hc => by subst hc; rw [hbs]; simp))
    obtain ⟨hm2, hod2, hbr⟩ := me.fin
    subst hbr
    have hrow := row_close (bs := bs) (a0 := a0) hm2 hod2 hvp hl' (by omega) ha (by rw [hlen]) (by rw [hbs, List.append_nil]) (by have : (l' ++ l.drop k).length = l.length := (by simp; omega); omega) hmax hv0 hvl
    have hmkd : Marked TXT (.st [.int .i64 (kx), .int .i64 (kx + 1)]) kx := marked_st (markedF_cons (k := kx) (k' := kx + 1) (marked_int (by rw [w64 (by omega) (by omega)])) (markedF_cons (k := kx + 1) (k' := kx + 1 + 1) (marked_int (by rw [w64 (by omega) (by omega)])) (markedF_nil (k := kx + 1 + 1)) (by simp only [Dat.cnt]; omega)) (by simp only [Dat.cnt]; omega))
    have hhas : Has TySchedRes (.st [.int .i64 (kx), .int .i64 (kx + 1)]) := mk_st (mkF_cons mk_int (mkF_cons mk_int (mkF_nil)))
    refine hJ _ _ _ ⟨k + 1, l' ++ [_], by omega, by omega, by simp; omega, ?_, ?_, has_snoc hty hhas, markedF_snoc hmk hmkd hx, hrow, o4⟩ (by omega)
    · rw [cnts_snoc]; simp only [Dat.cnt, Dat.cnts]; omega
    · rw [cnts_snoc, hct]; simp only [Dat.cnt, Dat.cnts]; omega
  · have hkl2 : k = l.length := by omega
    subst hkl2
    rw [List.take_length] at hcn
    rw [List.drop_length, List.append_nil, hlen] at ho
    exact ⟨by rw [hx, hcn], l', hl', hcn, hty, hmk, ho, o4⟩

/- heldSchedResS -/
theorem c19 {l : List Dat} {a0 : Sl} {k0 : Int} {w : World} (ht : ∀ e, e ∈ l → Has TySchedRes e) (h : IsD w (.sl 2 l) [.slice a0.a a0.len a0.cap]) (hm : MarkedF TXT l k0) (h0 : 1 ≤ k0) (hk : k0 + Dat.cnts l ≤ 1099511627776) : CallW Try.prog 19 #[.slice a0.a a0.len a0.cap, .int .i64 k0] w (fun v w' => v = .int .i64 (k0 + Dat.cnts l) ∧ Ext w w') := by
  refine go19 ?_
  unfold W19
  obtain ⟨hlen, hmax, _⟩ := isD_sl h
  have hmx : maxLen = 9223372036854775807 := rfl
  rw [hlen]
  refine LoopW.m2 (fun (x i : Int) w' => ∃ k : Nat, i = k ∧ k ≤ l.length ∧ x = k0 + Dat.cnts (l.take k) ∧ Ext w w') (fun _ (i : Int) _ => (l.length - i).toNat) ⟨0, rfl, by omega, by simp [Dat.cnts], Only.refl _ _⟩ ?_
  rintro (kx : Int) (i : Int) w4 ⟨k, rfl, hkl, hx, e4⟩ J hJ
  refine BIf.dec (fun hlt => ?_) (fun hge => ?_)
  · obtain ⟨d, hd⟩ : ∃ d, l[k]? = some d := ⟨_, List.getElem?_eq_getElem (by omega)⟩
    have hcg := cnts_get hd
    have hct := cnts_take hd
    have hmd := markedF_get hm hd
    rw [← hx] at hmd
    have ht0 := ht d (mem_get hd)
    obtain ⟨p, es, hp, he, hc, his⟩ := isD_at (IsD.ext e4 _ _ h) hd
    obtain ⟨x_0, x_1, rfl⟩ := has_SchedRes ht0
    obtain ⟨rfl, ws_0, ws_1⟩ := cells_SchedRes his
    simp only [Dat.cnt, Dat.cnts] at hcg hct
    simp only [Marked, MarkedF, Dat.cnt, Dat.cnts] at hmd
    obtain ⟨m_0, m_1, _⟩ := hmd
    try simp (disch := omega) only [w64]
    refine ⟨by omega, by omega, p, hp, _, hc 0 _ rfl, BIf.f (by rw [m_0, w64 (by omega) (by omega)]; first | (simp; done) | (simp; omega)) ?_⟩
    refine ⟨by omega, by omega, p, hp, _, hc 1 _ rfl, BIf.f (by rw [m_1, w64 (by omega) (by omega)]; first | (simp; done) | (simp; omega)) ?_⟩
    exact hJ _ _ _ ⟨k + 1, by omega, by omega, by rw [hct]; omega, e4⟩ (by omega)
  · rw [List.take_of_length_le (by omega)] at hx
    exact ⟨by rw [hx], e4⟩

/- szThreadS -/
/- szLockS -/
/- szSched -/
/- toThread -/
/- toThreadS -/
/- toLock -/
/- toLockS -/
/- toSched -/
/- eqThread -/
/- eqThreadS -/
/- eqLock -/
/- eqLockS -/
/- eqSched -/
/- markThreadS -/
/- markLockS -/
/- markSched -/
/- heldThreadS -/
/- heldLockS -/
/- heldSched -/
end Go.Proofs.Yteigefjiifihpaa

/- The scheduler: both sides as the laws ask for them. Conditions: none. -/
set_option linter.unusedVariables false
set_option linter.unusedSimpArgs false
namespace Go.Proofs.Yteigefjiifihpaa
open Go Go.Den
/-! ## Bounds -/
theorem lockF_rng {d : DSched} {i : Nat} {t : DThread} {n : Int} : (0 ≤ (lockF d i t n).2.1 ∧ (lockF d i t n).2.1 ≤ 21) ∧ (0 ≤ (lockF d i t n).2.2 ∧ (lockF d i t n).2.2 ≤ 1) := by
  have e : ∀ (c m : Int), 0 ≤ c → c ≤ 21 → 0 ≤ m → m ≤ 1 → (0 ≤ c ∧ c ≤ 21) ∧ (0 ≤ m ∧ m ≤ 1) := fun c m h1 h2 h3 h4 => ⟨⟨h1, h2⟩, h3, h4⟩
  unfold lockF
  split
  · exact e 0 0 (by decide) (by decide) (by decide) (by decide)
  · split
    · exact e 4 0 (by decide) (by decide) (by decide) (by decide)
    · split
      · exact e 17 0 (by decide) (by decide) (by decide) (by decide)
      · exact e 0 1 (by decide) (by decide) (by decide) (by decide)
theorem thrF_rng {d : DSched} {i : Nat} {t : DThread} {kind id n : Int} : (0 ≤ (thrF d i t kind id n).2.1 ∧ (thrF d i t kind id n).2.1 ≤ 21) ∧ (0 ≤ (thrF d i t kind id n).2.2 ∧ (thrF d i t kind id n).2.2 ≤ 1) := by
  have z : ((0 : Int) ≤ 0 ∧ (0 : Int) ≤ 21) ∧ ((0 : Int) ≤ 0 ∧ (0 : Int) ≤ 1) := by decide
  have e : ∀ c : Int, 0 ≤ c → c ≤ 21 → ((0 : Int) ≤ c ∧ c ≤ 21) ∧ ((0 : Int) ≤ 0 ∧ (0 : Int) ≤ 1) := fun c h1 h2 => ⟨⟨h1, h2⟩, by decide⟩
  unfold thrF
  split
  · exact z
  · split
    · split
      · exact e 1 (by decide) (by decide)
      · split
        · exact e 21 (by decide) (by decide)
        · split
          · exact lockF_rng
          · split
            · exact e 2 (by decide) (by decide)
            · split
              · exact e 2 (by decide) (by decide)
              · exact z
    · split
      · split
        · exact e 1 (by decide) (by decide)
        · split
          · exact e 21 (by decide) (by decide)
          · exact z
      · split
        · split
          · exact e 21 (by decide) (by decide)
          · exact z
        · split
          · exact e 1 (by decide) (by decide)
          · exact z
theorem tickF_rng {d : DSched} (h : Inv0 d) : -1 ≤ (tickF d).2 ∧ (tickF d).2 ≤ 32 := by
  have hw : Inv0 (wakeF d 0 d.Threads.length) := Inv.wake _ _ h
  rw [tickF_M]
  show -1 ≤ (tickM _).2 ∧ (tickM _).2 ≤ 32
  generalize wakeF d 0 d.Threads.length = e at *
  unfold tickM
  split
  · show (-1 : Int) ≤ -1 ∧ (-1 : Int) ≤ 32; decide
  · split
    · show (-1 : Int) ≤ -1 ∧ (-1 : Int) ≤ 32; decide
    · rename_i t ht
      have := (hw.tok t (List.mem_of_getElem? ht)).id
      show -1 ≤ t.Id ∧ t.Id ≤ 32
      omega
theorem stepF_rng {d : DSched} (h : Inv0 d) (kind id n : Int) : (0 ≤ (stepF d kind id n).2.1 ∧ (stepF d kind id n).2.1 ≤ 21) ∧ (-1 ≤ (stepF d kind id n).2.2 ∧ (stepF d kind id n).2.2 ≤ 32) := by
  have e : ∀ c : Int, 0 ≤ c → c ≤ 21 → ((0 : Int) ≤ c ∧ c ≤ 21) ∧ ((-1 : Int) ≤ 0 ∧ (0 : Int) ≤ 32) := fun c h1 h2 => ⟨⟨h1, h2⟩, by decide⟩
  unfold stepF
  split
  · split
    · exact e 1 (by decide) (by decide)
    · split
      · exact e 18 (by decide) (by decide)
      · obtain ⟨g1, _, _⟩ := gap_spec h
        have := h.few.1
        refine ⟨by show (0 : Int) ≤ 0 ∧ (0 : Int) ≤ 21; decide, ?_⟩
        show (-1 : Int) ≤ ((gapL d.Threads 0 : Nat) : Int) ∧ ((gapL d.Threads 0 : Nat) : Int) ≤ 32
        omega
  · split
    · exact ⟨by show (0 : Int) ≤ 0 ∧ (0 : Int) ≤ 21; decide, tickF_rng h⟩
    · split
      · exact e 1 (by decide) (by decide)
      · split
        · exact e 3 (by decide) (by decide)
        · split
          · exact e 3 (by decide) (by decide)
          · rename_i t _ _
            have := thrF_rng (d := d) (i := (idT d id).toNat) (t := t) (kind := kind) (id := id) (n := n)
            omega
theorem runL_rng : ∀ (ops : List DSchedOp) (d : DSched) (k : Nat), Inv0 d → d.Now ≤ k → k + ops.length ≤ 1000000 → ∀ r, r ∈ runL d ops → (0 ≤ r.Code ∧ r.Code ≤ 21) ∧ (-1 ≤ r.N ∧ r.N ≤ 32)
  | [], d, k, h, hn, hk, r, hr => by cases hr
  | op :: ops, d, k, h, hn, hk, r, hr => by
    rw [List.length_cons] at hk
    unfold runL at hr
    rcases List.mem_cons.1 hr with rfl | hr
    · exact stepF_rng h _ _ _
    · obtain ⟨h1, h2, _⟩ := h.step (by omega) op.Kind op.Id op.N
      exact runL_rng ops _ (k + 1) h1 (by omega) (by omega) r hr
theorem runF_rng (ops : List DSchedOp) : (∀ r, r ∈ runF ops → (0 ≤ r.Code ∧ r.Code ≤ 21) ∧ (-1 ≤ r.N ∧ r.N ≤ 32)) ∧ (runF ops).length ≤ 4096 := by
  unfold runF
  split
  · exact ⟨(fun r hr => by cases hr), Nat.zero_le _⟩
  · rename_i hl
    exact ⟨runL_rng ops zeroS 0 zero_inv (by decide) (by omega), by rw [runL_len]; omega⟩
/-! ## SchedRun -/
abbrev opsD (ops : List DSchedOp) : Dat := .sl 3 (ops.map DSchedOp.dat)
theorem opsD_sz (ops : List DSchedOp) : ops.length ≤ (opsD ops).sz := by
  have hsz : (opsD ops).sz = (ops.map DSchedOp.dat).length + Dat.szs (ops.map DSchedOp.dat) := rfl
  rw [List.length_map] at hsz; omega
theorem ops_of {ops : List DSchedOp} {w : World} {s : Sl} (h : IsD w (opsD ops) [.slice s.a s.len s.cap]) (hs : (opsD ops).sz ≤ 1048576) : RecsAt w s 3 DSchedOp.cells ops := by
  have := opsD_sz ops
  exact ⟨(isD_len h).1, isD_row h (fun _ => rfl) (fun es y hy => DSchedOp.is_cells hy), by omega, fun _ => rfl⟩
theorem res_ceE (l : List DSchedRes) : Dat.ceE (l.map DSchedRes.dat) = recs DSchedRes.cells l := by
  rw [ceE_map]; unfold recs
  refine List.map_congr_left (fun x _ => ?_)
  simp [DSchedRes.dat, DSchedRes.cells, Dat.ce, Dat.ces]
theorem run_post {ops : List DSchedOp} {w w' : World} {v : Value} (h : ∃ s : Sl, v = .slice s.a s.len s.cap ∧ SH w w' [RO s (runF ops)]) : ∃ y : Sl, v = .slice y.a y.len y.cap ∧ Fr w.heap.size w'.heap.size w' (.sl 2 ((runF ops).map DSchedRes.dat)) [.slice y.a y.len y.cap] ∧ Ext w w' := by
  obtain ⟨t, rfl, h⟩ := h
  refine ⟨t, rfl, SH.frRow (F := []) (by rw [res_ceE]; exact h) ?_, h.ext⟩
  have hm : maxLen = 9223372036854775807 := rfl
  have hr := runF_rng ops
  simp only [Dat.fit, List.length_map, fits_iff, List.mem_map]
  refine ⟨by omega, ?_⟩
  rintro d ⟨c, hc, rfl⟩
  have := hr.1 c hc
  simp only [DSchedRes.dat, Dat.fit, Dat.fits]
  exact ⟨wf_i64 (by omega) (by omega), wf_i64 (by omega) (by omega), trivial⟩
theorem specSchedRun {ops : List DSchedOp} {w : World} {s : Sl} (h : IsD w (opsD ops) [.slice s.a s.len s.cap]) (hs : (opsD ops).sz ≤ 1048576) : CallW Try.prog 12 #[.slice s.a s.len s.cap] w (fun v w' => ∃ y : Sl, v = .slice y.a y.len y.cap ∧ Fr w.heap.size w'.heap.size w' (.sl 2 ((runF ops).map DSchedRes.dat)) [.slice y.a y.len y.cap] ∧ Ext w w') :=
  (s12 (ops_of h hs)).mono (fun _ _ hv => run_post hv)
theorem implSchedRun {ops : List DSchedOp} {w : World} {s : Sl} (h : IsD w (opsD ops) [.slice s.a s.len s.cap]) (hs : (opsD ops).sz ≤ 1048576) : CallW Try.prog 14 #[.slice s.a s.len s.cap] w (fun v w' => ∃ y : Sl, v = .slice y.a y.len y.cap ∧ Fr w.heap.size w'.heap.size w' (.sl 2 ((runF ops).map DSchedRes.dat)) [.slice y.a y.len y.cap] ∧ Ext w w') :=
  (s14 (ops_of h hs)).mono (fun _ _ hv => run_post hv)
theorem ops_has (ops : List DSchedOp) : ∀ e, e ∈ ops.map DSchedOp.dat → Has TySchedOp e := fun e he => by obtain ⟨y, _, rfl⟩ := List.mem_map.1 he; exact DSchedOp.has _
theorem run_has (ops : List DSchedOp) : ∀ e, e ∈ (runF ops).map DSchedRes.dat → Has TySchedRes e := fun e he => by obtain ⟨y, _, rfl⟩ := List.mem_map.1 he; exact DSchedRes.has _
theorem res_cnts : ∀ l : List DSchedRes, Dat.cnts (l.map DSchedRes.dat) = 2 * l.length
  | [] => rfl
  | a :: r => by simp only [List.map_cons, DSchedRes.dat, Dat.cnts, Dat.cnt, List.length_cons]; have := res_cnts r; omega
theorem op_cnts : ∀ l : List DSchedOp, Dat.cnts (l.map DSchedOp.dat) = 3 * l.length
  | [] => rfl
  | a :: r => by simp only [List.map_cons, DSchedOp.dat, Dat.cnts, Dat.cnt, List.length_cons]; have := op_cnts r; omega
theorem run_cnt {ops : List DSchedOp} : Dat.cnts ((runF ops).map DSchedRes.dat) ≤ 8192 := by rw [res_cnts]; have := (runF_rng ops).2; omega
theorem ops_cnt {ops : List DSchedOp} (hs : (opsD ops).sz ≤ 1048576) : Dat.cnts (ops.map DSchedOp.dat) ≤ 4194304 := by
  have := opsD_sz ops
  rw [op_cnts]; omega
/-! ## SchedStep -/
end Go.Proofs.Yteigefjiifihpaa

/- The walk of a law: copies, both sides, comparisons; printed by a program. Conditions: none. -/
set_option linter.unusedVariables false
set_option linter.unusedSimpArgs false
set_option maxRecDepth 4000
namespace Go.Proofs.Yteigefjiifihpaa
open Go Go.Den
theorem goc3 {a0 : Sl} {w : World} {K : Value → World → Prop} (h : W3 a0 w K) : Calls Try.prog 3 #[.slice a0.a a0.len a0.cap] w (fun e w' => ∃ v, e = .returned v ∧ K v w') :=
  denFn_sound tt_ok mix Try.func3 (by kernel_rfl) (eq3 a0 w K ▸ h)
theorem walk3 {w : World} {ops : List DSchedOp} {p0 : Sl} (h0 : IsD w (Dat.sl 3 (ops.map DSchedOp.dat)) [.slice p0.a p0.len p0.cap]) : Calls Try.prog 3 #[.slice p0.a p0.len p0.cap] w (fun e w' => ∃ v, e = .returned v ∧ (v = .bool true ∧ Ext w w')) := by
  refine goc3 ?_
  unfold W3
  refine (c11 (ops_has ops) h0 (by omega) (by omega)).mono ?_
  rintro _ w2 ⟨⟨rw2, rfl, hrw2⟩, ew2⟩
  have e := ew2
  have zw2 := ew2.size
  refine ⟨_, rfl, ?_⟩
  refine BIf.dec (fun hn => ⟨rfl, e⟩) (fun hpw2 => ?_)
  have sz0 : (Dat.sl 3 (ops.map DSchedOp.dat)).sz ≤ 1048576 := by omega
  refine (c13 (ops_has ops) (IsD.ext e _ _ h0) (by have := sz0; omega)).mono ?_
  rintro _ w5 ⟨yw5, rfl, fw5, ew5⟩
  have e := Only.trans e ew5
  have zw5 := ew5.size
  refine ⟨yw5, rfl, ?_⟩
  refine (specSchedRun fw5.is sz0).mono ?_
  rintro _ w8 ⟨yw8_0, rfl, fw8_0, ew8⟩
  have fw5 := fw5.ext ew8
  have e := Only.trans e ew8
  have zw8 := ew8.size
  refine ⟨yw8_0, rfl, ?_⟩
  refine (c13 (ops_has ops) (IsD.ext e _ _ h0) (by have := sz0; omega)).mono ?_
  rintro _ w11 ⟨yw11, rfl, fw11, ew11⟩
  have fw5 := fw5.ext ew11
  have fw8_0 := fw8_0.ext ew11
  have e := Only.trans e ew11
  have zw11 := ew11.size
  refine ⟨yw11, rfl, ?_⟩
  refine (implSchedRun fw11.is sz0).mono ?_
  rintro _ w14 ⟨yw14_0, rfl, fw14_0, ew14⟩
  have fw5 := fw5.ext ew14
  have fw8_0 := fw8_0.ext ew14
  have fw11 := fw11.ext ew14
  have e := Only.trans e ew14
  have zw14 := ew14.size
  refine ⟨yw14_0, rfl, ?_⟩
  refine (c15 (run_has ops) fw14_0.is fw8_0.is).mono ?_
  rintro _ w17 ⟨rfl, ew17⟩
  have fw5 := fw5.ext ew17
  have fw8_0 := fw8_0.ext ew17
  have fw11 := fw11.ext ew17
  have fw14_0 := fw14_0.ext ew17
  have e := Only.trans e ew17
  have zw17 := ew17.size
  refine ⟨_, rfl, ?_⟩
  refine BIf.f rfl ?_
  refine (c13 (ops_has ops) (IsD.ext e _ _ h0) (by have := sz0; omega)).mono ?_
  rintro _ w20 ⟨yw20, rfl, fw20, ew20⟩
  have fw5 := fw5.ext ew20
  have fw8_0 := fw8_0.ext ew20
  have fw11 := fw11.ext ew20
  have fw14_0 := fw14_0.ext ew20
  have e := Only.trans e ew20
  have zw20 := ew20.size
  refine ⟨yw20, rfl, ?_⟩
  refine (c16 (ops_has ops) fw11.is fw20.is).mono ?_
  rintro _ w23 ⟨rfl, ew23⟩
  have fw5 := fw5.ext ew23
  have fw8_0 := fw8_0.ext ew23
  have fw11 := fw11.ext ew23
  have fw14_0 := fw14_0.ext ew23
  have fw20 := fw20.ext ew23
  have e := Only.trans e ew23
  have zw23 := ew23.size
  refine ⟨_, rfl, ?_⟩
  refine BIf.f rfl ?_
  obtain ⟨bsw26, oww26, ndw26, rgw26⟩ := fw11
  refine (c17 (ops_has ops) oww26 ndw26 (by omega) (by have := sz0; have := ops_cnt sz0; (try simp only [Dat.cntT, Dat.cntTs] at *); omega)).mono ?_
  rintro _ w26 ⟨rfl, dw26, _, cnw26, hsw26, mkw26, oww26, ow26⟩
  have fw5 := fw5.only ow26 (fun k h1 h2 hk => by have := rgw26 k hk; omega)
  have fw8_0 := fw8_0.only ow26 (fun k h1 h2 hk => by have := rgw26 k hk; omega)
  have fw14_0 := fw14_0.only ow26 (fun k h1 h2 hk => by have := rgw26 k hk; omega)
  have fw20 := fw20.only ow26 (fun k h1 h2 hk => by have := rgw26 k hk; omega)
  have e := Ext.own e ow26 (fun k hk => by have := rgw26 k hk; omega)
  have zw26 := ow26.size
  have fw26 : Fr _ _ w26 (.sl 3 dw26) _ := ⟨bsw26, oww26, ndw26, rgw26⟩
  refine ⟨_, rfl, ?_⟩
  refine JoinW.each ?_
  refine BIf.f (decide_eq_false (by omega)) ?_
  refine (c15 (run_has ops) fw14_0.is fw8_0.is).mono ?_
  rintro _ w50 ⟨rfl, ew50⟩
  have fw5 := fw5.ext ew50
  have fw8_0 := fw8_0.ext ew50
  have fw14_0 := fw14_0.ext ew50
  have fw20 := fw20.ext ew50
  have fw26 := fw26.ext ew50
  have e := Only.trans e ew50
  have zw50 := ew50.size
  refine ⟨_, rfl, ?_⟩
  refine BIf.f (by first | (simp; done) | (simp; omega)) ?_
  obtain ⟨bsw32, oww32, ndw32, rgw32⟩ := fw14_0
  refine (c18 (run_has ops) oww32 ndw32 (by omega) (by have := run_cnt (ops := ops); omega)).mono ?_
  rintro _ w32 ⟨rfl, dw32, _, cnw32, hsw32, mkw32, oww32, ow32⟩
  have fw5 := fw5.only ow32 (fun k h1 h2 hk => by have := rgw32 k hk; omega)
  have fw8_0 := fw8_0.only ow32 (fun k h1 h2 hk => by have := rgw32 k hk; omega)
  have fw20 := fw20.only ow32 (fun k h1 h2 hk => by have := rgw32 k hk; omega)
  have fw26 := fw26.only ow32 (fun k h1 h2 hk => by have := rgw32 k hk; omega)
  have e := Ext.own e ow32 (fun k hk => by have := rgw32 k hk; omega)
  have zw32 := ow32.size
  have fw32 : Fr _ _ w32 (.sl 2 dw32) _ := ⟨bsw32, oww32, ndw32, rgw32⟩
  refine ⟨_, rfl, ?_⟩
  refine (c19 hsw32 fw32.is mkw32 (by omega) (by have := cnw32; have := run_cnt (ops := ops); omega)).mono ?_
  rintro _ w35 ⟨rfl, ew35⟩
  have fw5 := fw5.ext ew35
  have fw8_0 := fw8_0.ext ew35
  have fw20 := fw20.ext ew35
  have fw26 := fw26.ext ew35
  have fw32 := fw32.ext ew35
  have e := Only.trans e ew35
  have zw35 := ew35.size
  refine ⟨_, rfl, ?_⟩
  refine BIf.f (decide_eq_false (by omega)) ?_
  refine BIf.f (by first | (simp; done) | (simp; omega)) ?_
  refine (c13 (ops_has ops) (IsD.ext e _ _ h0) (by have := sz0; omega)).mono ?_
  rintro _ w38 ⟨yw38, rfl, fw38, ew38⟩
  have fw5 := fw5.ext ew38
  have fw8_0 := fw8_0.ext ew38
  have fw20 := fw20.ext ew38
  have fw26 := fw26.ext ew38
  have fw32 := fw32.ext ew38
  have e := Only.trans e ew38
  have zw38 := ew38.size
  refine ⟨yw38, rfl, ?_⟩
  refine (implSchedRun fw38.is sz0).mono ?_
  rintro _ w41 ⟨yw41_0, rfl, fw41_0, ew41⟩
  have fw5 := fw5.ext ew41
  have fw8_0 := fw8_0.ext ew41
  have fw20 := fw20.ext ew41
  have fw26 := fw26.ext ew41
  have fw32 := fw32.ext ew41
  have fw38 := fw38.ext ew41
  have e := Only.trans e ew41
  have zw41 := ew41.size
  refine ⟨yw41_0, rfl, ?_⟩
  refine (c15 (run_has ops) fw41_0.is fw8_0.is).mono ?_
  rintro _ w44 ⟨rfl, ew44⟩
  have fw5 := fw5.ext ew44
  have fw8_0 := fw8_0.ext ew44
  have fw20 := fw20.ext ew44
  have fw26 := fw26.ext ew44
  have fw32 := fw32.ext ew44
  have fw38 := fw38.ext ew44
  have fw41_0 := fw41_0.ext ew44
  have e := Only.trans e ew44
  have zw44 := ew44.size
  refine ⟨_, rfl, ?_⟩
  refine BIf.f rfl ?_
  refine (c19 hsw32 fw32.is mkw32 (by omega) (by have := cnw32; have := run_cnt (ops := ops); omega)).mono ?_
  rintro _ w47 ⟨rfl, ew47⟩
  have fw5 := fw5.ext ew47
  have fw8_0 := fw8_0.ext ew47
  have fw20 := fw20.ext ew47
  have fw26 := fw26.ext ew47
  have fw32 := fw32.ext ew47
  have fw38 := fw38.ext ew47
  have fw41_0 := fw41_0.ext ew47
  have e := Only.trans e ew47
  have zw47 := ew47.size
  refine ⟨_, rfl, ?_⟩
  refine BIf.f (decide_eq_false (by omega)) ?_
  refine BIf.f (by first | (simp; done) | (simp; omega)) ?_
  exact ⟨by trivial, e⟩
open Go.RowKit in
theorem law_calls3 {w : World} {a0 : Option Addr} {len0 cap0 : Nat} {ops : List DSchedOp} (h0 : (cSlice cDSchedOp).is w [.slice a0 len0 cap0] ops) : Calls Try.prog 3 #[.slice a0 len0 cap0] w (fun e w' => e = .returned (.bool true) ∧ Below w.heap.size w w') :=
  (walk3 (p0 := ⟨a0, len0, cap0⟩) (isD_mkSl (f := DSchedOp.dat) h0 (fun es x hx => cDSchedOp_dat hx))).mono (by rintro e w' ⟨v, rfl, rfl, he⟩; exact ⟨rfl, he.below⟩)
end Go.Proofs.Yteigefjiifihpaa

/- The row of the law FnExactSchedRun: what its walk shows is what the statement says. Conditions: none. -/
namespace Go.Proofs.Yteigefjiifihpaa.fnExactSchedRun
open Go.ChangeShapes Go.WideShapes Go.ChangeAt Go.RowKit
open Go.ChangeMaps (open_string shut_string)
set_option linter.unusedVariables false
theorem own : ownKnob Try.prog.godebug = none := by kernel_rfl
theorem laidOut : laidOutB Try.prog = true := by kernel_rfl
set_option maxRecDepth 100000 in
theorem lifted (os : Os) (started : os.Started) (H : Type) (enc : TypeId × Value → H) :
    ReturnsInHanded {} Try.checked os 3 .any (Rows.fnExactSchedRunSpec.pre6 enc Try.prog Try.f3 Rows.fnExactSchedRunRow.domain false) (Rows.fnExactSchedRunSpec.post enc Try.prog Try.f3 false true false false) := by
  refine returnsInHanded_of_change_sized (C := Try.checked) own started (by kernel_rfl) Try.func3
    (ChangeSpec.witness6 (enc := enc) (C := Try.checked) false ⟨#[], #[.slice none 0 0], []⟩ 8 (by kernel_rfl) (by kernel_rfl) (by kernel_rfl) (by kernel_rfl)) ?_
  intro W base args ds gs before hval0 hW hcnd hsz0 _
  have hsz : (DataW.weightsEach Try.prog (Try.f3.params.toList ++ Rows.fnExactSchedRunSpec.plain.varTypes Try.prog) (ds ++ gs)).all (· ≤ reachBytes) = true := hsz0
  have hval : ∀ (j : Nat) t v, Try.f3.params[j]? = some t → args[j]? = some v → Value.okWide Try.prog W .any base t v := hval0
  have hW' := hW
  obtain ⟨p, q, hA0, hV, rfl, hfz, hnd⟩ := hW
  have hA : DataW.TrodAll enc Try.prog W 0 (fun _ => true) true Try.f3.params.toList args.toList ds p := hA0
  rw [Try.params3] at hA hval hsz
  obtain ⟨v0, vs0, d0, ds0, p0, q0, hargs, rfl, rfl, h0, r0⟩ := trodAll_cons hA
  obtain ⟨rfl, rfl, rfl⟩ := trodAll_nil r0
  obtain rfl : args = #[v0] := by cases args; simp_all
  obtain ⟨rfl, rfl⟩ := trodVars_none hV
  have k0 := h0
  have lt0 : ∀ x ∈ p0, x.block < W.heap.size := by obtain ⟨m, hm⟩ := k0; exact DataW.trod_lt m _ _ _ hm
  obtain ⟨a0, len0, cap0, rfl⟩ := okWide_slice Try.underlying22 (hval 0 22 v0 rfl rfl)
  obtain ⟨x0, w0⟩ : ∃ x, (Go.Den.cSlice cDSchedOp).is W [.slice a0 len0 cap0] x := by obtain ⟨fuel, hf⟩ := h0; exact ((o22).at_ enc W fuel _ _ hf).2
  clear hA0 hval0 hsz0 hsz
  refine (law_calls3 w0).mono fun e W' ⟨he, bel⟩ => ?_
  subst he
  exact ⟨_, rfl, _, _, _, [], _, [], hW', trodAll_mk1 (shut_bool Try.underlying4 _), (trodAll_cons_mk (Below.trod laidOut (by kernel_rfl) (of_decide_eq_true (by kernel_rfl)) k0 bel lt0) trodAll_mk0), rfl, bel.frame _, fun h => by cases h⟩
theorem over : Rows.fnExactSchedRunRow.holds Try.pinned (OpenSpec.ofChange Rows.fnExactSchedRunSpec) :=
  OpenClaim.holds_of_wide 3 Try.f3 rfl rfl rfl rfl rfl rfl rfl ⟨rfl, rfl, rfl, rfl, rfl⟩ rfl rfl rfl rfl rfl (by kernel_rfl) Try.func3 (by kernel_rfl)
    (of_decide_eq_true (by kernel_rfl)) (by unfold Func.isWrapper; first | (rw [if_pos (by decide +kernel)]; kernel_rfl) | (rw [if_neg (by decide +kernel)]; exact ⟨rfl, rfl⟩))
    (fun os started H enc _ => lifted os started H enc)
theorem proved : Rows.FnExactSchedRunSaid := over
#print axioms proved
end Go.Proofs.Yteigefjiifihpaa.fnExactSchedRun
namespace Go.Proofs.Yteigefjiifihpaa
/-- The row, under a short name, for the claim. -/
theorem fnExactSchedRun_holds : Rows.FnExactSchedRunSaid := fnExactSchedRun.proved
end Go.Proofs.Yteigefjiifihpaa
