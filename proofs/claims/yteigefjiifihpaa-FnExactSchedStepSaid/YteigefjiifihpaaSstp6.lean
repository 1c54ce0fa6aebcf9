/- Part 6 of 8: plain readings of code, rules for them, and a proof over them, joined by a program. Conditions: none. -/
import Derived.Test.YteigefjiifihpaaSstp5
/- The scheduler, the reference's side: tick. Conditions: none. -/
set_option linter.unusedVariables false
set_option linter.unusedSimpArgs false
namespace Go.Proofs.Yteigefjiifihpaa
open Go Go.Den
/-- Who is picked, behind the sleepers' waking, without the clock. -/
def tickM (d1 : DSched) : DSched × Int :=
  if bestF d1 isReady < 0 then (d1, -1) else match d1.Threads[(bestF d1 isReady).toNat]? with
    | none => (d1, -1)
    | some t => (if t.Left - 1 = 0 then standF d1 (bestF d1 isReady).toNat (d1.Now + 1) else ⟨d1.Now, d1.Seq, d1.Threads.set (bestF d1 isReady).toNat ⟨t.Id, t.Base, t.State, t.Line, t.Left - 1, d1.Now + 1, t.Until, t.Wait⟩, d1.Locks⟩, t.Id)
def laterF (d : DSched) : DSched := ⟨d.Now + 1, d.Seq, d.Threads, d.Locks⟩
theorem tickF_M (d : DSched) : tickF d = (laterF (tickM (wakeF d 0 d.Threads.length)).1, (tickM (wakeF d 0 d.Threads.length)).2) := by
  unfold tickF tickM
  dsimp only
  generalize wakeF d 0 d.Threads.length = d1
  by_cases hb : bestF d1 isReady < 0
  · rw [if_pos hb, if_pos hb]; rfl
  · rw [if_neg hb, if_neg hb]
    rcases ht : d1.Threads[(bestF d1 isReady).toNat]? with _ | t
    · rfl
    · by_cases h0 : t.Left - 1 = 0
      · simp only [if_pos h0, standF, ht]
        rfl
      · simp only [if_neg h0]
        rfl
theorem wakeF_step (d : DSched) (i n : Nat) : wakeF d i (n + 1) = wakeF (match d.Threads[i]? with | some t => if t.State = 3 ∧ t.Until ≤ d.Now then standF d i d.Now else d | none => d) (i + 1) n := rfl
theorem pickS_best {d : DSched} (hm : Mid d) : (bestF d isReady = -1 ∧ pickS d = -1) ∨ ∃ (j : Nat) (x : DThread), d.Threads[j]? = some x ∧ bestF d isReady = (j : Int) ∧ pickS d = x.Id := by
  rcases bestF_cases hm isReady with ⟨h1, _⟩ | ⟨j, x, h1, h2, h3⟩
  · refine .inl ⟨h1, ?_⟩
    unfold pickS
    rw [bestI_pick, show bestI d = -1 from h1, if_pos (by omega)]
  · refine .inr ⟨j, x, h1, h3, ?_⟩
    unfold pickS
    rw [bestI_pick, show bestI d = (j : Int) from h3, if_neg (by omega), Int.toNat_natCast, h1]
theorem s108 {w0 w : World} {F : List Asr} {t l : Sl} {d : DSched} (h : SH w0 w (RT t d.Threads :: RL l d.Locks :: F)) (hi : Inv0 d) (hn : d.Now ≤ 1099511627776) (hq : d.Seq ≤ 2199023255552) :
    CallW Try.prog 108 #[sAgg d.Now d.Seq t l] w (KR w0 F ((tickF d).1, 0, (tickF d).2)) := by
  refine go108 ?_
  unfold W108
  have hf := hi.few
  have htl := h.len 0 rfl
  rw [recs_len] at htl
  have hnow := hi.now
  refine h.alloc (fun w1 h ew1 nw1 => ?_)
  refine h.alloc (fun w2 h ew2 nw2 => ?_)
  refine h.alloc (fun w3 h ew3 nw3 => ?_)
  have h : SH w0 w3 (RT t d.Threads :: RL l d.Locks :: aB w2.heap.size (ZR.map Ce.v) :: aB w1.heap.size (ZS.map Ce.v) :: aB w.heap.size ((sCells d.Now d.Seq t l).map Ce.v) :: F) := (h.front (n := 4) rfl).front (n := 4) rfl
  generalize w2.heap.size = rb at *
  generalize w1.heap.size = sb at *
  refine LoopW.m1 (fun (i : Int) w' => ∃ (n : Nat) (e : DSched) (t l : Sl), i = n ∧ n ≤ d.Threads.length ∧ wakeF e n (d.Threads.length - n) = wakeF d 0 d.Threads.length ∧ Inv0 e ∧ e.Now = d.Now ∧ e.Seq ≤ d.Seq + n ∧ e.Threads.length = d.Threads.length ∧ e.Locks.length = d.Locks.length ∧ SH w0 w' (RT t e.Threads :: RL l e.Locks :: aB rb (ZR.map Ce.v) :: aB sb (ZS.map Ce.v) :: aB w.heap.size ((sCells e.Now e.Seq t l).map Ce.v) :: F)) (fun (i : Int) _ => (d.Threads.length - i).toNat) ⟨0, d, t, l, rfl, Nat.zero_le _, rfl, hi, rfl, by omega, rfl, rfl, h⟩ ?_
  clear h
  rintro (i : Int) w6 ⟨n, e, t, l, rfl, hnl, hw, hie, hen, hes, hel, helk, h⟩ J hJ
  have htl := h.len 0 rfl
  rw [recs_len] at htl
  refine ⟨t, h.cell 4 rfl rfl, BIf.dec (fun hlt => ?_) (fun hge => ?_)⟩
  · have hk : n < e.Threads.length := by omega
    have hget : e.Threads[n]? = some e.Threads[n] := List.getElem?_eq_getElem hk
    rw [show d.Threads.length - n = (d.Threads.length - (n + 1)) + 1 by omega, wakeF_step, hget] at hw
    obtain ⟨q, hqa⟩ := h.rowQ 0 rfl hget
    generalize e.Threads[n] = x at *
    have h := h.drew
    simp only [Int.toNat_natCast]
    rw [w64 (n := (n : Int) + 1) (by omega) (by omega)]
    refine JoinW.cut1 (fun (c : Bool) w' => c = decide (x.State = 3 ∧ x.Until ≤ e.Now) ∧ SH w0 w' (RT t e.Threads :: RL l e.Locks :: aB rb (ZR.map Ce.v) :: aB sb (ZS.map Ce.v) :: aB w.heap.size ((sCells e.Now e.Seq t l).map Ce.v) :: F)) ?_ ?_
    · refine ⟨t, h.cell 4 rfl rfl, by omega, by omega, q, hqa, _, h.rdR 0 rfl hqa hget rfl, BIf.eq (fun h3 => ?_) (fun h3 => ⟨(decide_eq_false (by rintro ⟨hh, _⟩; exact h3 hh)).symm, h⟩)⟩
      refine ⟨t, h.cell 4 rfl rfl, by omega, by omega, q, hqa, _, h.rdR 0 rfl hqa hget rfl, _, h.cell 4 rfl rfl, ?_, h⟩
      rw [decide_eq_decide]
      exact ⟨fun hh => ⟨h3, hh⟩, fun hh => hh.2⟩
    rintro (c : Bool) w10 ⟨rfl, h⟩
    simp only at hw
    refine BIf.dec (fun hc => ?_) (fun hc => ?_)
    · rw [if_pos hc] at hw
      refine ⟨_, h.cell 4 rfl rfl, _, h.cell 4 rfl rfl, t, h.cell 4 rfl rfl, l, h.cell 4 rfl rfl, _, h.cell 4 rfl rfl, ?_⟩
      refine (s111 h hget ⟨hie.now.2, by omega⟩ (by omega)).mono ?_
      rintro _ w17 ⟨t', l', rfl, h⟩
      refine ⟨_, _, t', l', rfl, ?_⟩
      refine h.put 4 rfl rfl rfl (fun w22 h nw22 => ?_)
      obtain ⟨s1, s2, s3, s4, s5⟩ := standF_now e n e.Now
      exact hJ _ _ ⟨n + 1, _, t', l', by omega, by omega, hw, hie.stand hget, by omega, by omega, by omega, by rw [s4]; omega, h⟩ (by omega)
    · rw [if_neg hc] at hw
      exact hJ _ _ ⟨n + 1, _, t, l, by omega, by omega, hw, hie, hen, by omega, hel, helk, h⟩ (by omega)
  · have hwd : wakeF d 0 d.Threads.length = e := by rw [← hw, show d.Threads.length - n = 0 by omega]; rfl
    have htk := tickF_M d
    rw [hwd] at htk
    have hm := hie.mid (by omega)
    refine ⟨_, h.cell 4 rfl rfl, _, h.cell 4 rfl rfl, t, h.cell 4 rfl rfl, l, h.cell 4 rfl rfl, ?_⟩
    refine (c147 (satOf h 0 1 rfl rfl ⟨by omega, by omega⟩) hm.find hm.num).mono ?_
    rintro _ w35 ⟨rfl, e35⟩
    have h := h.to e35
    refine ⟨_, rfl, ?_⟩
    rw [htk]
    refine JoinW.cut0 (fun w' => ∃ t' l' : Sl, (tickM e).2 = pickS e ∧ (tickM e).1.Now = d.Now ∧ SH w0 w' (RT t' (tickM e).1.Threads :: RL l' (tickM e).1.Locks :: aB rb (ZR.map Ce.v) :: aB sb (ZS.map Ce.v) :: aB w.heap.size ((sCells (tickM e).1.Now (tickM e).1.Seq t' l').map Ce.v) :: F)) ?_ ?_
    · rcases pickS_best hm with ⟨p1, p2⟩ | ⟨j, x, p1, p2, p3⟩
      · have htm : tickM e = (e, -1) := by unfold tickM; rw [p1, if_pos (by omega)]
        rw [p2, htm]
        refine BIf.f rfl ⟨t, l, rfl, hen, h⟩
      · have hxm := List.mem_of_getElem? p1
        have hx0 := hm.id0 x hxm
        have hxl := (hie.tok x hxm).left
        have hjl := (List.getElem?_eq_some_iff.1 p1).1
        have hid : idT e x.Id = (j : Int) := hie.ts.idx p1
        rw [p3]
        refine BIf.t (decide_eq_true (by omega)) ?_
        refine ⟨_, h.cell 4 rfl rfl, _, h.cell 4 rfl rfl, t, h.cell 4 rfl rfl, l, h.cell 4 rfl rfl, (c80 (satOf h 0 1 rfl rfl ⟨by omega, by omega⟩)).mono ?_⟩
        rintro _ w58 ⟨rfl, e58⟩
        have h := (h.to e58).drew
        refine ⟨_, rfl, ?_⟩
        rw [hid]
        simp only [Int.toNat_natCast]
        obtain ⟨q, hqa⟩ := h.rowQ 0 rfl p1
        refine ⟨t, h.cell 4 rfl rfl, t, h.cell 4 rfl rfl, by omega, by omega, q, hqa, _, h.rdR 0 rfl hqa p1 rfl, by omega, by omega, q, hqa, ?_⟩
        rw [w64 (n := x.Left - 1) (by omega) (by omega)]
        have h' := h
        rw [set_at p1] at h
        refine h.setR 0 (⟨x.Id, x.Base, x.State, x.Line, x.Left - 1, x.Since, x.Until, x.Wait⟩ : DThread) rfl hqa hjl (by show 4 < 8; omega) rfl (fun w65 h nw65 => ?_)
        refine ⟨t, h.cell 4 rfl rfl, _, h.cell 4 rfl rfl, by omega, by omega, q, hqa, ?_⟩
        rw [w64 (n := e.Now + 1) (by omega) (by omega)]
        refine h.setR 0 (⟨x.Id, x.Base, x.State, x.Line, x.Left - 1, e.Now + 1, x.Until, x.Wait⟩ : DThread) rfl hqa hjl (by show 5 < 8; omega) rfl (fun w69 h nw69 => ?_)
        have hy : (e.Threads.set j ⟨x.Id, x.Base, x.State, x.Line, x.Left - 1, e.Now + 1, x.Until, x.Wait⟩)[j]? = some ⟨x.Id, x.Base, x.State, x.Line, x.Left - 1, e.Now + 1, x.Until, x.Wait⟩ := List.getElem?_set_self hjl
        have htm : tickM e = (if x.Left - 1 = 0 then standF e j (e.Now + 1) else ⟨e.Now, e.Seq, e.Threads.set j ⟨x.Id, x.Base, x.State, x.Line, x.Left - 1, e.Now + 1, x.Until, x.Wait⟩, e.Locks⟩, x.Id) := by
          unfold tickM
          rw [p2, if_neg (by omega), Int.toNat_natCast]
          simp only [p1]
        refine ⟨t, h.cell 4 rfl rfl, by omega, by omega, q, hqa, _, h.rdR 0 rfl hqa hy rfl, BIf.eq (fun h0 => ?_) (fun h0 => ?_)⟩
        · rw [if_pos h0] at htm
          refine ⟨_, h.cell 4 rfl rfl, _, h.cell 4 rfl rfl, t, h.cell 4 rfl rfl, l, h.cell 4 rfl rfl, _, h.cell 4 rfl rfl, ?_⟩
          rw [w64 (n := e.Now + 1) (by omega) (by omega)]
          refine (s111 (d := ⟨e.Now, e.Seq, e.Threads.set j ⟨x.Id, x.Base, x.State, x.Line, x.Left - 1, e.Now + 1, x.Until, x.Wait⟩, e.Locks⟩) h hy ⟨hie.now.2, by show e.Seq ≤ _; omega⟩ (by simp; omega)).mono ?_
          rintro _ w79 ⟨t', l', rfl, h⟩
          refine ⟨_, _, t', l', rfl, ?_⟩
          refine h.put 4 rfl rfl rfl (fun w84 h nw84 => ?_)
          have hst : standF ⟨e.Now, e.Seq, e.Threads.set j ⟨x.Id, x.Base, x.State, x.Line, x.Left - 1, e.Now + 1, x.Until, x.Wait⟩, e.Locks⟩ j (e.Now + 1) = standF e j (e.Now + 1) := by
            rw [standF_at hy, standF_at p1]
            simp [standT]
          rw [hst] at h
          rw [htm]
          exact ⟨t', l', rfl, by rw [(standF_now _ _ _).1]; exact hen, h⟩
        · rw [if_neg h0] at htm
          rw [htm]
          exact ⟨t, l, rfl, hen, h⟩
    · rintro w38 ⟨t', l', hp, hnw, h⟩
      rw [← hp]
      refine ⟨_, h.cell 4 rfl rfl, ?_⟩
      rw [w64 (n := (tickM e).1.Now + 1) (by omega) (by omega)]
      refine h.setV 4 rfl rfl (fun w40 h nw40 => ?_)
      refine retS h 4 3 2 rfl rfl rfl rfl rfl (by simp) (fun w2 h => ?_)
      exact ⟨t', l', rfl, ((h.dropAt 4).dropAt 3).dropAt 2⟩
end Go.Proofs.Yteigefjiifihpaa

/- The scheduler, the reference's side: a lock taken; exit. Conditions: none. -/
set_option linter.unusedVariables false
set_option linter.unusedSimpArgs false
namespace Go.Proofs.Yteigefjiifihpaa
open Go Go.Den
theorem filter_take_succ {α : Type} (p : α → Bool) {l : List α} {n : Nat} {x : α} (hx : l[n]? = some x) : (l.take (n + 1)).filter p = (l.take n).filter p ++ (if p x = true then [x] else []) := by
  rw [List.take_add_one, hx, List.filter_append]
  simp [List.filter_cons]
theorem lock_pre {d : DSched} {n : Int} (hs : Srt DLock.Id d.Locks) (hne : ∀ x, x ∈ d.Locks → x.Id ≠ n) : d.Locks.filter (fun k => decide (k.Id < n)) = d.Locks.take (lockPl d.Locks n 0) ∧ d.Locks.filter (fun k => decide (k.Id > n)) = d.Locks.drop (lockPl d.Locks n 0) := by
  obtain ⟨j, h1, h2, h3, h4⟩ := lockPl_spec d.Locks n 0 hs hne
  rw [Nat.zero_add] at h1
  rw [h1]
  have a1 : ∀ x, x ∈ d.Locks.take j → x.Id < n := fun x hx => by
    obtain ⟨m, hm⟩ := List.getElem?_of_mem hx
    have hml := (List.getElem?_eq_some_iff.1 hm).1
    rw [List.length_take] at hml
    rw [List.getElem?_take_of_lt (by omega)] at hm
    exact h3 m x (by omega) hm
  have a2 : ∀ x, x ∈ d.Locks.drop j → n < x.Id := fun x hx => by
    obtain ⟨m, hm⟩ := List.getElem?_of_mem hx
    rw [List.getElem?_drop] at hm
    exact h4 _ x (by omega) hm
  have hsplit : d.Locks = d.Locks.take j ++ d.Locks.drop j := (List.take_append_drop j _).symm
  constructor
  · have := congrArg (List.filter (fun k : DLock => decide (k.Id < n))) hsplit
    rw [this, List.filter_append, List.filter_eq_self.2 (fun x hx => decide_eq_true (a1 x hx)), List.filter_eq_nil_iff.2 (fun x hx => by have := a2 x hx; simp; omega), List.append_nil]
  · have := congrArg (List.filter (fun k : DLock => decide (k.Id > n))) hsplit
    rw [this, List.filter_append, List.filter_eq_nil_iff.2 (fun x hx => by have := a1 x hx; simp; omega), List.filter_eq_self.2 (fun x hx => decide_eq_true (a2 x hx)), List.nil_append]
theorem s149 {w0 w : World} {F : List Asr} {t l : Sl} {d : DSched} {i : Nat} {x : DThread} {n : Int} (h : SH w0 w (RT t d.Threads :: RL l d.Locks :: F)) (hi : Inv0 d) (hx : d.Threads[i]? = some x) :
    CallW Try.prog 149 #[sAgg d.Now d.Seq t l, .int .i64 (i : Int), .int .i64 n] w (KR w0 F (lockF d i x n)) := by
  refine go149 ?_
  unfold W149
  have hf := hi.few
  have hil := (List.getElem?_eq_some_iff.1 hx).1
  have htl := h.len 0 rfl
  rw [recs_len] at htl
  have hll := h.len 1 rfl
  rw [recs_len] at hll
  obtain ⟨q, hqa⟩ := h.rowQ 0 rfl hx
  refine h.alloc (fun w1 h ew1 nw1 => ?_)
  refine h.alloc (fun w2 h ew2 nw2 => ?_)
  refine h.alloc (fun w3 h ew3 nw3 => ?_)
  have h : SH w0 w3 (RT t d.Threads :: RL l d.Locks :: aB w2.heap.size (ZR.map Ce.v) :: aB w1.heap.size (ZS.map Ce.v) :: aB w.heap.size ((sCells d.Now d.Seq t l).map Ce.v) :: F) := (h.front (n := 4) rfl).front (n := 4) rfl
  generalize w2.heap.size = rb at *
  generalize w1.heap.size = sb at *
  refine ⟨_, h.cell 4 rfl rfl, _, h.cell 4 rfl rfl, t, h.cell 4 rfl rfl, l, h.cell 4 rfl rfl, (c121 (satOf h 0 1 rfl rfl ⟨by omega, by omega⟩)).mono ?_⟩
  rintro _ w9 ⟨rfl, e9⟩
  have h := h.to e9
  simp only [Int.toNat_natCast]
  refine ⟨_, rfl, t, h.cell 4 rfl rfl, by omega, by omega, q, hqa, _, h.rdR 0 rfl hqa hx rfl, ?_⟩
  refine BIf.dec (fun hneg => ?_) (fun hpos => ?_)
  · have hno : lckOf d n = none := by
      rcases idL_find d n with ⟨_, h2⟩ | ⟨j, y, h1, _, _⟩
      · exact h2
      · omega
    have hres : lockF d i x n = (⟨d.Now, d.Seq, d.Threads, d.Locks.filter (fun k => decide (k.Id < n)) ++ [⟨n, x.Id⟩] ++ d.Locks.filter (fun k => decide (k.Id > n))⟩, 0, 0) := by
      unfold lockF
      obtain ⟨l1, l2⟩ := lock_pre hi.ls (lckOf_none hno)
      rw [hno, l1, l2]
      simp
    refine h.alloc (fun w14 h ew14 nw14 => ?_)
    have h : SH w0 w14 (RL ⟨some ⟨w9.heap.size, 0, none⟩, 0, 0⟩ ((d.Locks.take 0).filter (fun k => decide (k.Id < n))) :: RT t d.Threads :: RL l d.Locks :: aB rb (ZR.map Ce.v) :: aB sb (ZS.map Ce.v) :: aB w.heap.size ((sCells d.Now d.Seq t l).map Ce.v) :: F) := h.drop.nil _ 2
    refine LoopW.m2 (fun (s : Sl) (i : Int) w' => ∃ m : Nat, i = m ∧ m ≤ d.Locks.length ∧ SH w0 w' (RL s ((d.Locks.take m).filter (fun k => decide (k.Id < n))) :: RT t d.Threads :: RL l d.Locks :: aB rb (ZR.map Ce.v) :: aB sb (ZS.map Ce.v) :: aB w.heap.size ((sCells d.Now d.Seq t l).map Ce.v) :: F)) (fun _ (i : Int) _ => (d.Locks.length - i).toNat) ⟨0, rfl, by omega, h⟩ ?_
    clear h
    rintro (s : Sl) (i : Int) w18 ⟨m, rfl, hm, h⟩ J hJ
    refine ⟨l, h.cell 5 rfl rfl, BIf.dec (fun hlt => ?_) (fun hge => ?_)⟩
    · have hml : m < d.Locks.length := by omega
      have hget : d.Locks[m]? = some d.Locks[m] := List.getElem?_eq_getElem hml
      obtain ⟨r, hra⟩ := h.rowQ 2 rfl hget
      have hfs := filter_take_succ (fun k : DLock => decide (k.Id < n)) hget
      generalize d.Locks[m] = y at *
      simp only [Int.toNat_natCast]
      rw [w64 (n := (m : Int) + 1) (by omega) (by omega)]
      refine ⟨l, h.cell 5 rfl rfl, by omega, by omega, r, hra, _, h.rdR 2 rfl hra hget rfl, BIf.dec (fun hc => ?_) (fun hc => ?_)⟩
      · refine ⟨l, h.cell 5 rfl rfl, by omega, by omega, r, hra, _, h.rdR 2 rfl hra hget rfl, _, h.rdR 2 rfl hra hget rfl, ?_⟩
        have hlen := List.length_filter_le (fun k : DLock => decide (k.Id < n)) (d.Locks.take m)
        rw [List.length_take] at hlen
        refine LetW_iff.2 (SH.appendR1 (f := DLock.cells) (x := y) h rfl rfl rfl (by decide) (by show _ * 16 ≤ _; omega) (plain_lck _) (fun l28 w29 h hl28 _ => ?_))
        rw [if_pos (decide_eq_true hc)] at hfs
        exact hJ _ _ _ ⟨m + 1, by omega, by omega, by rw [hfs]; exact h⟩ (by omega)
      · rw [if_neg (by simpa using hc), List.append_nil] at hfs
        exact hJ _ _ _ ⟨m + 1, by omega, by omega, by rw [hfs]; exact h⟩ (by omega)
    · rw [show m = d.Locks.length by omega, List.take_length] at h
      have hlen := List.length_filter_le (fun k : DLock => decide (k.Id < n)) d.Locks
      refine LetW_iff.2 (SH.appendR1 (f := DLock.cells) (x := ⟨n, x.Id⟩) h rfl rfl rfl (by decide) (by show _ * 16 ≤ _; omega) (plain_lck _) (fun l31 w32 h hl31 _ => ?_))
      have h : SH w0 w32 (RL l31 (d.Locks.filter (fun k => decide (k.Id < n)) ++ [⟨n, x.Id⟩] ++ (d.Locks.take 0).filter (fun k => decide (k.Id > n))) :: RT t d.Threads :: RL l d.Locks :: aB rb (ZR.map Ce.v) :: aB sb (ZS.map Ce.v) :: aB w.heap.size ((sCells d.Now d.Seq t l).map Ce.v) :: F) := by
        simpa using h
      clear hJ J
      refine LoopW.m2 (fun (s : Sl) (i : Int) w' => ∃ m : Nat, i = m ∧ m ≤ d.Locks.length ∧ SH w0 w' (RL s (d.Locks.filter (fun k => decide (k.Id < n)) ++ [⟨n, x.Id⟩] ++ (d.Locks.take m).filter (fun k => decide (k.Id > n))) :: RT t d.Threads :: RL l d.Locks :: aB rb (ZR.map Ce.v) :: aB sb (ZS.map Ce.v) :: aB w.heap.size ((sCells d.Now d.Seq t l).map Ce.v) :: F)) (fun _ (i : Int) _ => (d.Locks.length - i).toNat) ⟨0, rfl, by omega, h⟩ ?_
      clear h
      rintro (s : Sl) (i : Int) w36 ⟨m, rfl, hm, h⟩ J hJ
      refine ⟨l, h.cell 5 rfl rfl, BIf.dec (fun hlt => ?_) (fun hge => ?_)⟩
      · have hml : m < d.Locks.length := by omega
        have hget : d.Locks[m]? = some d.Locks[m] := List.getElem?_eq_getElem hml
        obtain ⟨r, hra⟩ := h.rowQ 2 rfl hget
        have hfs := filter_take_succ (fun k : DLock => decide (k.Id > n)) hget
        generalize d.Locks[m] = y at *
        simp only [Int.toNat_natCast]
        rw [w64 (n := (m : Int) + 1) (by omega) (by omega)]
        refine ⟨l, h.cell 5 rfl rfl, by omega, by omega, r, hra, _, h.rdR 2 rfl hra hget rfl, BIf.dec (fun hc => ?_) (fun hc => ?_)⟩
        · refine ⟨l, h.cell 5 rfl rfl, by omega, by omega, r, hra, _, h.rdR 2 rfl hra hget rfl, _, h.rdR 2 rfl hra hget rfl, ?_⟩
          have hlen2 := List.length_filter_le (fun k : DLock => decide (k.Id > n)) (d.Locks.take m)
          rw [List.length_take] at hlen2
          refine LetW_iff.2 (SH.appendR1 (f := DLock.cells) (x := y) h rfl rfl rfl (by decide) (by show _ * 16 ≤ _; simp only [List.length_append, List.length_cons, List.length_nil]; omega) (plain_lck _) (fun l28 w29 h hl28 _ => ?_))
          rw [if_pos (decide_eq_true hc)] at hfs
          exact hJ _ _ _ ⟨m + 1, by omega, by omega, by rw [hfs, ← List.append_assoc]; exact h⟩ (by omega)
        · rw [if_neg (by simpa using hc), List.append_nil] at hfs
          exact hJ _ _ _ ⟨m + 1, by omega, by omega, by rw [hfs]; exact h⟩ (by omega)
      · rw [show m = d.Locks.length by omega, List.take_length] at h
        refine h.setV 5 rfl rfl (fun w48 h nw48 => ?_)
        refine retS h 5 4 3 rfl rfl rfl rfl rfl (by simp) (fun w2 h => ?_)
        rw [hres]
        exact ⟨t, s, rfl, (((((h.dropAt 5).dropAt 4).dropAt 3).dropAt 2).front (n := 1) rfl)⟩
  · rcases idL_find d n with ⟨h1, _⟩ | ⟨j, y, h1, h2, h3⟩
    · omega
    have hjl := (List.getElem?_eq_some_iff.1 h2).1
    obtain ⟨r, hra⟩ := h.rowQ 1 rfl h2
    rw [h1]
    simp only [Int.toNat_natCast]
    refine ⟨l, h.cell 4 rfl rfl, by omega, by omega, r, hra, _, h.rdR 1 rfl hra h2 rfl, BIf.eq (fun ho => ?_) (fun ho => ?_)⟩
    · refine retS h 4 3 2 rfl rfl rfl rfl rfl (by simp) (fun w2 h => ?_)
      have hres : lockF d i x n = (d, 4, 0) := by unfold lockF; rw [h3]; simp only; rw [if_pos ho]
      rw [hres]
      exact ⟨t, l, rfl, ((h.dropAt 4).dropAt 3).dropAt 2⟩
    have h := h.drew
    refine ⟨_, h.cell 4 rfl rfl, _, h.cell 4 rfl rfl, t, h.cell 4 rfl rfl, l, h.cell 4 rfl rfl, l, h.cell 4 rfl rfl, by omega, by omega, r, hra, _, h.rdR 1 rfl hra h2 rfl, ?_⟩
    refine (c82 (satOf h 0 1 rfl rfl ⟨by omega, by omega⟩)).mono ?_
    rintro _ w84 ⟨rfl, e84⟩
    have h := h.to e84
    refine ⟨_, rfl, BIf.of (fun hw => ?_) (fun hw => ?_)⟩
    · refine retS h 4 3 2 rfl rfl rfl rfl rfl (by simp) (fun w2 h => ?_)
      have hres : lockF d i x n = (d, 17, 0) := by unfold lockF; rw [h3]; simp only; rw [if_neg ho, if_pos hw]
      rw [hres]
      exact ⟨t, l, rfl, ((h.dropAt 4).dropAt 3).dropAt 2⟩
    · have hres : lockF d i x n = (⟨d.Now, d.Seq, d.Threads.set i ⟨x.Id, x.Base, 2, x.Line, x.Left, x.Since, x.Until, n⟩, d.Locks⟩, 0, 1) := by unfold lockF; rw [h3]; simp only; rw [if_neg ho, if_neg (by rw [hw]; simp)]
      refine ⟨t, h.cell 4 rfl rfl, by omega, by omega, q, hqa, ?_⟩
      rw [set_at hx] at h
      refine h.setR 0 (⟨x.Id, x.Base, 2, x.Line, x.Left, x.Since, x.Until, x.Wait⟩ : DThread) rfl hqa hil (by show 2 < 8; omega) rfl (fun w65 h nw65 => ?_)
      refine ⟨t, h.cell 4 rfl rfl, by omega, by omega, q, hqa, ?_⟩
      refine h.setR 0 (⟨x.Id, x.Base, 2, x.Line, x.Left, x.Since, x.Until, n⟩ : DThread) rfl hqa hil (by show 7 < 8; omega) rfl (fun w69 h nw69 => ?_)
      refine retS h 4 3 2 rfl rfl rfl rfl rfl (by simp) (fun w2 h => ?_)
      rw [hres]
      exact ⟨t, l, rfl, ((h.dropAt 4).dropAt 3).dropAt 2⟩
/-! ## Exit -/
theorem filt_step {l : List DLock} (hs : Srt DLock.Id l) (k : Int) : (∃ x, x ∈ l ∧ x.Id = k ∧ l.filter (fun y => decide (k ≤ y.Id)) = x :: l.filter (fun y => decide (k + 1 ≤ y.Id))) ∨ ((∀ x, x ∈ l → x.Id ≠ k) ∧ l.filter (fun y => decide (k ≤ y.Id)) = l.filter (fun y => decide (k + 1 ≤ y.Id))) := by
  induction l with
  | nil => exact .inr ⟨(fun x hx => by cases hx), rfl⟩
  | cons a r ih =>
    obtain ⟨h1, h2⟩ := List.pairwise_cons.1 hs
    rcases Int.lt_trichotomy a.Id k with hlt | heq | hgt
    · rw [List.filter_cons_of_neg (by simp; omega), List.filter_cons_of_neg (by simp; omega)]
      rcases ih h2 with ⟨x, hx, he, hf⟩ | ⟨hn, hf⟩
      · exact .inl ⟨x, by simp [hx], he, hf⟩
      · refine .inr ⟨fun x hx => ?_, hf⟩
        rcases List.mem_cons.1 hx with rfl | hx
        · omega
        · exact hn x hx
    · refine .inl ⟨a, by simp, heq, ?_⟩
      rw [List.filter_cons_of_pos (by simp; omega), List.filter_cons_of_neg (by simp; omega)]
      congr 1
      apply List.filter_congr
      intro x hx
      have := h1 x hx
      rw [decide_eq_decide]; omega
    · refine .inr ⟨fun x hx => ?_, ?_⟩
      · rcases List.mem_cons.1 hx with rfl | hx
        · omega
        · have := h1 x hx; omega
      · apply List.filter_congr
        intro x hx
        rw [decide_eq_decide]
        rcases List.mem_cons.1 hx with rfl | hx
        · omega
        · have := h1 x hx; omega
theorem s109 {w0 w : World} {F : List Asr} {t l : Sl} {d : DSched} {i : Nat} {x : DThread} (h : SH w0 w (RT t d.Threads :: RL l d.Locks :: F)) (hi : Inv0 d) (hn : d.Now ≤ 1099511627776) (hq : d.Seq ≤ 2199023255552) (hx : d.Threads[i]? = some x) :
    CallW Try.prog 109 #[sAgg d.Now d.Seq t l, .int .i64 (i : Int)] w (KS w0 F (exitF d x.Id)) := by
  refine go109 ?_
  unfold W109
  have hf := hi.few
  have hil := (List.getElem?_eq_some_iff.1 hx).1
  have htl := h.len 0 rfl
  rw [recs_len] at htl
  have htc := h.lenCap 0 rfl
  obtain ⟨q, hqa⟩ := h.rowQ 0 rfl hx
  refine h.alloc (fun w1 h ew1 nw1 => ?_)
  refine h.alloc (fun w2 h ew2 nw2 => ?_)
  have h : SH w0 w2 (RT t d.Threads :: RL l d.Locks :: aB w1.heap.size (ZS.map Ce.v) :: aB w.heap.size ((sCells d.Now d.Seq t l).map Ce.v) :: F) := (h.front (n := 3) rfl).front (n := 3) rfl
  generalize w1.heap.size = sb at *
  simp only [Int.toNat_natCast]
  rw [w64 (n := (i : Int) + 1) (by omega) (by omega), show ((i : Int) + 1).toNat = i + 1 by omega]
  refine ⟨t, h.cell 3 rfl rfl, by omega, by omega, q, hqa, _, h.rdR 0 rfl hqa hx rfl, ?_⟩
  have h := h.drew
  refine ⟨t, h.cell 3 rfl rfl, by omega, by omega, t, h.cell 3 rfl rfl, by omega, by omega, ?_⟩
  refine h.alloc (fun w8 h ew8 nw8 => ?_)
  refine ⟨⟨t, h.cell 4 rfl rfl, rfl⟩, ⟨t, h.cell 4 rfl rfl, rfl⟩, ?_⟩
  have hrow := h.rowR 1 rfl
  have h := h.drop.nil (some ⟨w2.drew.heap.size, 0, none⟩) 8
  refine SH.appendR (f := DThread.cells) (l := []) (us := d.Threads.take i) h (hrow.pre (fun _ => rfl) (by omega)) (by simp; omega) (fun _ => rfl) rfl rfl (by decide) (by show (_ + _) * 64 ≤ _; simp; omega) plain_thr (fun l11 w12 h hl11 _ => ?_)
  refine ⟨⟨t, h.cell 4 rfl rfl, rfl⟩, ?_⟩
  have hrow := h.rowR 1 rfl
  refine SH.appendR (f := DThread.cells) (us := d.Threads.drop (i + 1)) h (hrow.suf (fun _ => rfl) htl htc (by omega)) (by simp; omega) (fun _ => rfl) rfl rfl (by decide) (by show (_ + _) * 64 ≤ _; simp; omega) plain_thr (fun l14 w15 h hl14 _ => ?_)
  refine h.setV 4 rfl rfl (fun w16 h nw16 => ?_)
  have h : SH w0 w16 (RT l14 (d.Threads.take i ++ d.Threads.drop (i + 1)) :: RL l d.Locks :: aB sb (ZS.map Ce.v) :: aB w.heap.size ((sCells d.Now d.Seq l14 l).map Ce.v) :: F) := h.dropAt 1
  rw [hi.ts.erase hx] at h
  have hg0 := hi.gone x.Id
  refine LoopW.m1 (fun (a : Int) w' => ∃ (k : Nat) (e : DSched) (t l : Sl), a = k ∧ k ≤ 16 ∧ exitL x.Id (d.Locks.filter (fun y => decide ((k : Int) ≤ y.Id))) e = exitF d x.Id ∧ Inv (fun o => o = x.Id) e ∧ e.Now = d.Now ∧ e.Seq ≤ d.Seq + k ∧ (∀ u, u ∈ e.Threads → u.Id ≠ x.Id) ∧ (∀ y, y ∈ d.Locks.filter (fun y => decide ((k : Int) ≤ y.Id)) → y ∈ e.Locks) ∧ (∀ y, y ∈ e.Locks → y.Owner = x.Id → y ∈ d.Locks.filter (fun y => decide ((k : Int) ≤ y.Id))) ∧
      SH w0 w' (RT t e.Threads :: RL l e.Locks :: aB sb (ZS.map Ce.v) :: aB w.heap.size ((sCells e.Now e.Seq t l).map Ce.v) :: F)) (fun (i : Int) _ => (16 - i).toNat) ⟨0, _, l14, l, rfl, by omega, ?_, hg0, rfl, Int.le_of_eq (by simp), ?_, ?_, ?_, h⟩ ?_
  · rw [List.filter_eq_self.2 (fun y hy => decide_eq_true (by have := (hi.lok y hy).1; omega))]; rfl
  · intro u hu he; have := (List.mem_filter.1 hu).2; simp [he] at this
  · intro y hy; exact (List.mem_filter.1 hy).1
  · intro y hy _; exact List.mem_filter.2 ⟨hy, decide_eq_true (by have := (hi.lok y hy).1; omega)⟩
  clear h
  rintro (a : Int) w19 ⟨k, e, t, l, rfl, hk16, hex, hie, hen, hes, hgo, hsub, hown, h⟩ J hJ
  have hef := hie.few
  have hm := hie.mid (by omega)
  refine BIf.dec (fun hlt => ?_) (fun hge => ?_)
  · rw [w64 (n := (k : Int) + 1) (by omega) (by omega)]
    refine ⟨_, h.cell 3 rfl rfl, _, h.cell 3 rfl rfl, t, h.cell 3 rfl rfl, l, h.cell 3 rfl rfl, (c121 (satOf h 0 1 rfl rfl ⟨by omega, by omega⟩)).mono ?_⟩
    rintro _ w25 ⟨rfl, e25⟩
    have h := h.to e25
    refine ⟨_, rfl, ?_⟩
    refine JoinW.cut1 (fun (c : Bool) w' => (c = true ↔ ∃ y, y ∈ e.Locks ∧ y.Id = k ∧ y.Owner = x.Id) ∧ SH w0 w' (RT t e.Threads :: RL l e.Locks :: aB sb (ZS.map Ce.v) :: aB w.heap.size ((sCells e.Now e.Seq t l).map Ce.v) :: F)) ?_ ?_
    · rcases idL_find e (k : Int) with ⟨h1, h2⟩ | ⟨j, y, h1, h2, h3⟩
      · rw [h1]
        refine BIf.f rfl ⟨⟨(fun h => by cases h), ?_⟩, h⟩
        rintro ⟨y, hy, hyk, _⟩
        exact absurd hyk (lckOf_none h2 y hy)
      · rw [h1]
        obtain ⟨hym, hyk⟩ := lckOf_some h3
        have hjl := (List.getElem?_eq_some_iff.1 h2).1
        have hll := h.len 1 rfl
        rw [recs_len] at hll
        obtain ⟨r, hra⟩ := h.rowQ 1 rfl h2
        simp only [Int.toNat_natCast]
        refine BIf.t (decide_eq_true (by omega)) ⟨l, h.cell 3 rfl rfl, by omega, by omega, r, hra, _, h.rdR 1 rfl hra h2 rfl, ⟨fun hh => ⟨y, hym, hyk, by simpa using hh⟩, ?_⟩, h⟩
        rintro ⟨z, hz, hzk, hzo⟩
        rw [hie.ls.uniq hz hym (by omega)] at hzo
        simpa using hzo
    · rintro (c : Bool) w29 ⟨hc, h⟩
      refine BIf.of (fun hct => ?_) (fun hcf => ?_)
      · obtain ⟨y, hy, hyk, hyo⟩ := hc.1 hct
        rcases filt_step hi.ls (k : Int) with ⟨z, hz, hzk, hfs⟩ | ⟨hno, hfs⟩
        · have hze : z ∈ e.Locks := hsub z (by rw [hfs]; simp)
          obtain rfl : z = y := hie.ls.uniq hze hy (by omega)
          rw [hfs] at hex hown hsub
          unfold exitL at hex
          rw [if_pos hyo, hyk] at hex
          refine ⟨_, h.cell 3 rfl rfl, _, h.cell 3 rfl rfl, t, h.cell 3 rfl rfl, l, h.cell 3 rfl rfl, ?_⟩
          refine (s148 h hm hie.ls hy hyk ⟨hie.now.2, by omega⟩ ⟨by omega, by omega⟩).mono ?_
          rintro _ w35 ⟨t', l', rfl, h⟩
          refine ⟨_, _, t', l', rfl, ?_⟩
          refine h.put 3 rfl rfl rfl (fun w40 h nw40 => ?_)
          obtain ⟨l1, l2, l3⟩ := hand_locks hie (by omega) hy
          have hnw := handF_now e z.Id
          have hhd := hie.hand (by omega) hy
          rw [hyk] at l1 l2 l3 hnw hhd
          refine hJ _ _ ⟨k + 1, _, t', l', by omega, by omega, hex, hhd, by omega, by omega, fun u hu he => ?_, fun v hv => ?_, fun v hv hvo => ?_, h⟩ (by omega)
          · obtain ⟨u', hu', hue⟩ := (l3 u.Id).1 ⟨u, hu, rfl⟩
            exact hgo u' hu' (by omega)
          · have h5 := (List.mem_filter.1 hv).2
            simp only [decide_eq_true_eq] at h5
            exact l2 v (hsub v (by simp only [List.mem_cons]; exact .inr hv)) (by omega)
          · rcases l1 v hv with ⟨h5, h6⟩ | ⟨h5, u, hu, hue⟩
            · rcases List.mem_cons.1 (hown v h5 hvo) with rfl | h7
              · exact absurd hyk h6
              · exact h7
            · exact absurd (hue.trans hvo) (hgo u hu)
        · have := hown y hy hyo
          have h5 := (List.mem_filter.1 this).1
          exact absurd hyk (hno y h5)
      · have hno : ∀ y, y ∈ e.Locks → y.Id = k → y.Owner ≠ x.Id := fun y hy hyk hyo => by rw [hc.2 ⟨y, hy, hyk, hyo⟩] at hcf; cases hcf
        rcases filt_step hi.ls (k : Int) with ⟨z, hz, hzk, hfs⟩ | ⟨_, hfs⟩
        · have hze : z ∈ e.Locks := hsub z (by rw [hfs]; simp)
          have hzo := hno z hze hzk
          rw [hfs] at hex hown hsub
          unfold exitL at hex
          rw [if_neg hzo] at hex
          refine hJ _ _ ⟨k + 1, e, t, l, by omega, by omega, hex, hie, hen, by omega, hgo, fun v hv => hsub v (by simp only [List.mem_cons]; exact .inr hv), fun v hv hvo => ?_, h⟩ (by omega)
          rcases List.mem_cons.1 (hown v hv hvo) with rfl | h7
          · exact absurd hvo hzo
          · exact h7
        · rw [hfs] at hex hown hsub
          exact hJ _ _ ⟨k + 1, e, t, l, by omega, by omega, hex, hie, hen, by omega, hgo, hsub, hown, h⟩ (by omega)
  · have hnil : d.Locks.filter (fun y => decide ((k : Int) ≤ y.Id)) = [] := List.filter_eq_nil_iff.2 (fun y hy => by have := (hi.lok y hy).2; simp; omega)
    rw [hnil] at hex
    have hex : e = exitF d x.Id := hex
    refine ⟨_, h.cell 3 rfl rfl, _, h.cell 3 rfl rfl, t, h.cell 3 rfl rfl, l, h.cell 3 rfl rfl, ?_⟩
    refine h.put 2 rfl rfl rfl (fun w48 h nw48 => ?_)
    refine ⟨_, h.cell 2 rfl rfl, _, h.cell 2 rfl rfl, t, h.cell 2 rfl rfl, l, h.cell 2 rfl rfl, ?_⟩
    rw [← hex]
    exact ⟨t, l, rfl, (h.dropAt 3).dropAt 2⟩
end Go.Proofs.Yteigefjiifihpaa

/- The scheduler, the reference's side: an operation. Conditions: none. -/
set_option linter.unusedVariables false
set_option linter.unusedSimpArgs false
namespace Go.Proofs.Yteigefjiifihpaa
open Go Go.Den
abbrev opV (k i n : Int) : List Value := [.int .i64 k, .int .i64 i, .int .i64 n]
def lockR (d : DSched) (i : Nat) (t : DThread) (kind id n : Int) : DSched × Int × Int :=
  if n < 0 ∨ n ≥ 16 then (d, 1, 0) else if t.State ≠ 1 then (d, 21, 0)
    else if kind = 4 then lockF d i t n
    else match lckOf d n with
      | none => (d, 2, 0)
      | some k => if k.Owner ≠ id then (d, 2, 0) else (handF d n, 0, 0)
theorem s110 {w0 w : World} {F : List Asr} {t l : Sl} {d : DSched} {i : Nat} {x : DThread} {kind id n : Int} (h : SH w0 w (RT t d.Threads :: RL l d.Locks :: F)) (hi : Inv0 d) (hn : d.Now ≤ 1099511627776) (hq : d.Seq ≤ 2199023255552) (hx : d.Threads[i]? = some x) :
    CallW Try.prog 110 #[sAgg d.Now d.Seq t l, .int .i64 (i : Int), .agg #[.int .i64 kind, .int .i64 id, .int .i64 n]] w (KR w0 F (lockR d i x kind id n)) := by
  refine go110 ?_
  unfold W110
  have hf := hi.few
  have hm := hi.mid hn
  have hil := (List.getElem?_eq_some_iff.1 hx).1
  have htl := h.len 0 rfl
  rw [recs_len] at htl
  have hll := h.len 1 rfl
  rw [recs_len] at hll
  obtain ⟨q, hqa⟩ := h.rowQ 0 rfl hx
  refine h.alloc (fun w1 h ew1 nw1 => ?_)
  refine h.alloc (fun w2 h ew2 nw2 => ?_)
  refine h.alloc (fun w3 h ew3 nw3 => ?_)
  refine h.alloc (fun w4 h ew4 nw4 => ?_)
  have h : SH w0 w4 (RT t d.Threads :: RL l d.Locks :: aB w3.heap.size (ZR.map Ce.v) :: aB w2.heap.size (ZS.map Ce.v) :: aB w1.heap.size ((opV kind id n).map Ce.v) :: aB w.heap.size ((sCells d.Now d.Seq t l).map Ce.v) :: F) := (h.front (n := 5) rfl).front (n := 5) rfl
  generalize w3.heap.size = rb at *
  generalize w2.heap.size = sb at *
  generalize w1.heap.size = ob at *
  unfold lockR
  refine ⟨_, h.cell 4 rfl rfl, ?_⟩
  refine join_or_ex _ (h.cell 4 rfl rfl) ?_
  refine BIf.of (fun hb => ?_) (fun hb => ?_)
  · simp only [Bool.or_eq_true, decide_eq_true_eq] at hb
    refine retS h 5 3 2 rfl rfl rfl rfl rfl (by simp) (fun w2 h => ?_)
    rw [if_pos hb]
    exact ⟨t, l, rfl, (((h.dropAt 5).dropAt 4).dropAt 3).dropAt 2⟩
  simp only [Bool.or_eq_false_iff, decide_eq_false_iff_not] at hb
  rw [if_neg (show ¬ (n < 0 ∨ n ≥ 16) by omega)]
  simp only [Int.toNat_natCast]
  refine ⟨t, h.cell 5 rfl rfl, by omega, by omega, q, hqa, _, h.rdR 0 rfl hqa hx rfl, BIf.ne (fun hs => ?_) (fun hs => ?_)⟩
  · refine retS h 5 3 2 rfl rfl rfl rfl rfl (by simp) (fun w2 h => ?_)
    rw [if_pos hs]
    exact ⟨t, l, rfl, (((h.dropAt 5).dropAt 4).dropAt 3).dropAt 2⟩
  rw [if_neg (by omega)]
  refine ⟨_, h.cell 4 rfl rfl, BIf.eq (fun h4 => ?_) (fun h4 => ?_)⟩
  · rw [if_pos h4]
    refine ⟨_, h.cell 5 rfl rfl, _, h.cell 5 rfl rfl, t, h.cell 5 rfl rfl, l, h.cell 5 rfl rfl, _, h.cell 4 rfl rfl, (s149 h hi hx).mono ?_⟩
    rintro _ w43 ⟨t', l', rfl, h⟩
    refine ⟨_, _, t', l', _, _, rfl, ?_⟩
    refine retR h 3 2 rfl rfl rfl rfl (by simp) (fun w2 h => ?_)
    exact ⟨t', l', rfl, (((h.dropAt 5).dropAt 4).dropAt 3).dropAt 2⟩
  rw [if_neg h4]
  refine ⟨_, h.cell 5 rfl rfl, _, h.cell 5 rfl rfl, t, h.cell 5 rfl rfl, l, h.cell 5 rfl rfl, _, h.cell 4 rfl rfl, (c121 (satOf h 0 1 rfl rfl ⟨by omega, by omega⟩)).mono ?_⟩
  rintro _ w64 ⟨rfl, e64⟩
  have h := (h.to e64).drew
  refine ⟨_, rfl, ?_⟩
  refine JoinW.cut1 (fun (c : Bool) w' => (c = false ↔ ∃ k, lckOf d n = some k ∧ k.Owner = id) ∧ SH w0 w' (RT t d.Threads :: RL l d.Locks :: aB rb (ZR.map Ce.v) :: aB sb (ZS.map Ce.v) :: aB ob ((opV kind id n).map Ce.v) :: aB w.heap.size ((sCells d.Now d.Seq t l).map Ce.v) :: F)) ?_ ?_
  · rcases idL_find d n with ⟨h1, h2⟩ | ⟨j, y, h1, h2, h3⟩
    · rw [h1]
      refine BIf.t rfl ⟨⟨(fun h => by cases h), ?_⟩, h⟩
      rintro ⟨k, hk, _⟩
      rw [h2] at hk; cases hk
    · rw [h1]
      have hjl := (List.getElem?_eq_some_iff.1 h2).1
      obtain ⟨r, hra⟩ := h.rowQ 1 rfl h2
      simp only [Int.toNat_natCast]
      refine BIf.f (decide_eq_false (by omega)) ⟨l, h.cell 5 rfl rfl, by omega, by omega, r, hra, _, h.rdR 1 rfl hra h2 rfl, _, h.cell 4 rfl rfl, ⟨fun hh => ⟨y, h3, by simpa [bne] using hh⟩, ?_⟩, h⟩
      rintro ⟨k, hk, hko⟩
      rw [h3] at hk; cases hk
      simp [hko]
  · rintro (c : Bool) w68 ⟨hc, h⟩
    refine BIf.of (fun hct => ?_) (fun hcf => ?_)
    · have hr : (match lckOf d n with | none => (d, 2, 0) | some k => if k.Owner ≠ id then (d, 2, 0) else (handF d n, 0, 0) : DSched × Int × Int) = (d, 2, 0) := by
        rcases hl : lckOf d n with _ | k
        · rfl
        · simp only
          rw [if_pos (fun ho => by rw [hc.2 ⟨k, hl, ho⟩] at hct; cases hct)]
      rw [hr]
      refine retS h 5 3 2 rfl rfl rfl rfl rfl (by simp) (fun w2 h => ?_)
      exact ⟨t, l, rfl, (((h.dropAt 5).dropAt 4).dropAt 3).dropAt 2⟩
    · obtain ⟨k, hk, hko⟩ := hc.1 hcf
      obtain ⟨hkm, hkn⟩ := lckOf_some hk
      rw [hk]
      simp only
      rw [if_neg (by omega)]
      refine ⟨_, h.cell 5 rfl rfl, _, h.cell 5 rfl rfl, t, h.cell 5 rfl rfl, l, h.cell 5 rfl rfl, _, h.cell 4 rfl rfl, (s148 h hm hi.ls hkm hkn ⟨hi.now.2, by omega⟩ ⟨by omega, by omega⟩).mono ?_⟩
      rintro _ w87 ⟨t', l', rfl, h⟩
      refine ⟨_, _, t', l', rfl, ?_⟩
      refine retR h 3 2 rfl rfl rfl rfl (by simp) (fun w2 h => ?_)
      exact ⟨t', l', rfl, (((h.dropAt 5).dropAt 4).dropAt 3).dropAt 2⟩
theorem step_thr {d : DSched} {kind id n : Int} {i : Nat} {x : DThread} (h1 : kind ≠ 1) (h3 : kind ≠ 3) (hr : ¬ (kind < 1 ∨ kind > 8)) (hid : idT d id = (i : Int)) (hx : d.Threads[i]? = some x) : stepF d kind id n = thrF d i x kind id n := by
  unfold stepF
  rw [if_neg h1, if_neg h3, if_neg hr, hid, Int.toNat_natCast]
  simp only [hx]
  rw [if_neg (by omega)]
theorem s61 {w0 w : World} {F : List Asr} {t l : Sl} {d : DSched} {kind id n : Int} (h : SH w0 w (RT t d.Threads :: RL l d.Locks :: F)) (hi : Inv0 d) (hn : d.Now ≤ 1099511627776) (hq : d.Seq ≤ 2199023255552) :
    CallW Try.prog 61 #[sAgg d.Now d.Seq t l, .agg #[.int .i64 kind, .int .i64 id, .int .i64 n]] w (KR w0 F (stepF d kind id n)) := by
  refine go61 ?_
  unfold W61
  have hf := hi.few
  have hnow := hi.now
  have htl := h.len 0 rfl
  rw [recs_len] at htl
  refine h.alloc (fun w1 h ew1 nw1 => ?_)
  refine h.alloc (fun w2 h ew2 nw2 => ?_)
  refine h.alloc (fun w3 h ew3 nw3 => ?_)
  refine h.alloc (fun w4 h ew4 nw4 => ?_)
  have h : SH w0 w4 (RT t d.Threads :: RL l d.Locks :: aB w3.heap.size (ZR.map Ce.v) :: aB w2.heap.size (ZS.map Ce.v) :: aB w1.heap.size ((opV kind id n).map Ce.v) :: aB w.heap.size ((sCells d.Now d.Seq t l).map Ce.v) :: F) := (h.front (n := 5) rfl).front (n := 5) rfl
  generalize w3.heap.size = rb at *
  generalize w2.heap.size = sb at *
  generalize w1.heap.size = ob at *
  refine ⟨_, h.cell 4 rfl rfl, BIf.eq (fun h1 => ?_) (fun h1 => ?_)⟩
  · have hr : stepF d kind id n = spawnR d n := by unfold stepF spawnR; rw [if_pos h1]
    rw [hr]
    refine ⟨_, h.cell 5 rfl rfl, _, h.cell 5 rfl rfl, t, h.cell 5 rfl rfl, l, h.cell 5 rfl rfl, _, h.cell 4 rfl rfl, (s107 h hi (by omega)).mono ?_⟩
    rintro _ w12 ⟨t', l', rfl, h⟩
    refine ⟨_, _, t', l', _, _, rfl, ?_⟩
    refine retR h 3 2 rfl rfl rfl rfl (by simp) (fun w2 h => ?_)
    exact ⟨t', l', rfl, (((h.dropAt 5).dropAt 4).dropAt 3).dropAt 2⟩
  refine ⟨_, h.cell 4 rfl rfl, BIf.eq (fun h3 => ?_) (fun h3 => ?_)⟩
  · have hr : stepF d kind id n = ((tickF d).1, 0, (tickF d).2) := by unfold stepF; rw [if_neg h1, if_pos h3]
    rw [hr]
    refine ⟨_, h.cell 5 rfl rfl, _, h.cell 5 rfl rfl, t, h.cell 5 rfl rfl, l, h.cell 5 rfl rfl, (s108 h hi hn hq).mono ?_⟩
    rintro _ w12 ⟨t', l', rfl, h⟩
    refine ⟨_, _, t', l', _, _, rfl, ?_⟩
    refine retR h 3 2 rfl rfl rfl rfl (by simp) (fun w2 h => ?_)
    exact ⟨t', l', rfl, (((h.dropAt 5).dropAt 4).dropAt 3).dropAt 2⟩
  refine ⟨_, h.cell 4 rfl rfl, ?_⟩
  refine join_or_ex _ (h.cell 4 rfl rfl) ?_
  refine BIf.of (fun hb => ?_) (fun hb => ?_)
  · simp only [Bool.or_eq_true, decide_eq_true_eq] at hb
    have hr : stepF d kind id n = (d, 1, 0) := by unfold stepF; rw [if_neg h1, if_neg h3, if_pos hb]
    rw [hr]
    refine retS h 5 3 2 rfl rfl rfl rfl rfl (by simp) (fun w2 h => ?_)
    exact ⟨t, l, rfl, (((h.dropAt 5).dropAt 4).dropAt 3).dropAt 2⟩
  simp only [Bool.or_eq_false_iff, decide_eq_false_iff_not] at hb
  have hb' : ¬ (kind < 1 ∨ kind > 8) := by omega
  refine ⟨_, h.cell 5 rfl rfl, _, h.cell 5 rfl rfl, t, h.cell 5 rfl rfl, l, h.cell 5 rfl rfl, _, h.cell 4 rfl rfl, (c80 (satOf h 0 1 rfl rfl ⟨by omega, by omega⟩)).mono ?_⟩
  rintro _ w70 ⟨rfl, e70⟩
  have h := h.to e70
  refine ⟨_, rfl, ?_⟩
  rcases idT_find d id with ⟨hid, hno⟩ | ⟨i, x, hid, hx, hxo⟩
  · have hr : stepF d kind id n = (d, 3, 0) := by
      unfold stepF
      rw [if_neg h1, if_neg h3, if_neg hb', hid]
      split
      · rfl
      · rfl
    rw [hid, hr]
    refine BIf.t rfl ?_
    refine retS h 5 3 2 rfl rfl rfl rfl rfl (by simp) (fun w2 h => ?_)
    exact ⟨t, l, rfl, (((h.dropAt 5).dropAt 4).dropAt 3).dropAt 2⟩
  rw [hid, step_thr h1 h3 hb' hid hx]
  have hxid := (thrOf_id hxo).1
  have hxm := List.mem_of_getElem? hx
  have hxt := hi.tok x hxm
  have hil := (List.getElem?_eq_some_iff.1 hx).1
  obtain ⟨q, hqa⟩ := h.rowQ 0 rfl hx
  refine BIf.f (decide_eq_false (by omega)) ⟨_, h.cell 4 rfl rfl, ?_⟩
  refine BIf.eq (fun h2 => ?_) (fun h2 => ?_)
  · have hr : thrF d i x kind id n = (exitF d x.Id, 0, 0) := by unfold thrF; rw [if_pos h2, hxid]
    rw [hr]
    refine ⟨_, h.cell 5 rfl rfl, _, h.cell 5 rfl rfl, t, h.cell 5 rfl rfl, l, h.cell 5 rfl rfl, (s109 h hi hn hq hx).mono ?_⟩
    rintro _ w12 ⟨t', l', rfl, h⟩
    refine ⟨_, _, t', l', rfl, ?_⟩
    refine retR h 3 2 rfl rfl rfl rfl (by simp) (fun w2 h => ?_)
    exact ⟨t', l', rfl, (((h.dropAt 5).dropAt 4).dropAt 3).dropAt 2⟩
  simp only [join_sw]
  refine BIf.of (fun h45 => ?_) (fun h45 => ?_)
  · have h45 : kind = 4 ∨ kind = 5 := by simpa using h45
    have hr : thrF d i x kind id n = lockR d i x kind id n := by unfold thrF lockR; rw [if_neg h2, if_pos h45]; rfl
    rw [hr]
    refine ⟨_, h.cell 5 rfl rfl, _, h.cell 5 rfl rfl, t, h.cell 5 rfl rfl, l, h.cell 5 rfl rfl, _, h.cell 4 rfl rfl, _, h.cell 4 rfl rfl, _, h.cell 4 rfl rfl, (s110 h hi hn hq hx).mono ?_⟩
    rintro _ w12 ⟨t', l', rfl, h⟩
    refine ⟨_, _, t', l', _, _, rfl, ?_⟩
    refine retR h 3 2 rfl rfl rfl rfl (by simp) (fun w2 h => ?_)
    exact ⟨t', l', rfl, (((h.dropAt 5).dropAt 4).dropAt 3).dropAt 2⟩
  have h45 : ¬ (kind = 4 ∨ kind = 5) := by simpa using h45
  have ht0 : thrF d i x kind id n = if kind = 6 then
    if n < 1 ∨ n > 1000 then (d, 1, 0) else if x.State ≠ 1 then (d, 21, 0)
    else (⟨d.Now, d.Seq, d.Threads.set i ⟨x.Id, x.Base, 3, x.Line, x.Left, x.Since, d.Now + n, x.Wait⟩, d.Locks⟩, 0, 0)
  else if kind = 7 then (if x.State ≠ 3 then (d, 21, 0) else (standF d i d.Now, 0, 0))
  else if n < 0 ∨ n > 7 then (d, 1, 0) else (⟨d.Now, d.Seq, d.Threads.set i ⟨x.Id, n, x.State, x.Line, x.Left, x.Since, x.Until, x.Wait⟩, d.Locks⟩, 0, 0) := by unfold thrF; rw [if_neg h2, if_neg h45]
  rw [ht0]
  simp only [Int.toNat_natCast]
  refine BIf.eq (fun h6 => ?_) (fun h6 => ?_)
  · rw [if_pos h6]
    refine ⟨_, h.cell 4 rfl rfl, ?_⟩
    refine join_or_ex _ (h.cell 4 rfl rfl) ?_
    refine BIf.of (fun hb => ?_) (fun hb => ?_)
    · simp only [Bool.or_eq_true, decide_eq_true_eq] at hb
      rw [if_pos hb]
      refine retS h 5 3 2 rfl rfl rfl rfl rfl (by simp) (fun w2 h => ?_)
      exact ⟨t, l, rfl, (((h.dropAt 5).dropAt 4).dropAt 3).dropAt 2⟩
    simp only [Bool.or_eq_false_iff, decide_eq_false_iff_not] at hb
    rw [if_neg (show ¬ (n < 1 ∨ n > 1000) by omega)]
    refine ⟨t, h.cell 5 rfl rfl, by omega, by omega, q, hqa, _, h.rdR 0 rfl hqa hx rfl, BIf.ne (fun hs => ?_) (fun hs => ?_)⟩
    · rw [if_pos hs]
      refine retS h 5 3 2 rfl rfl rfl rfl rfl (by simp) (fun w2 h => ?_)
      exact ⟨t, l, rfl, (((h.dropAt 5).dropAt 4).dropAt 3).dropAt 2⟩
    rw [if_neg (by omega)]
    refine ⟨t, h.cell 5 rfl rfl, by omega, by omega, q, hqa, ?_⟩
    rw [set_at hx] at h
    refine h.setR 0 (⟨x.Id, x.Base, 3, x.Line, x.Left, x.Since, x.Until, x.Wait⟩ : DThread) rfl hqa hil (by show 2 < 8; omega) rfl (fun w65 h nw65 => ?_)
    refine ⟨t, h.cell 5 rfl rfl, _, h.cell 5 rfl rfl, _, h.cell 4 rfl rfl, by omega, by omega, q, hqa, ?_⟩
    rw [w64 (n := d.Now + n) (by omega) (by omega)]
    refine h.setR 0 (⟨x.Id, x.Base, 3, x.Line, x.Left, x.Since, d.Now + n, x.Wait⟩ : DThread) rfl hqa hil (by show 6 < 8; omega) rfl (fun w69 h nw69 => ?_)
    refine retS h 5 3 2 rfl rfl rfl rfl rfl (by simp) (fun w2 h => ?_)
    exact ⟨t, l, rfl, (((h.dropAt 5).dropAt 4).dropAt 3).dropAt 2⟩
  rw [if_neg h6]
  refine BIf.eq (fun h7 => ?_) (fun h7 => ?_)
  · rw [if_pos h7]
    refine ⟨t, h.cell 5 rfl rfl, by omega, by omega, q, hqa, _, h.rdR 0 rfl hqa hx rfl, BIf.ne (fun hs => ?_) (fun hs => ?_)⟩
    · rw [if_pos hs]
      refine retS h 5 3 2 rfl rfl rfl rfl rfl (by simp) (fun w2 h => ?_)
      exact ⟨t, l, rfl, (((h.dropAt 5).dropAt 4).dropAt 3).dropAt 2⟩
    rw [if_neg (by omega)]
    refine ⟨_, h.cell 5 rfl rfl, _, h.cell 5 rfl rfl, t, h.cell 5 rfl rfl, l, h.cell 5 rfl rfl, _, h.cell 5 rfl rfl, (s111 h hx ⟨hnow.2, by omega⟩ (by omega)).mono ?_⟩
    rintro _ w12 ⟨t', l', rfl, h⟩
    refine ⟨_, _, t', l', rfl, ?_⟩
    refine retR h 3 2 rfl rfl rfl rfl (by simp) (fun w2 h => ?_)
    exact ⟨t', l', rfl, (((h.dropAt 5).dropAt 4).dropAt 3).dropAt 2⟩
  rw [if_neg h7]
  refine ⟨_, h.cell 4 rfl rfl, ?_⟩
  refine join_or_ex _ (h.cell 4 rfl rfl) ?_
  refine BIf.of (fun hb => ?_) (fun hb => ?_)
  · simp only [Bool.or_eq_true, decide_eq_true_eq] at hb
    rw [if_pos hb]
    refine retS h 5 3 2 rfl rfl rfl rfl rfl (by simp) (fun w2 h => ?_)
    exact ⟨t, l, rfl, (((h.dropAt 5).dropAt 4).dropAt 3).dropAt 2⟩
  simp only [Bool.or_eq_false_iff, decide_eq_false_iff_not] at hb
  rw [if_neg (show ¬ (n < 0 ∨ n > 7) by omega)]
  refine ⟨t, h.cell 5 rfl rfl, _, h.cell 4 rfl rfl, by omega, by omega, q, hqa, ?_⟩
  rw [set_at hx] at h
  refine h.setR 0 (⟨x.Id, n, x.State, x.Line, x.Left, x.Since, x.Until, x.Wait⟩ : DThread) rfl hqa hil (by show 1 < 8; omega) rfl (fun w65 h nw65 => ?_)
  refine retS h 5 3 2 rfl rfl rfl rfl rfl (by simp) (fun w2 h => ?_)
  exact ⟨t, l, rfl, (((h.dropAt 5).dropAt 4).dropAt 3).dropAt 2⟩
end Go.Proofs.Yteigefjiifihpaa

/- The scheduler, the reference's side: SchedStep, SchedRun. Conditions: none. -/
set_option linter.unusedVariables false
set_option linter.unusedSimpArgs false
namespace Go.Proofs.Yteigefjiifihpaa
open Go Go.Den
/-- A state that is lent. -/
theorem s65 {w : World} {t l : Sl} {d : DSched} (hs : SAt w t l d) (hf : d.Threads.length ≤ 32 ∧ d.Locks.length ≤ 16) :
    CallW Try.prog 65 #[sAgg d.Now d.Seq t l] w (KS w [] d) := by
  refine go65 ?_
  unfold W65
  have htl := hs.tl
  have hll := hs.ll
  have few := hs.few
  have h := SH.start w
  refine h.alloc (fun w1 h ew1 nw1 => ?_)
  refine h.alloc (fun w2 h ew2 nw2 => ?_)
  have h := h.drew
  generalize w1.heap.size = sb at *
  refine ⟨_, h.cell 1 rfl rfl, _, h.cell 1 rfl rfl, t, h.cell 1 rfl rfl, l, h.cell 1 rfl rfl, ?_⟩
  have fin : ∀ (l55 l65 : Sl) (w66 : World), SH w w66 ([RL l65 d.Locks, RT l55 d.Threads, aB sb (ZS.map Ce.v), aB w.heap.size ((sCells d.Now d.Seq t l).map Ce.v)]) → MayN w66 ⟨sb, 0, none⟩ 4 ∧ LetW (puts w66 ⟨sb, 0, none⟩ 0 [.int .i64 d.Now, .int .i64 d.Seq, .slice l55.a l55.len l55.cap, .slice l65.a l65.len l65.cap]) fun w69 => ∃ n70 : Int, w69.cell? ⟨sb, 0, none⟩ = some (.int .i64 n70) ∧ ∃ n71 : Int, w69.cell? ⟨sb, 1, none⟩ = some (.int .i64 n71) ∧ ∃ l72 : Sl, w69.cell? ⟨sb, 2, none⟩ = some (.slice l72.a l72.len l72.cap) ∧ ∃ l73 : Sl, w69.cell? ⟨sb, 3, none⟩ = some (.slice l73.a l73.len l73.cap) ∧ KS w [] d (.agg #[.int .i64 n70, .int .i64 n71, .slice l72.a l72.len l72.cap, .slice l73.a l73.len l73.cap]) w69 := by
    intro l55 l65 w66 h
    refine h.put 2 rfl rfl rfl (fun w69 h nw69 => ?_)
    exact ⟨_, h.cell 2 rfl rfl, _, h.cell 2 rfl rfl, l55, h.cell 2 rfl rfl, l65, h.cell 2 rfl rfl, l55, l65, rfl, ((h.dropAt 3).dropAt 2).front (n := 1) rfl⟩
  refine ⟨?_, ?_, trivial⟩
  · refine h.alloc (fun w31 h ew31 nw31 => ?_)
    refine ⟨⟨l, h.cell 2 rfl rfl, rfl⟩, ⟨t, h.cell 2 rfl rfl, rfl⟩, ⟨_, h.cell 2 rfl rfl, rfl⟩, ⟨_, h.cell 2 rfl rfl, rfl⟩, ?_, ?_, trivial⟩
    · have h := h.drop.nil (some ⟨w2.drew.heap.size, 0, none⟩) 8
      refine SH.appendR (f := DThread.cells) (l := []) (us := d.Threads) h (hs.ext h.ext).tr (by omega) (fun _ => rfl) rfl rfl (by decide) (by show (_ + _) * 64 ≤ _; simp; omega) plain_thr (fun l55 w56 h hl55 n56 => ?_)
      refine ⟨⟨l, h.cell 2 rfl rfl, rfl⟩, ⟨_, h.cell 2 rfl rfl, rfl⟩, ⟨_, h.cell 2 rfl rfl, rfl⟩, ?_, trivial⟩
      refine h.alloc (fun w60 h ew60 nw60 => ?_)
      refine ⟨⟨l, h.cell 3 rfl rfl, rfl⟩, ⟨t, h.cell 3 rfl rfl, rfl⟩, ⟨_, h.cell 3 rfl rfl, rfl⟩, ⟨_, h.cell 3 rfl rfl, rfl⟩, ?_, trivial⟩
      have h := h.drop.nil (some ⟨w56.heap.size, 0, none⟩) 2
      refine SH.appendR (f := DLock.cells) (l := []) (us := d.Locks) h (hs.ext h.ext).lr (by omega) (fun _ => rfl) rfl rfl (by decide) (by show (_ + _) * 16 ≤ _; simp; omega) plain_lck (fun l65 w66 h hl65 n66 => ?_)
      exact ⟨⟨_, h.cell 3 rfl rfl, rfl⟩, ⟨_, h.cell 3 rfl rfl, rfl⟩, fin _ _ _ h, trivial⟩
    · refine h.drop.alloc (fun w36 h ew36 nw36 => ?_)
      refine ⟨⟨l, h.cell 2 rfl rfl, rfl⟩, ⟨t, h.cell 2 rfl rfl, rfl⟩, ⟨_, h.cell 2 rfl rfl, rfl⟩, ⟨_, h.cell 2 rfl rfl, rfl⟩, ?_, trivial⟩
      have h := h.drop.nil (some ⟨w2.drew.heap.size, 0, none⟩) 8
      refine SH.appendR (f := DThread.cells) (l := []) (us := d.Threads) h (hs.ext h.ext).tr (by omega) (fun _ => rfl) rfl rfl (by decide) (by show (_ + _) * 64 ≤ _; simp; omega) plain_thr (fun l41 w42 h hl41 n42 => ?_)
      refine ⟨⟨l, h.cell 2 rfl rfl, rfl⟩, ⟨_, h.cell 2 rfl rfl, rfl⟩, ⟨_, h.cell 2 rfl rfl, rfl⟩, ?_, trivial⟩
      have h := SH.nil h (some ⟨w31.heap.size, 0, none⟩) 2
      refine SH.appendR (f := DLock.cells) (l := []) (us := d.Locks) h (hs.ext h.ext).lr (by omega) (fun _ => rfl) rfl rfl (by decide) (by show (_ + _) * 16 ≤ _; simp; omega) plain_lck (fun l46 w47 h hl46 n47 => ?_)
      exact ⟨⟨_, h.cell 3 rfl rfl, rfl⟩, ⟨_, h.cell 3 rfl rfl, rfl⟩, fin _ _ _ h, trivial⟩
  · refine h.alloc (fun w7 h ew7 nw7 => ?_)
    refine ⟨⟨l, h.cell 2 rfl rfl, rfl⟩, ⟨t, h.cell 2 rfl rfl, rfl⟩, ⟨_, h.cell 2 rfl rfl, rfl⟩, ⟨_, h.cell 2 rfl rfl, rfl⟩, ?_, trivial⟩
    refine h.drop.alloc (fun w12 h ew12 nw12 => ?_)
    refine ⟨⟨l, h.cell 2 rfl rfl, rfl⟩, ⟨t, h.cell 2 rfl rfl, rfl⟩, ⟨_, h.cell 2 rfl rfl, rfl⟩, ⟨_, h.cell 2 rfl rfl, rfl⟩, ?_, trivial⟩
    have h := h.drop.nil (some ⟨w7.heap.size, 0, none⟩) 8
    refine SH.appendR (f := DThread.cells) (l := []) (us := d.Threads) h (hs.ext h.ext).tr (by omega) (fun _ => rfl) rfl rfl (by decide) (by show (_ + _) * 64 ≤ _; simp; omega) plain_thr (fun l17 w18 h hl17 n18 => ?_)
    refine ⟨⟨l, h.cell 2 rfl rfl, rfl⟩, ⟨_, h.cell 2 rfl rfl, rfl⟩, ⟨_, h.cell 2 rfl rfl, rfl⟩, ?_, trivial⟩
    have h := SH.nil h (some ⟨w2.drew.heap.size, 0, none⟩) 2
    refine SH.appendR (f := DLock.cells) (l := []) (us := d.Locks) h (hs.ext h.ext).lr (by omega) (fun _ => rfl) rfl rfl (by decide) (by show (_ + _) * 16 ≤ _; simp; omega) plain_lck (fun l22 w23 h hl22 n23 => ?_)
    exact ⟨⟨_, h.cell 3 rfl rfl, rfl⟩, ⟨_, h.cell 3 rfl rfl, rfl⟩, fin _ _ _ h, trivial⟩
open Classical in
noncomputable def stepR (d : DSched) (kind id n : Int) : DSched × Int × Int := if SOk d then stepF d kind id n else (⟨0, 0, [], []⟩, 0, 0)
theorem s21 {w : World} {t l : Sl} {d : DSched} {kind id n : Int} (hs : SAt w t l d) :
    CallW Try.prog 21 #[sAgg d.Now d.Seq t l, .agg #[.int .i64 kind, .int .i64 id, .int .i64 n]] w (KR w [] (stepR d kind id n)) := by
  refine go21 ?_
  unfold W21
  have h := SH.start w
  refine h.alloc (fun w1 h ew1 nw1 => ?_)
  refine h.alloc (fun w2 h ew2 nw2 => ?_)
  refine h.alloc (fun w3 h ew3 nw3 => ?_)
  refine h.alloc (fun w4 h ew4 nw4 => ?_)
  have h : SH w w4 [aB w3.heap.size (ZR.map Ce.v), aB w2.heap.size (ZS.map Ce.v), aB w1.heap.size ((opV kind id n).map Ce.v), aB w.heap.size ((sCells d.Now d.Seq t l).map Ce.v)] := h
  generalize w3.heap.size = rb at *
  generalize w2.heap.size = sb at *
  generalize w1.heap.size = ob at *
  refine ⟨_, h.cell 3 rfl rfl, _, h.cell 3 rfl rfl, t, h.cell 3 rfl rfl, l, h.cell 3 rfl rfl, (c31 (hs.ext h.ext)).mono ?_⟩
  rintro _ w10 ⟨b, rfl, hiff, e10⟩
  have h := h.to e10
  refine ⟨_, rfl, BIf.of (fun hn => ?_) (fun hy => ?_)⟩
  · have hno : ¬ SOk d := fun hh => by rw [hiff.2 hh] at hn; cases hn
    refine retR (t := ⟨none, 0, 0⟩) (l := ⟨none, 0, 0⟩) h 1 0 rfl rfl rfl rfl (by simp) (fun w2 h => ?_)
    unfold stepR
    rw [if_neg hno]
    exact ⟨⟨none, 0, 0⟩, ⟨none, 0, 0⟩, rfl, SH.nil (SH.nil (SH.start w |>.to h.ext) none 2) none 8⟩
  · have hok : SOk d := hiff.1 (by simpa using hy)
    obtain ⟨hi, hnow, hseq⟩ := sok_iff.1 hok
    have h := h.drew
    refine ⟨_, h.cell 3 rfl rfl, _, h.cell 3 rfl rfl, t, h.cell 3 rfl rfl, l, h.cell 3 rfl rfl, _, h.cell 2 rfl rfl, _, h.cell 2 rfl rfl, _, h.cell 2 rfl rfl, (s65 (hs.ext h.ext) hi.few).mono ?_⟩
    rintro _ w28 ⟨t', l', rfl, g⟩
    have h := h.seq g
    refine ⟨_, _, t', l', rfl, ⟨_, h.cell 4 rfl rfl, _, h.cell 4 rfl rfl, _, h.cell 4 rfl rfl, rfl⟩, (s61 h hi hnow (by omega)).mono ?_⟩
    rintro _ w37 ⟨t2, l2, rfl, h⟩
    refine ⟨_, _, t2, l2, _, _, rfl, ?_⟩
    refine retR h 3 2 rfl rfl rfl rfl (by simp) (fun w2 h => ?_)
    unfold stepR
    rw [if_pos hok]
    exact ⟨t2, l2, rfl, (((h.dropAt 5).dropAt 4).dropAt 3).dropAt 2⟩
/-! ## SchedRun -/
end Go.Proofs.Yteigefjiifihpaa

/- The scheduler, the program's side: stand, a lock handed on. Conditions: none. -/
set_option linter.unusedVariables false
set_option linter.unusedSimpArgs false
namespace Go.Proofs.Yteigefjiifihpaa
open Go Go.Den
abbrev PB (b : Nat) (d : DSched) (t l : Sl) : Asr := aB b ((sCells d.Now d.Seq t l).map Ce.v)
theorem patOf {w0 w : World} {As : List Asr} (h : SH w0 w As) (n : Nat) {b : Nat} {d : DSched} {t l : Sl} (hA : As[n]? = some (PB b d t l)) : PAt w ⟨b, 0, none⟩ d.Now d.Seq t l := fun j v hj => h.cellP n hA (by rw [List.getElem?_map, hj]; rfl)
theorem s115 {w0 w : World} {F : List Asr} {b : Nat} {t l : Sl} {d : DSched} {i : Nat} {x : DThread} {q : Addr} (h : SH w0 w (PB b d t l :: RT t d.Threads :: RL l d.Locks :: F)) (hx : d.Threads[i]? = some x) (hqa : t.a = some q) (hq : 0 ≤ d.Seq ∧ d.Seq ≤ 4398046511104) :
    CallW Try.prog 115 #[.pointer (some ⟨b, 0, none⟩), .pointer (some (q.add (i * 8)))] w (fun v w' => v = .tuple #[] ∧ SH w0 w' (PB b (standF d i d.Now) t l :: RT t (standF d i d.Now).Threads :: RL l (standF d i d.Now).Locks :: F)) := by
  refine go115 ?_
  unfold W115
  have hil := (List.getElem?_eq_some_iff.1 hx).1
  rw [standF_at hx]
  refine ⟨_, rfl, _, h.cellP 0 rfl rfl, _, rfl, ?_⟩
  rw [w64 (n := d.Seq + 1) (by omega) (by omega)]
  refine h.setVP 0 rfl rfl (fun w4 h nw4 => ?_)
  have h := h.drew
  refine ⟨_, rfl, _, h.cellP 0 rfl rfl, _, rfl, _, h.cellP 0 rfl rfl, _, rfl, ?_⟩
  rw [set_at hx] at h
  refine h.setR 1 (⟨x.Id, x.Base, 1, x.Line, x.Left, x.Since, x.Until, x.Wait⟩ : DThread) rfl hqa hil (by show 2 < 8; omega) rfl (fun w10 h nw10 => ⟨_, rfl, ?_⟩)
  refine h.setR 1 (⟨x.Id, x.Base, 1, d.Seq + 1, x.Left, x.Since, x.Until, x.Wait⟩ : DThread) rfl hqa hil (by show 3 < 8; omega) rfl (fun w12 h nw12 => ⟨_, rfl, ?_⟩)
  refine h.setR 1 (⟨x.Id, x.Base, 1, d.Seq + 1, 4, x.Since, x.Until, x.Wait⟩ : DThread) rfl hqa hil (by show 4 < 8; omega) rfl (fun w14 h nw14 => ⟨_, rfl, ?_⟩)
  refine h.setR 1 (⟨x.Id, x.Base, 1, d.Seq + 1, 4, d.Now, x.Until, x.Wait⟩ : DThread) rfl hqa hil (by show 5 < 8; omega) rfl (fun w16 h nw16 => ⟨_, rfl, ?_⟩)
  refine h.setR 1 (⟨x.Id, x.Base, 1, d.Seq + 1, 4, d.Now, x.Until, -1⟩ : DThread) rfl hqa hil (by show 7 < 8; omega) rfl (fun w18 h nw18 => ⟨_, rfl, ?_⟩)
  refine h.setR 1 (⟨x.Id, x.Base, 1, d.Seq + 1, 4, d.Now, 0, -1⟩ : DThread) rfl hqa hil (by show 6 < 8; omega) rfl (fun w20 h nw20 => ?_)
  exact ⟨rfl, h⟩
theorem c150 {p c : Addr} {x : DThread} {id : Int} {w : World} (hc : ∀ j v, x.cells[j]? = some v → w.cell? (p.add j) = some v) (hid : w.cell? c = some (.int .i64 id)) : CallW Try.prog 150 #[.pointer (some p), .pointer (some c)] w (fun v w' => v = .bool (waitsFor id x) ∧ Ext w w') := by
  refine go150 ?_
  unfold W150
  have e := ext_drew w
  refine ⟨p, rfl, _, e.cell (hc 2 _ rfl), BIf.of (fun hs => ⟨p, rfl, _, e.cell (hc 7 _ rfl), _, e.cell hid, ?_, e⟩) (fun hs => ⟨?_, e⟩)⟩
  · unfold waitsFor; rw [hs]; rfl
  · unfold waitsFor; rw [hs]; rfl
theorem s116 {w0 w : World} {F : List Asr} {b : Nat} {t l : Sl} {d : DSched} {id : Int} {k : DLock} (h : SH w0 w (PB b d t l :: RT t d.Threads :: RL l d.Locks :: F)) (hm : Mid d) (hs : Srt DLock.Id d.Locks) (hk : k ∈ d.Locks) (hid : k.Id = id) (hq : 0 ≤ d.Seq ∧ d.Seq ≤ 4398046511104) (hf : d.Threads.length ≤ 1048576 ∧ d.Locks.length ≤ 1048576) :
    CallW Try.prog 116 #[.pointer (some ⟨b, 0, none⟩), .int .i64 id] w (fun v w' => v = .tuple #[] ∧ ∃ l' : Sl, SH w0 w' (PB b (handF d id) t l' :: RT t (handF d id).Threads :: RL l' (handF d id).Locks :: F)) := by
  refine go116 ?_
  unfold W116
  have hll := h.len 2 rfl
  rw [recs_len] at hll
  refine h.alloc (fun w1 h ew1 nw1 => ?_)
  have hcap := h.cell 0 (i := 0) rfl rfl
  refine (c124 (f := 150) (fx := []) (fc := [.pointer (some ⟨w.heap.size, 0, none⟩)]) (ok := waitsFor id) hm (patOf h 1 rfl) (satOf h 2 3 rfl rfl hf) (fun x p w' e hc => c150 hc (e.cell hcap))).mono ?_
  rintro _ w3 ⟨rfl, e3, hrange⟩
  have h := h.to e3
  refine ⟨_, rfl, ?_⟩
  have hhf : handF d id = if bestF d (waitsFor id) < 0 then ⟨d.Now, d.Seq, d.Threads, d.Locks.filter (fun k => k.Id != id)⟩
    else match d.Threads[(bestF d (waitsFor id)).toNat]? with
      | some w => standF ⟨d.Now, d.Seq, d.Threads, d.Locks.set (idL d id).toNat ⟨id, w.Id⟩⟩ (bestF d (waitsFor id)).toNat d.Now
      | none => d := rfl
  rcases bestF_cases hm (waitsFor id) with ⟨h1, _⟩ | ⟨i, x, hx, _, h1⟩
  · rw [h1, if_pos (by omega)] at hhf
    rw [h1, ptr_none, hhf]
    refine BIf.t rfl ⟨_, rfl, l, h.cellP 1 rfl rfl, ?_⟩
    have h : SH w0 w3 (RL ⟨none, 0, 0⟩ ((d.Locks.take 0).filter (fun k => k.Id != id)) :: aB w.heap.size ([.int .i64 id].map Ce.v) :: PB b d t l :: RT t d.Threads :: RL l d.Locks :: F) := SH.nil h none 2
    refine LoopW.m2 (fun (s : Sl) (i : Int) w' => ∃ m : Nat, i = m ∧ m ≤ d.Locks.length ∧ SH w0 w' (RL s ((d.Locks.take m).filter (fun k => k.Id != id)) :: aB w.heap.size ([.int .i64 id].map Ce.v) :: PB b d t l :: RT t d.Threads :: RL l d.Locks :: F)) (fun _ (i : Int) _ => (d.Locks.length - i).toNat) ⟨0, rfl, by omega, h⟩ ?_
    clear h
    rintro (s : Sl) (i : Int) w10 ⟨m, rfl, hmm, h⟩ J hJ
    refine BIf.dec (fun hlt => ?_) (fun hge => ?_)
    · have hml : m < d.Locks.length := by omega
      have hget : d.Locks[m]? = some d.Locks[m] := List.getElem?_eq_getElem hml
      obtain ⟨r, hra⟩ := h.rowQ 4 rfl hget
      have hfs := filter_take_succ (fun k : DLock => k.Id != id) hget
      generalize d.Locks[m] = y at *
      simp only [Int.toNat_natCast]
      rw [w64 (n := (m : Int) + 1) (by omega) (by omega)]
      refine ⟨by omega, by omega, r, hra, _, h.rdR 4 rfl hra hget rfl, _, h.rdR 4 rfl hra hget rfl, ?_⟩
      refine h.alloc (fun w14 h ew14 nw14 => ?_)
      refine h.put 0 rfl rfl rfl (fun w15 h nw15 => ?_)
      refine ⟨_, h.cell 0 rfl rfl, _, h.cell 2 rfl rfl, BIf.of (fun hc => ?_) (fun hc => ?_)⟩
      · refine ⟨_, h.cell 0 rfl rfl, _, h.cell 0 rfl rfl, ?_⟩
        have hlen := List.length_filter_le (fun k : DLock => k.Id != id) (d.Locks.take m)
        rw [List.length_take] at hlen
        refine LetW_iff.2 (SH.appendR1 (f := DLock.cells) (x := y) h.drop rfl rfl rfl (by decide) (by show _ * 16 ≤ _; omega) (plain_lck _) (fun l28 w29 h hl28 _ => ?_))
        rw [if_pos hc] at hfs
        exact hJ _ _ _ ⟨m + 1, by omega, by omega, by rw [hfs]; exact h⟩ (by omega)
      · rw [if_neg (by rw [hc]; simp), List.append_nil] at hfs
        exact hJ _ _ _ ⟨m + 1, by omega, by omega, by rw [hfs]; exact h.drop⟩ (by omega)
    · rw [show m = d.Locks.length by omega, List.take_length] at h
      refine ⟨_, rfl, ?_⟩
      refine h.setVP 2 rfl rfl (fun w24 h nw24 => ?_)
      exact ⟨rfl, s, ((h.dropAt 4).dropAt 1).p2.p2⟩
  · rw [h1, if_neg (by omega), Int.toNat_natCast, hx] at hhf
    simp only at hhf
    obtain ⟨j, hj, hjk⟩ := idL_at hm.findL hk hid
    have hjl := (List.getElem?_eq_some_iff.1 hjk).1
    rw [hj, Int.toNat_natCast] at hhf
    obtain ⟨q, hqa⟩ := h.rowQ 2 rfl hx
    obtain ⟨r, hra⟩ := h.rowQ 3 rfl hjk
    rw [h1, ptr_some hqa, hhf]
    have h := h.drew
    refine BIf.f rfl ⟨_, h.cell 0 rfl rfl, _, rfl, _, h.rdR 2 rfl hqa hx rfl, (c83 (patOf h 1 rfl) (satOf h 2 3 rfl rfl hf)).mono ?_⟩
    rintro _ w29 ⟨rfl, rfl⟩
    rw [hj, ptr_some hra]
    refine ⟨_, rfl, ⟨_, h.rdR 2 rfl hqa hx rfl, rfl⟩, _, rfl, ?_⟩
    rw [set_at hjk] at h
    refine h.setR 3 (⟨id, x.Id⟩ : DLock) rfl hra hjl (by show 1 < 2; omega) (by show [Value.int .i64 id, .int .i64 x.Id] = [Value.int .i64 k.Id, .int .i64 x.Id]; rw [hid]) (fun w33 h nw33 => ?_)
    refine (s115 (d := ⟨d.Now, d.Seq, d.Threads, d.Locks.set j ⟨id, x.Id⟩⟩) h.drop hx hqa hq).mono ?_
    rintro _ w35 ⟨rfl, h⟩
    exact ⟨rfl, rfl, l, h⟩
theorem c114 {n : Int} {w : World} : CallW Try.prog 114 #[.int .i64 n] w (fun v w' => v = .agg #[.int .i64 n, .int .i64 0] ∧ Ext w w') := by
  refine go114 ?_
  unfold W114
  have h := SH.start w
  refine h.alloc (fun w1 h ew1 nw1 => ?_)
  refine h.put 0 rfl rfl rfl (fun w2 h nw2 => ?_)
  exact ⟨_, h.cell 0 rfl rfl, _, h.cell 0 rfl rfl, rfl, h.ext⟩
end Go.Proofs.Yteigefjiifihpaa

/- The scheduler, the program's side: an operation on a state at an address. Conditions: none. -/
set_option linter.unusedVariables false
set_option linter.unusedSimpArgs false
namespace Go.Proofs.Yteigefjiifihpaa
open Go Go.Den
theorem retV {w0 w : World} {As : List Asr} (h : SH w0 w As) (j : Nat) {c : Nat} {us : List Value} {x y : Int} {K : Value → World → Prop} (hc : As[j]? = some (aB c (us.map Ce.v))) (hu : us.length = 2)
    (hk : ∀ w2, SH w0 w2 (As.set j (aB c ((rsV x y).map Ce.v))) → K (.agg #[.int .i64 x, .int .i64 y]) w2) :
    MayN w ⟨c, 0, none⟩ 2 ∧ LetW (Den.puts w ⟨c, 0, none⟩ 0 [.int .i64 x, .int .i64 y]) fun w14 => ∃ n19 : Int, w14.cell? ⟨c, 0, none⟩ = some (.int .i64 n19) ∧ ∃ n20 : Int, w14.cell? ⟨c, 1, none⟩ = some (.int .i64 n20) ∧ K (.agg #[.int .i64 n19, .int .i64 n20]) w14 := by
  refine h.put j hc rfl hu (fun w14 h nw => ?_)
  have hj := (List.getElem?_eq_some_iff.1 hc).1
  have g2 : (As.set j (aB c ((rsV x y).map Ce.v)))[j]? = some (aB c ((rsV x y).map Ce.v)) := List.getElem?_set_self hj
  exact ⟨x, h.cell j g2 rfl, y, h.cell j g2 rfl, hk _ h⟩
theorem retC {w0 w : World} {As : List Asr} (h : SH w0 w As) (j : Nat) {c : Nat} {us : List Value} {n : Int} {K : Value → World → Prop} (hc : As[j]? = some (aB c (us.map Ce.v))) (hu : us.length = 2)
    (hk : ∀ w2, SH w0 w2 (As.set j (aB c ((rsV n 0).map Ce.v))) → K (.agg #[.int .i64 n, .int .i64 0]) w2) :
    CallW Try.prog 114 #[.int .i64 n] w fun v7 w8 => ∃ n9 : Int, ∃ n10 : Int, v7 = .agg #[.int .i64 n9, .int .i64 n10] ∧ MayN w8 ⟨c, 0, none⟩ 2 ∧ LetW (Den.puts w8 ⟨c, 0, none⟩ 0 [.int .i64 n9, .int .i64 n10]) fun w14 => ∃ n19 : Int, w14.cell? ⟨c, 0, none⟩ = some (.int .i64 n19) ∧ ∃ n20 : Int, w14.cell? ⟨c, 1, none⟩ = some (.int .i64 n20) ∧ K (.agg #[.int .i64 n19, .int .i64 n20]) w14 := by
  refine c114.mono ?_
  rintro _ w8 ⟨rfl, e⟩
  exact ⟨_, _, rfl, retV (h.to e) j hc hu hk⟩
def KP (w0 : World) (F : List Asr) (b : Nat) (r : DSched × Int × Int) (v : Value) (w' : World) : Prop := ∃ t l : Sl, v = .agg #[.int .i64 r.2.1, .int .i64 r.2.2] ∧ SH w0 w' (PB b r.1 t l :: RT t r.1.Threads :: RL l r.1.Locks :: F)
theorem s68 {w0 w : World} {F : List Asr} {b : Nat} {t l : Sl} {d : DSched} {kind id n : Int} (h : SH w0 w (PB b d t l :: RT t d.Threads :: RL l d.Locks :: F)) (hi : Inv0 d) (hn : d.Now ≤ 1099511627776) (hq : d.Seq ≤ 2199023255552) :
    CallW Try.prog 68 #[.pointer (some ⟨b, 0, none⟩), .agg #[.int .i64 kind, .int .i64 id, .int .i64 n]] w (KP w0 F b (stepF d kind id n)) := by
  refine go68 ?_
  unfold W68
  have hf := hi.few
  have hnow := hi.now
  have hm := hi.mid hn
  have htl := h.len 1 rfl
  rw [recs_len] at htl
  have htc := h.lenCap 1 rfl
  have hll := h.len 2 rfl
  rw [recs_len] at hll
  have hlc := h.lenCap 2 rfl
  refine h.alloc (fun w1 h ew1 nw1 => ?_)
  refine h.alloc (fun w2 h ew2 nw2 => ?_)
  have h : SH w0 w2 (PB b d t l :: RT t d.Threads :: RL l d.Locks :: aB w1.heap.size (ZR.map Ce.v) :: aB w.heap.size ((opV kind id n).map Ce.v) :: F) := ((h.front (n := 4) rfl).front (n := 4) rfl).front (n := 4) rfl
  generalize w1.heap.size = rb at *
  generalize w.heap.size = ob at *
  refine ⟨_, h.cell 4 rfl rfl, ?_⟩
  refine join_or_ex _ (h.cell 4 rfl rfl) ?_
  refine BIf.of (fun hb => ?_) (fun hb => ?_)
  · simp only [Bool.or_eq_true, decide_eq_true_eq] at hb
    have hr : stepF d kind id n = (d, 1, 0) := by unfold stepF; rw [if_neg (by omega), if_neg (by omega), if_pos hb]
    rw [hr]
    refine retC h 3 rfl rfl (fun w2 h => ?_)
    exact ⟨t, l, rfl, (h.dropAt 4).dropAt 3⟩
  simp only [Bool.or_eq_false_iff, decide_eq_false_iff_not] at hb
  have hb' : ¬ (kind < 1 ∨ kind > 8) := by omega
  refine ⟨_, h.cell 4 rfl rfl, BIf.eq (fun h1 => ?_) (fun h1 => ?_)⟩
  · -- spawn
    have hr : stepF d kind id n = spawnR d n := by unfold stepF spawnR; rw [if_pos h1]
    rw [hr]
    refine ⟨_, h.cell 4 rfl rfl, ?_⟩
    refine join_or_ex _ (h.cell 4 rfl rfl) ?_
    unfold spawnR
    refine BIf.of (fun hb => ?_) (fun hb => ?_)
    · simp only [Bool.or_eq_true, decide_eq_true_eq] at hb
      rw [if_pos hb]
      refine retC h 3 rfl rfl (fun w2 h => ?_)
      exact ⟨t, l, rfl, (h.dropAt 4).dropAt 3⟩
    simp only [Bool.or_eq_false_iff, decide_eq_false_iff_not] at hb
    rw [if_neg (show ¬ (n < 0 ∨ n > 7) by omega)]
    refine ⟨_, rfl, t, h.cellP 0 rfl rfl, BIf.eq (fun h32 => ?_) (fun h32 => ?_)⟩
    · rw [if_pos (by omega)]
      refine retC h 3 rfl rfl (fun w2 h => ?_)
      exact ⟨t, l, rfl, (h.dropAt 4).dropAt 3⟩
    rw [if_neg (by omega)]
    obtain ⟨g1, g2, g3⟩ := gap_spec hi
    refine LoopW.m1 (fun (i : Int) w' => ∃ m : Nat, i = m ∧ m ≤ gapL d.Threads 0 ∧ SH w0 w' (PB b d t l :: RT t d.Threads :: RL l d.Locks :: aB rb (ZR.map Ce.v) :: aB ob ((opV kind id n).map Ce.v) :: F)) (fun (i : Int) _ => (32 - i).toNat) ⟨0, rfl, Nat.zero_le _, h⟩ ?_
    clear h
    rintro (i : Int) w37 ⟨m, rfl, hmg, h⟩ J hJ
    refine ⟨_, rfl, t, h.cellP 0 rfl rfl, ?_⟩
    refine JoinW.cut1 (fun (c : Bool) w' => c = decide (m < gapL d.Threads 0) ∧ SH w0 w' (PB b d t l :: RT t d.Threads :: RL l d.Locks :: aB rb (ZR.map Ce.v) :: aB ob ((opV kind id n).map Ce.v) :: F)) ?_ ?_
    · refine BIf.dec (fun hlt => ?_) (fun hge => ⟨(decide_eq_false (by omega)).symm, h⟩)
      have hml : m < d.Threads.length := by omega
      have hget : d.Threads[m]? = some d.Threads[m] := List.getElem?_eq_getElem hml
      obtain ⟨q, hqa⟩ := h.rowQ 1 rfl hget
      simp only [Int.toNat_natCast]
      refine ⟨_, rfl, t, h.cellP 0 rfl rfl, by omega, by omega, q, hqa, _, h.rdR 1 rfl hqa hget rfl, ?_, h⟩
      by_cases hmg2 : m < gapL d.Threads 0
      · rw [decide_eq_true hmg2, g2 m _ hmg2 hget]; simp
      · have := g3 m _ (by omega) hget
        rw [decide_eq_false hmg2]
        simp; omega
    rintro (c : Bool) w42 ⟨rfl, h⟩
    refine BIf.dec (fun hc => ?_) (fun hc => ?_)
    · rw [w64 (by omega) (by omega)]
      exact hJ _ _ ⟨m + 1, by omega, by omega, h⟩ (by omega)
    obtain rfl : m = gapL d.Threads 0 := by omega
    have hst0 : spawnF d n = ⟨d.Now, d.Seq + 1, d.Threads.take (gapL d.Threads 0) ++ ⟨(gapL d.Threads 0 : Nat), n, 1, d.Seq + 1, 4, d.Now, 0, -1⟩ :: d.Threads.drop (gapL d.Threads 0), d.Locks⟩ := rfl
    generalize hgn : gapL d.Threads 0 = m at *
    simp only [Int.toNat_natCast]
    refine ⟨_, rfl, t, h.cellP 0 rfl rfl, by omega, by omega, ?_⟩
    have hrow := h.rowR 1 rfl
    have h := SH.nil h none 8
    refine SH.appendR (f := DThread.cells) (l := []) (us := d.Threads.take m) h (hrow.pre (fun _ => rfl) (by omega)) (by simp; omega) (fun _ => rfl) rfl rfl (by decide) (by show (_ + _) * 64 ≤ _; simp; omega) plain_thr (fun l45 w46 h hl45 _ => ?_)
    have h := h.drew
    refine ⟨_, h.cell 5 rfl rfl, _, rfl, t, h.cellP 1 rfl rfl, by omega, by omega, ?_⟩
    refine LetW_iff.2 ?_
    have hx0 : ([] ++ d.Threads.take m ++ [(⟨m, n, 0, 0, 0, 0, 0, 0⟩ : DThread)] ++ d.Threads.drop m)[m]? = some ⟨m, n, 0, 0, 0, 0, 0, 0⟩ := by
      rw [List.nil_append, List.append_assoc, List.getElem?_append_right (by rw [List.length_take]; omega)]
      simp [Nat.min_eq_left g1]
    have hfact := (h.to (ext_alloc w46.drew (.cells #[.int .i64 (m : Int), .int .i64 n, .int .i64 0, .int .i64 0, .int .i64 0, .int .i64 0, .int .i64 0, .int .i64 0] 61))).cellP 1 (i := 2) rfl rfl
    refine ⟨⟨t, hfact, rfl⟩, ?_⟩
    refine SH.appendR1 (f := DThread.cells) (x := ⟨m, n, 0, 0, 0, 0, 0, 0⟩) h rfl rfl rfl (by decide) (by show _ * 64 ≤ _; simp; omega) (plain_thr _) (fun l52 w53 h hl52 _ => ?_)
    refine ⟨⟨t, h.cellP 1 rfl rfl, rfl⟩, ?_⟩
    have hrow := h.rowR 2 rfl
    refine SH.appendR (f := DThread.cells) (us := d.Threads.drop m) h (hrow.suf (fun _ => rfl) htl htc (by omega)) (by simp; omega) (fun _ => rfl) rfl rfl (by decide) (by show (_ + _) * 64 ≤ _; simp; omega) plain_thr (fun l55 w56 h hl55 _ => ?_)
    refine ⟨_, rfl, ?_⟩
    refine h.setVP 1 rfl rfl (fun w58 h nw58 => ?_)
    obtain ⟨q, hqa⟩ := h.rowQ 0 rfl hx0
    have hl55' : l55.len = ([] ++ d.Threads.take m ++ [(⟨m, n, 0, 0, 0, 0, 0, 0⟩ : DThread)] ++ d.Threads.drop m).length := by have := h.len 0 rfl; rwa [recs_len] at this
    have hxl := (List.getElem?_eq_some_iff.1 hx0).1
    refine ⟨_, rfl, l55, h.cellP 1 rfl rfl, by omega, by omega, q, hqa, ?_⟩
    have h : SH w0 w58 (PB b ⟨d.Now, d.Seq, [] ++ d.Threads.take m ++ [⟨m, n, 0, 0, 0, 0, 0, 0⟩] ++ d.Threads.drop m, d.Locks⟩ l55 l :: RT l55 ([] ++ d.Threads.take m ++ [⟨m, n, 0, 0, 0, 0, 0, 0⟩] ++ d.Threads.drop m) :: RL l d.Locks :: aB rb (ZR.map Ce.v) :: aB ob ((opV kind id n).map Ce.v) :: F) := (h.dropAt 2).front (n := 1) rfl
    refine (s115 (d := ⟨d.Now, d.Seq, [] ++ d.Threads.take m ++ [⟨m, n, 0, 0, 0, 0, 0, 0⟩] ++ d.Threads.drop m, d.Locks⟩) h hx0 hqa ⟨hnow.2, by show d.Seq ≤ _; omega⟩).mono ?_
    rintro _ w63 ⟨rfl, h⟩
    have hst : standF ⟨d.Now, d.Seq, [] ++ d.Threads.take m ++ [⟨m, n, 0, 0, 0, 0, 0, 0⟩] ++ d.Threads.drop m, d.Locks⟩ m d.Now = spawnF d n := by
      rw [standF_at hx0, hst0]
      congr 1
      rw [List.nil_append, List.append_assoc, List.set_append_right _ _ (by rw [List.length_take]; omega)]
      simp [Nat.min_eq_left g1, standT]
    have h : SH w0 w63 (PB b (spawnF d n) l55 l :: RT l55 (spawnF d n).Threads :: RL l (spawnF d n).Locks :: aB rb (ZR.map Ce.v) :: aB ob ((opV kind id n).map Ce.v) :: F) := by rw [← hst]; exact h
    refine ⟨rfl, ?_⟩
    refine retV h 3 rfl rfl (fun w2 h => ?_)
    exact ⟨l55, l, rfl, (h.dropAt 4).dropAt 3⟩
  refine BIf.eq (fun h3 => ?_) (fun h3 => ?_)
  · -- tick
    have hr : stepF d kind id n = (laterF (tickM (wakeF d 0 d.Threads.length)).1, 0, (tickM (wakeF d 0 d.Threads.length)).2) := by unfold stepF; rw [if_neg h1, if_pos h3, tickF_M]
    rw [hr]
    refine ⟨_, rfl, t, h.cellP 0 rfl rfl, ?_⟩
    refine LoopW.m1 (fun (i : Int) w' => ∃ (m : Nat) (e : DSched), i = m ∧ m ≤ d.Threads.length ∧ wakeF e m (d.Threads.length - m) = wakeF d 0 d.Threads.length ∧ Inv0 e ∧ e.Now = d.Now ∧ e.Seq ≤ d.Seq + m ∧ e.Threads.length = d.Threads.length ∧ e.Locks.length = d.Locks.length ∧ SH w0 w' (PB b e t l :: RT t e.Threads :: RL l e.Locks :: aB rb (ZR.map Ce.v) :: aB ob ((opV kind id n).map Ce.v) :: F)) (fun (i : Int) _ => (d.Threads.length - i).toNat) ⟨0, d, rfl, Nat.zero_le _, rfl, hi, rfl, by omega, rfl, rfl, h⟩ ?_
    clear h
    rintro (i : Int) w76 ⟨m, e, rfl, hml, hw, hie, hen, hes, hel, helk, h⟩ J hJ
    refine BIf.dec (fun hlt => ?_) (fun hge => ?_)
    · have hk : m < e.Threads.length := by omega
      have hget : e.Threads[m]? = some e.Threads[m] := List.getElem?_eq_getElem hk
      rw [show d.Threads.length - m = (d.Threads.length - (m + 1)) + 1 by omega, wakeF_step, hget] at hw
      obtain ⟨q, hqa⟩ := h.rowQ 1 rfl hget
      generalize e.Threads[m] = x at *
      refine ⟨_, rfl, t, h.cellP 0 rfl rfl, by omega, by omega, q, hqa, ?_⟩
      have h := h.drew
      simp only [Int.toNat_natCast]
      rw [w64 (n := (m : Int) + 1) (by omega) (by omega)]
      refine JoinW.cut1 (fun (c : Bool) w' => c = decide (x.State = 3 ∧ x.Until ≤ e.Now) ∧ SH w0 w' (PB b e t l :: RT t e.Threads :: RL l e.Locks :: aB rb (ZR.map Ce.v) :: aB ob ((opV kind id n).map Ce.v) :: F)) ?_ ?_
      · refine ⟨_, rfl, _, h.rdR 1 rfl hqa hget rfl, BIf.eq (fun h3 => ?_) (fun h3 => ⟨(decide_eq_false (by rintro ⟨hh, _⟩; exact h3 hh)).symm, h⟩)⟩
        refine ⟨_, rfl, _, h.rdR 1 rfl hqa hget rfl, _, rfl, _, h.cellP 0 rfl rfl, ?_, h⟩
        rw [decide_eq_decide]
        exact ⟨fun hh => ⟨h3, hh⟩, fun hh => hh.2⟩
      rintro (c : Bool) w10 ⟨rfl, h⟩
      simp only at hw
      refine BIf.dec (fun hc => ?_) (fun hc => ?_)
      · rw [if_pos hc] at hw
        refine (s115 h hget hqa ⟨hie.now.2, by omega⟩).mono ?_
        rintro _ w84 ⟨rfl, h⟩
        refine ⟨rfl, ?_⟩
        obtain ⟨s1, s2, s3, s4, s5⟩ := standF_now e m e.Now
        exact hJ _ _ ⟨m + 1, _, by omega, by omega, hw, hie.stand hget, by omega, by omega, by omega, by rw [s4]; omega, h⟩ (by omega)
      · rw [if_neg hc] at hw
        exact hJ _ _ ⟨m + 1, _, by omega, by omega, hw, hie, hen, by omega, hel, helk, h⟩ (by omega)
    · have hwd : wakeF d 0 d.Threads.length = e := by rw [← hw, show d.Threads.length - m = 0 by omega]; rfl
      rw [hwd]
      have hm := hie.mid (by omega)
      refine JoinW.cut1 (fun (c : Int) w' => c = (tickM e).2 ∧ (tickM e).1.Now = d.Now ∧ SH w0 w' (PB b (tickM e).1 t l :: RT t (tickM e).1.Threads :: RL l (tickM e).1.Locks :: aB rb (ZR.map Ce.v) :: aB ob ((opV kind id n).map Ce.v) :: F)) ?_ ?_
      · refine (c89 hm (patOf h 0 rfl) (satOf h 1 2 rfl rfl ⟨by omega, by omega⟩)).mono ?_
        rintro _ w102 ⟨rfl, e102, _⟩
        have h := h.to e102
        refine ⟨_, rfl, ?_⟩
        rcases bestF_cases hm isReady with ⟨p1, _⟩ | ⟨j, x, p1, _, p2⟩
        · have htm : tickM e = (e, -1) := by unfold tickM; rw [p1, if_pos (by omega)]
          rw [show bestI e = -1 from p1, ptr_none, htm]
          exact BIf.f rfl ⟨rfl, hen, h⟩
        · have hxm := List.mem_of_getElem? p1
          have hxl := (hie.tok x hxm).left
          have hjl := (List.getElem?_eq_some_iff.1 p1).1
          obtain ⟨q, hqa⟩ := h.rowQ 1 rfl p1
          have htm : tickM e = (if x.Left - 1 = 0 then standF e j (e.Now + 1) else ⟨e.Now, e.Seq, e.Threads.set j ⟨x.Id, x.Base, x.State, x.Line, x.Left - 1, e.Now + 1, x.Until, x.Wait⟩, e.Locks⟩, x.Id) := by
            unfold tickM
            rw [p2, if_neg (by omega), Int.toNat_natCast]
            simp only [p1]
          rw [show bestI e = (j : Int) from p2, ptr_some hqa, htm]
          refine BIf.t rfl ⟨_, rfl, _, h.rdR 1 rfl hqa p1 rfl, _, rfl, _, h.rdR 1 rfl hqa p1 rfl, _, rfl, ?_⟩
          rw [w64 (n := x.Left - 1) (by omega) (by omega)]
          rw [set_at p1] at h
          refine h.setR 1 (⟨x.Id, x.Base, x.State, x.Line, x.Left - 1, x.Since, x.Until, x.Wait⟩ : DThread) rfl hqa hjl (by show 4 < 8; omega) rfl (fun w109 h nw109 => ?_)
          have hy : (e.Threads.set j ⟨x.Id, x.Base, x.State, x.Line, x.Left - 1, x.Since, x.Until, x.Wait⟩)[j]? = some ⟨x.Id, x.Base, x.State, x.Line, x.Left - 1, x.Since, x.Until, x.Wait⟩ := List.getElem?_set_self hjl
          refine JoinW.cut0 (fun w' => ∃ (y : DThread) (sq : Int), (if x.Left - 1 = 0 then standF e j (e.Now + 1) else ⟨e.Now, e.Seq, e.Threads.set j ⟨x.Id, x.Base, x.State, x.Line, x.Left - 1, e.Now + 1, x.Until, x.Wait⟩, e.Locks⟩) = (⟨e.Now, sq, e.Threads.set j ⟨y.Id, y.Base, y.State, y.Line, y.Left, e.Now + 1, y.Until, y.Wait⟩, e.Locks⟩ : DSched) ∧ SH w0 w' (PB b ⟨e.Now, sq, e.Threads.set j y, e.Locks⟩ t l :: RT t (e.Threads.set j y) :: RL l e.Locks :: aB rb (ZR.map Ce.v) :: aB ob ((opV kind id n).map Ce.v) :: F)) ?_ ?_
          · refine ⟨_, rfl, _, h.rdR 1 rfl hqa hy rfl, BIf.eq (fun h0 => ?_) (fun h0 => ?_)⟩
            · refine (s115 (d := ⟨e.Now, e.Seq, e.Threads.set j ⟨x.Id, x.Base, x.State, x.Line, x.Left - 1, x.Since, x.Until, x.Wait⟩, e.Locks⟩) h hy hqa ⟨hie.now.2, by show e.Seq ≤ _; omega⟩).mono ?_
              rintro _ w119 ⟨rfl, h⟩
              refine ⟨rfl, standT e e.Now x, e.Seq + 1, ?_, ?_⟩
              · rw [if_pos h0, standF_at p1]; rfl
              · rw [standF_at hy] at h
                simp only [List.set_set] at h
                exact h
            · refine ⟨⟨x.Id, x.Base, x.State, x.Line, x.Left - 1, x.Since, x.Until, x.Wait⟩, e.Seq, ?_, h⟩
              rw [if_neg h0]
          · rintro w111 ⟨y, sq, hyq, h⟩
            refine ⟨_, rfl, _, h.cellP 0 rfl rfl, _, rfl, ?_⟩
            rw [w64 (n := e.Now + 1) (by omega) (by omega)]
            refine h.setR 1 (⟨y.Id, y.Base, y.State, y.Line, y.Left, e.Now + 1, y.Until, y.Wait⟩ : DThread) rfl hqa hjl (by show 5 < 8; omega) rfl (fun w115 h nw115 => ?_)
            rw [hyq]
            exact ⟨rfl, hen, h⟩
      · rintro (c : Int) w93 ⟨rfl, hnw, h⟩
        refine ⟨_, rfl, _, h.cellP 0 rfl rfl, _, rfl, ?_⟩
        rw [w64 (n := (tickM e).1.Now + 1) (by omega) (by omega)]
        refine h.setVP 0 rfl rfl (fun w97 h nw97 => ?_)
        refine retV h 3 rfl rfl (fun w2 h => ?_)
        exact ⟨t, l, rfl, (h.dropAt 4).dropAt 3⟩
  refine ⟨_, h.cell 4 rfl rfl, (c84 (patOf h 0 rfl) (satOf h 1 2 rfl rfl ⟨by omega, by omega⟩)).mono ?_⟩
  rintro _ w122 ⟨rfl, rfl⟩
  refine ⟨_, rfl, ?_⟩
  rcases idT_find d id with ⟨hid, hno⟩ | ⟨i, x, hid, hx, hxo⟩
  · have hr : stepF d kind id n = (d, 3, 0) := by
      unfold stepF
      rw [if_neg h1, if_neg h3, if_neg hb', hid]
      split
      · rfl
      · rfl
    rw [hid, hr, ptr_none]
    refine BIf.t rfl ?_
    refine retC h 3 rfl rfl (fun w2 h => ?_)
    exact ⟨t, l, rfl, (h.dropAt 4).dropAt 3⟩
  have hxid := (thrOf_id hxo).1
  have hxm := List.mem_of_getElem? hx
  have hxt := hi.tok x hxm
  have hil := (List.getElem?_eq_some_iff.1 hx).1
  obtain ⟨q, hqa⟩ := h.rowQ 1 rfl hx
  rw [hid, ptr_some hqa, step_thr h1 h3 hb' hid hx]
  refine BIf.f rfl ?_
  refine JoinW.cut0 (fun w' => (thrF d i x kind id n).2 = (0, 0) ∧ ∃ t' l' : Sl, SH w0 w' (PB b (thrF d i x kind id n).1 t' l' :: RT t' (thrF d i x kind id n).1.Threads :: RL l' (thrF d i x kind id n).1.Locks :: aB rb (ZR.map Ce.v) :: aB ob ((opV kind id n).map Ce.v) :: F)) ?_ ?_
  · refine ⟨_, h.cell 4 rfl rfl, BIf.eq (fun h2 => ?_) (fun h2 => ?_)⟩
    · -- exit
      have hr : thrF d i x kind id n = (exitF d id, 0, 0) := by unfold thrF; rw [if_pos h2]
      rw [hr]
      refine ⟨_, rfl, t, h.cellP 0 rfl rfl, ?_⟩
      have h : SH w0 _ (RT ⟨none, 0, 0⟩ ((d.Threads.take 0).filter (fun k => k.Id != id)) :: PB b d t l :: RT t d.Threads :: RL l d.Locks :: aB rb (ZR.map Ce.v) :: aB ob ((opV kind id n).map Ce.v) :: F) := SH.nil h none 8
      refine LoopW.m2 (fun (s : Sl) (i : Int) w' => ∃ m : Nat, i = m ∧ m ≤ d.Threads.length ∧ SH w0 w' (RT s ((d.Threads.take m).filter (fun k => k.Id != id)) :: PB b d t l :: RT t d.Threads :: RL l d.Locks :: aB rb (ZR.map Ce.v) :: aB ob ((opV kind id n).map Ce.v) :: F)) (fun _ (i : Int) _ => (d.Threads.length - i).toNat) ⟨0, rfl, by omega, h⟩ ?_
      clear h
      rintro (s : Sl) (i : Int) w146 ⟨m, rfl, hmm, h⟩ J hJ
      refine BIf.dec (fun hlt => ?_) (fun hge => ?_)
      · have hml : m < d.Threads.length := by omega
        have hget : d.Threads[m]? = some d.Threads[m] := List.getElem?_eq_getElem hml
        have hfs := filter_take_succ (fun k : DThread => k.Id != id) hget
        generalize d.Threads[m] = y at *
        simp only [Int.toNat_natCast]
        rw [w64 (n := (m : Int) + 1) (by omega) (by omega)]
        refine ⟨by omega, by omega, q, hqa, ?_⟩
        refine ⟨_, h.rdR 2 rfl hqa hget rfl, _, h.rdR 2 rfl hqa hget rfl, _, h.rdR 2 rfl hqa hget rfl, _, h.rdR 2 rfl hqa hget rfl, _, h.rdR 2 rfl hqa hget rfl, _, h.rdR 2 rfl hqa hget rfl, _, h.rdR 2 rfl hqa hget rfl, _, h.rdR 2 rfl hqa hget rfl, ?_⟩
        refine h.alloc (fun w156 h ew156 nw156 => ?_)
        refine h.put 0 rfl rfl rfl (fun w157 h nw157 => ?_)
        refine ⟨_, h.cell 0 rfl rfl, _, h.cell 6 rfl rfl, BIf.of (fun hc => ?_) (fun hc => ?_)⟩
        · refine ⟨_, h.cell 0 rfl rfl, _, h.cell 0 rfl rfl, _, h.cell 0 rfl rfl, _, h.cell 0 rfl rfl, _, h.cell 0 rfl rfl, _, h.cell 0 rfl rfl, _, h.cell 0 rfl rfl, _, h.cell 0 rfl rfl, ?_⟩
          have hlen := List.length_filter_le (fun k : DThread => k.Id != id) (d.Threads.take m)
          rw [List.length_take] at hlen
          refine LetW_iff.2 (SH.appendR1 (f := DThread.cells) (x := y) h.drop rfl rfl rfl (by decide) (by show _ * 64 ≤ _; omega) (plain_thr _) (fun l28 w29 h hl28 _ => ?_))
          rw [if_pos hc] at hfs
          exact hJ _ _ _ ⟨m + 1, by omega, by omega, by rw [hfs]; exact h⟩ (by omega)
        · rw [if_neg (by rw [hc]; simp), List.append_nil] at hfs
          exact hJ _ _ _ ⟨m + 1, by omega, by omega, by rw [hfs]; exact h.drop⟩ (by omega)
      · rw [show m = d.Threads.length by omega, List.take_length] at h
        refine ⟨_, rfl, ?_⟩
        refine h.setVP 1 rfl rfl (fun w172 h nw172 => ?_)
        refine ⟨_, rfl, l, h.cellP 1 rfl rfl, ?_⟩
        have h : SH w0 w172 (PB b ⟨d.Now, d.Seq, d.Threads.filter (fun k => k.Id != id), d.Locks⟩ s l :: RT s (d.Threads.filter (fun k => k.Id != id)) :: RL l d.Locks :: aB rb (ZR.map Ce.v) :: aB ob ((opV kind id n).map Ce.v) :: F) := (h.dropAt 2).front (n := 1) rfl
        have hrow := h.rowR 2 rfl
        have h := SH.nil h none 2
        refine SH.appendR (f := DLock.cells) (l := []) (us := d.Locks) h hrow (by omega) (fun _ => rfl) rfl rfl (by decide) (by show (_ + _) * 16 ≤ _; simp; omega) plain_lck (fun l175 w176 h hl175 _ => ?_)
        have hl175' : l175.len = d.Locks.length := by simp at hl175; omega
        have hg0 := hi.gone id
        clear hJ J
        refine LoopW.m1 (fun (a : Int) w' => ∃ (k : Nat) (e : DSched) (t l : Sl), a = k ∧ k ≤ d.Locks.length ∧ exitL id (d.Locks.drop k) e = exitF d id ∧ Inv (fun o => o = id) e ∧ e.Now = d.Now ∧ e.Seq ≤ d.Seq + k ∧ (∀ u, u ∈ e.Threads → u.Id ≠ id) ∧ (∀ y, y ∈ d.Locks.drop k → y ∈ e.Locks) ∧ (∀ y, y ∈ e.Locks → y.Owner = id → y ∈ d.Locks.drop k) ∧
          SH w0 w' (RL l175 d.Locks :: PB b e t l :: RT t e.Threads :: RL l e.Locks :: aB rb (ZR.map Ce.v) :: aB ob ((opV kind id n).map Ce.v) :: F)) (fun (i : Int) _ => (d.Locks.length - i).toNat) ⟨0, _, s, l, rfl, by omega, rfl, hg0, rfl, Int.le_of_eq (by simp), ?_, fun y hy => hy, fun y hy _ => hy, h⟩ ?_
        · intro u hu he; have := (List.mem_filter.1 hu).2; simp [he] at this
        clear h
        rintro (a : Int) w179 ⟨k, e, t, l, rfl, hk16, hex, hie, hen, hes, hgo, hsub, hown, h⟩ J hJ
        have hef := hie.few
        have hm := hie.mid (by omega)
        refine BIf.dec (fun hlt => ?_) (fun hge => ?_)
        · have hkl : k < d.Locks.length := by omega
          have hget : d.Locks[k]? = some d.Locks[k] := List.getElem?_eq_getElem hkl
          have hdr := List.drop_eq_getElem_cons hkl
          have hsrt : Srt DLock.Id (d.Locks.drop k) := List.Pairwise.sublist (List.drop_sublist _ _) hi.ls
          obtain ⟨r, hra⟩ := h.rowQ 0 rfl hget
          generalize d.Locks[k] = y at *
          rw [hdr] at hex hsub hown hsrt
          obtain ⟨hs1, hs2⟩ := List.pairwise_cons.1 hsrt
          unfold exitL at hex
          simp only [Int.toNat_natCast]
          rw [w64 (n := (k : Int) + 1) (by omega) (by omega)]
          refine ⟨by omega, by omega, r, hra, _, h.rdR 0 rfl hra hget rfl, _, h.rdR 0 rfl hra hget rfl, ?_⟩
          refine h.alloc (fun w183 h ew183 nw183 => ?_)
          refine h.put 0 rfl rfl rfl (fun w184 h nw184 => ?_)
          refine ⟨_, h.cell 0 rfl rfl, _, h.cell 6 rfl rfl, BIf.eq (fun hyo => ?_) (fun hyo => ?_)⟩
          · rw [if_pos hyo] at hex
            have hy := hsub y (by simp)
            refine ⟨_, h.cell 0 rfl rfl, ?_⟩
            have h := h.drop
            have h := ((h.front (n := 3) rfl).front (n := 3) rfl).front (n := 3) rfl
            refine (s116 h hm hie.ls hy rfl ⟨hie.now.2, by omega⟩ ⟨by omega, by omega⟩).mono ?_
            rintro _ w189 ⟨rfl, l', h⟩
            refine ⟨rfl, ?_⟩
            obtain ⟨l1, l2, l3⟩ := hand_locks hie (by omega) hy
            have hnw := handF_now e y.Id
            have hhd := hie.hand (by omega) hy
            refine hJ _ _ ⟨k + 1, _, t, l', by omega, by omega, hex, hhd, by omega, by omega, fun u hu he => ?_, fun v hv => ?_, fun v hv hvo => ?_, h.front (n := 3) rfl⟩ (by omega)
            · obtain ⟨u', hu', hue⟩ := (l3 u.Id).1 ⟨u, hu, rfl⟩
              exact hgo u' hu' (by omega)
            · exact l2 v (hsub v (by simp only [List.mem_cons]; exact .inr hv)) (by have := hs1 v hv; omega)
            · rcases l1 v hv with ⟨h5, h6⟩ | ⟨h5, u, hu, hue⟩
              · rcases List.mem_cons.1 (hown v h5 hvo) with rfl | h7
                · exact absurd rfl h6
                · exact h7
              · exact absurd (hue.trans hvo) (hgo u hu)
          · rw [if_neg hyo] at hex
            refine hJ _ _ ⟨k + 1, e, t, l, by omega, by omega, hex, hie, hen, by omega, hgo, fun v hv => hsub v (by simp only [List.mem_cons]; exact .inr hv), fun v hv hvo => ?_, h.drop⟩ (by omega)
            rcases List.mem_cons.1 (hown v hv hvo) with rfl | h7
            · exact absurd hvo hyo
            · exact h7
        · rw [List.drop_eq_nil_of_le (by omega)] at hex
          have hex : e = exitF d id := hex
          rw [← hex]
          exact ⟨rfl, t, l, h.drop⟩
    refine BIf.eq (fun h4 => ?_) (fun h4 => ?_)
    · -- lock
      have hr : thrF d i x kind id n = lockR d i x kind id n := by unfold thrF lockR; rw [if_neg h2, if_pos (.inl h4)]; rfl
      rw [hr]
      unfold lockR
      refine ⟨_, h.cell 4 rfl rfl, ?_⟩
      refine join_or_ex _ (h.cell 4 rfl rfl) ?_
      refine BIf.of (fun hb => ?_) (fun hb => ?_)
      · simp only [Bool.or_eq_true, decide_eq_true_eq] at hb
        rw [if_pos hb]
        refine retC h 3 rfl rfl (fun w2 h => ?_)
        exact ⟨t, l, rfl, (h.dropAt 4).dropAt 3⟩
      simp only [Bool.or_eq_false_iff, decide_eq_false_iff_not] at hb
      rw [if_neg (show ¬ (n < 0 ∨ n ≥ 16) by omega)]
      refine ⟨_, rfl, _, h.rdR 1 rfl hqa hx rfl, BIf.ne (fun hs => ?_) (fun hs => ?_)⟩
      · rw [if_pos hs]
        refine retC h 3 rfl rfl (fun w2 h => ?_)
        exact ⟨t, l, rfl, (h.dropAt 4).dropAt 3⟩
      rw [if_neg (by omega), if_pos h4]
      refine ⟨_, h.cell 4 rfl rfl, (c83 (patOf h 0 rfl) (satOf h 1 2 rfl rfl ⟨by omega, by omega⟩)).mono ?_⟩
      rintro _ w212 ⟨rfl, rfl⟩
      refine ⟨_, rfl, ?_⟩
      rcases idL_find d n with ⟨hl1, hl2⟩ | ⟨j, y, hl1, hl2, hl3⟩
      · rw [hl1, ptr_none]
        refine BIf.t rfl ?_
        have hlock : lockF d i x n = (⟨d.Now, d.Seq, d.Threads, d.Locks.take (lockPl d.Locks n 0) ++ ⟨n, x.Id⟩ :: d.Locks.drop (lockPl d.Locks n 0)⟩, 0, 0) := by unfold lockF; rw [hl2]
        rw [hlock]
        obtain ⟨p, hp0, hp1, hp2, hp3⟩ := lockPl_spec d.Locks n 0 hi.ls (lckOf_none hl2)
        rw [Nat.zero_add] at hp0
        rw [hp0]
        refine LoopW.m1 (fun (i : Int) w' => ∃ m : Nat, i = m ∧ m ≤ p ∧ SH w0 w' (PB b d t l :: RT t d.Threads :: RL l d.Locks :: aB rb (ZR.map Ce.v) :: aB ob ((opV kind id n).map Ce.v) :: F)) (fun (i : Int) _ => (32 - i).toNat) ⟨0, rfl, Nat.zero_le _, h⟩ ?_
        clear h
        rintro (i : Int) w216 ⟨m, rfl, hmp, h⟩ J hJ
        refine JoinW.cut1 (fun (c : Bool) w' => c = decide (m < p) ∧ SH w0 w' (PB b d t l :: RT t d.Threads :: RL l d.Locks :: aB rb (ZR.map Ce.v) :: aB ob ((opV kind id n).map Ce.v) :: F)) ?_ ?_
        · have h := h.drew
          refine ⟨_, rfl, l, h.cellP 0 rfl rfl, BIf.dec (fun hlt => ?_) (fun hge => ⟨(decide_eq_false (by omega)).symm, h⟩)⟩
          have hml : m < d.Locks.length := by omega
          have hget : d.Locks[m]? = some d.Locks[m] := List.getElem?_eq_getElem hml
          obtain ⟨r, hra⟩ := h.rowQ 2 rfl hget
          simp only [Int.toNat_natCast]
          refine ⟨_, rfl, l, h.cellP 0 rfl rfl, by omega, by omega, r, hra, _, h.rdR 2 rfl hra hget rfl, _, h.cell 4 rfl rfl, ?_, h⟩
          rw [decide_eq_decide]
          by_cases hmp2 : m < p
          · have := hp2 m _ hmp2 hget
            exact ⟨fun _ => hmp2, fun _ => this⟩
          · have := hp3 m _ (by omega) hget
            exact ⟨fun hh => by omega, fun hh => absurd hh hmp2⟩
        rintro (c : Bool) w219 ⟨rfl, h⟩
        refine BIf.dec (fun hc => ?_) (fun hc => ?_)
        · rw [w64 (by omega) (by omega)]
          exact hJ _ _ ⟨m + 1, by omega, by omega, h⟩ (by omega)
        obtain rfl : m = p := by omega
        simp only [Int.toNat_natCast]
        refine ⟨_, rfl, l, h.cellP 0 rfl rfl, by omega, by omega, ?_⟩
        have hrow := h.rowR 2 rfl
        have h := SH.nil h none 2
        refine SH.appendR (f := DLock.cells) (l := []) (us := d.Locks.take m) h (hrow.pre (fun _ => rfl) (by omega)) (by simp; omega) (fun _ => rfl) rfl rfl (by decide) (by show (_ + _) * 16 ≤ _; simp; omega) plain_lck (fun l222 w223 h hl222 _ => ?_)
        have h := h.drew
        refine ⟨_, h.cell 5 rfl rfl, _, h.cell 5 rfl rfl, _, rfl, l, h.cellP 1 rfl rfl, by omega, by omega, ?_⟩
        refine LetW_iff.2 ?_
        have hfact := (h.to (ext_alloc w223.drew (.cells #[.int .i64 n, .int .i64 id] 122))).cellP 1 (i := 3) rfl rfl
        refine ⟨⟨l, hfact, rfl⟩, ?_⟩
        refine SH.appendR1 (f := DLock.cells) (x := ⟨n, id⟩) h rfl rfl rfl (by decide) (by show _ * 16 ≤ _; simp; omega) (plain_lck _) (fun l230 w231 h hl230 _ => ?_)
        refine ⟨⟨l, h.cellP 1 rfl rfl, rfl⟩, ?_⟩
        have hrow := h.rowR 3 rfl
        refine SH.appendR (f := DLock.cells) (us := d.Locks.drop m) h (hrow.suf (fun _ => rfl) hll hlc (by omega)) (by simp; omega) (fun _ => rfl) rfl rfl (by decide) (by show (_ + _) * 16 ≤ _; simp; omega) plain_lck (fun l233 w234 h hl233 _ => ?_)
        refine ⟨_, rfl, ?_⟩
        refine h.setVP 1 rfl rfl (fun w236 h nw236 => ?_)
        refine retC h 4 rfl rfl (fun w2 h => ?_)
        have h2 := (((h.dropAt 5).dropAt 4).dropAt 3)
        refine ⟨t, l233, rfl, ?_⟩
        have h3 : SH w0 w2 (RL l233 ([] ++ d.Locks.take m ++ [⟨n, id⟩] ++ d.Locks.drop m) :: PB b ⟨d.Now, d.Seq, d.Threads, d.Locks⟩ t l233 :: RT t d.Threads :: F) := h2
        have h4 := h3.p2.p2
        rw [hxid]
        simpa using h4
      · have hjl := (List.getElem?_eq_some_iff.1 hl2).1
        obtain ⟨r, hra⟩ := h.rowQ 2 rfl hl2
        rw [hl1, ptr_some hra]
        have h := h.drew
        refine BIf.f rfl ⟨_, rfl, _, h.rdR 2 rfl hra hl2 rfl, _, h.cell 4 rfl rfl, BIf.eq (fun ho => ?_) (fun ho => ?_)⟩
        · have hlock : lockF d i x n = (d, 4, 0) := by unfold lockF; rw [hl3]; simp only; rw [if_pos (by rw [hxid]; exact ho)]
          rw [hlock]
          refine retC h 3 rfl rfl (fun w2 h => ?_)
          exact ⟨t, l, rfl, (h.dropAt 4).dropAt 3⟩
        have h := h.drew
        refine ⟨_, rfl, _, h.rdR 2 rfl hra hl2 rfl, _, h.cell 4 rfl rfl, (c85 (patOf h 0 rfl) (satOf h 1 2 rfl rfl ⟨by omega, by omega⟩)).mono ?_⟩
        rintro _ w265 ⟨rfl, rfl⟩
        rw [waits_same hm.owned hm.few]
        refine ⟨_, rfl, BIf.of (fun hw => ?_) (fun hw => ?_)⟩
        · have hlock : lockF d i x n = (d, 17, 0) := by unfold lockF; rw [hl3]; simp only; rw [if_neg (by rw [hxid]; exact ho), hxid, if_pos hw]
          rw [hlock]
          refine retC h 3 rfl rfl (fun w2 h => ?_)
          exact ⟨t, l, rfl, (h.dropAt 4).dropAt 3⟩
        · have hlock : lockF d i x n = (⟨d.Now, d.Seq, d.Threads.set i ⟨x.Id, x.Base, 2, x.Line, x.Left, x.Since, x.Until, n⟩, d.Locks⟩, 0, 1) := by unfold lockF; rw [hl3]; simp only; rw [if_neg (by rw [hxid]; exact ho), hxid, if_neg (by rw [hw]; simp)]
          rw [hlock]
          have h := h.drew
          refine ⟨_, h.cell 4 rfl rfl, _, rfl, ?_⟩
          rw [set_at hx] at h
          refine h.setR 1 (⟨x.Id, x.Base, 2, x.Line, x.Left, x.Since, x.Until, x.Wait⟩ : DThread) rfl hqa hil (by show 2 < 8; omega) rfl (fun w276 h nw276 => ?_)
          refine ⟨⟨_, h.cell 4 rfl rfl, rfl⟩, _, rfl, ?_⟩
          refine h.setR 1 (⟨x.Id, x.Base, 2, x.Line, x.Left, x.Since, x.Until, n⟩ : DThread) rfl hqa hil (by show 7 < 8; omega) rfl (fun w279 h nw279 => ?_)
          refine retV h 3 rfl rfl (fun w2 h => ?_)
          exact ⟨t, l, rfl, (h.dropAt 4).dropAt 3⟩
    refine BIf.eq (fun h5 => ?_) (fun h5 => ?_)
    · -- unlock
      have hr : thrF d i x kind id n = lockR d i x kind id n := by unfold thrF lockR; rw [if_neg h2, if_pos (.inr h5)]; rfl
      rw [hr]
      unfold lockR
      refine ⟨_, h.cell 4 rfl rfl, ?_⟩
      refine join_or_ex _ (h.cell 4 rfl rfl) ?_
      refine BIf.of (fun hb => ?_) (fun hb => ?_)
      · simp only [Bool.or_eq_true, decide_eq_true_eq] at hb
        rw [if_pos hb]
        refine retC h 3 rfl rfl (fun w2 h => ?_)
        exact ⟨t, l, rfl, (h.dropAt 4).dropAt 3⟩
      simp only [Bool.or_eq_false_iff, decide_eq_false_iff_not] at hb
      rw [if_neg (show ¬ (n < 0 ∨ n ≥ 16) by omega)]
      refine ⟨_, rfl, _, h.rdR 1 rfl hqa hx rfl, BIf.ne (fun hs => ?_) (fun hs => ?_)⟩
      · rw [if_pos hs]
        refine retC h 3 rfl rfl (fun w2 h => ?_)
        exact ⟨t, l, rfl, (h.dropAt 4).dropAt 3⟩
      rw [if_neg (by omega), if_neg h4]
      refine ⟨_, h.cell 4 rfl rfl, (c83 (patOf h 0 rfl) (satOf h 1 2 rfl rfl ⟨by omega, by omega⟩)).mono ?_⟩
      rintro _ w306 ⟨rfl, rfl⟩
      have h := h.drew
      refine ⟨_, rfl, ?_⟩
      refine JoinW.cut1 (fun (c : Bool) w' => (c = false ↔ ∃ k, lckOf d n = some k ∧ k.Owner = id) ∧ SH w0 w' (PB b d t l :: RT t d.Threads :: RL l d.Locks :: aB rb (ZR.map Ce.v) :: aB ob ((opV kind id n).map Ce.v) :: F)) ?_ ?_
      · rcases idL_find d n with ⟨hl1, hl2⟩ | ⟨j, y, hl1, hl2, hl3⟩
        · rw [hl1, ptr_none]
          refine BIf.t rfl ⟨⟨(fun h => by cases h), ?_⟩, h⟩
          rintro ⟨k, hk, _⟩
          rw [hl2] at hk; cases hk
        · obtain ⟨r, hra⟩ := h.rowQ 2 rfl hl2
          rw [hl1, ptr_some hra]
          refine BIf.f rfl ⟨_, rfl, _, h.rdR 2 rfl hra hl2 rfl, _, h.cell 4 rfl rfl, ⟨fun hh => ⟨y, hl3, by simpa [bne] using hh⟩, ?_⟩, h⟩
          rintro ⟨k, hk, hko⟩
          rw [hl3] at hk; cases hk
          simp [hko]
      · rintro (c : Bool) w310 ⟨hc, h⟩
        refine BIf.of (fun hct => ?_) (fun hcf => ?_)
        · rcases hl : lckOf d n with _ | k
          · refine retC h 3 rfl rfl (fun w2 h => ?_)
            exact ⟨t, l, rfl, (h.dropAt 4).dropAt 3⟩
          · have hko : k.Owner ≠ id := fun ho => by rw [hc.2 ⟨k, hl, ho⟩] at hct; cases hct
            simp only
            rw [if_pos hko]
            refine retC h 3 rfl rfl (fun w2 h => ?_)
            exact ⟨t, l, rfl, (h.dropAt 4).dropAt 3⟩
        · obtain ⟨k, hk, hko⟩ := hc.1 hcf
          obtain ⟨hkm, hkn⟩ := lckOf_some hk
          rw [hk]
          simp only
          rw [if_neg (by omega)]
          refine ⟨_, h.cell 4 rfl rfl, (s116 h hm hi.ls hkm hkn ⟨hnow.2, by omega⟩ ⟨by omega, by omega⟩).mono ?_⟩
          rintro _ w320 ⟨rfl, l', h⟩
          exact ⟨rfl, rfl, t, l', h⟩
    have h45 : ¬ (kind = 4 ∨ kind = 5) := by omega
    have ht0 : thrF d i x kind id n = if kind = 6 then
      if n < 1 ∨ n > 1000 then (d, 1, 0) else if x.State ≠ 1 then (d, 21, 0)
      else (⟨d.Now, d.Seq, d.Threads.set i ⟨x.Id, x.Base, 3, x.Line, x.Left, x.Since, d.Now + n, x.Wait⟩, d.Locks⟩, 0, 0)
    else if kind = 7 then (if x.State ≠ 3 then (d, 21, 0) else (standF d i d.Now, 0, 0))
    else if n < 0 ∨ n > 7 then (d, 1, 0) else (⟨d.Now, d.Seq, d.Threads.set i ⟨x.Id, n, x.State, x.Line, x.Left, x.Since, x.Until, x.Wait⟩, d.Locks⟩, 0, 0) := by unfold thrF; rw [if_neg h2, if_neg h45]
    rw [ht0]
    refine BIf.eq (fun h6 => ?_) (fun h6 => ?_)
    · rw [if_pos h6]
      refine ⟨_, h.cell 4 rfl rfl, ?_⟩
      refine join_or_ex _ (h.cell 4 rfl rfl) ?_
      refine BIf.of (fun hb => ?_) (fun hb => ?_)
      · simp only [Bool.or_eq_true, decide_eq_true_eq] at hb
        rw [if_pos hb]
        refine retC h 3 rfl rfl (fun w2 h => ?_)
        exact ⟨t, l, rfl, (h.dropAt 4).dropAt 3⟩
      simp only [Bool.or_eq_false_iff, decide_eq_false_iff_not] at hb
      rw [if_neg (show ¬ (n < 1 ∨ n > 1000) by omega)]
      refine ⟨_, rfl, _, h.rdR 1 rfl hqa hx rfl, BIf.ne (fun hs => ?_) (fun hs => ?_)⟩
      · rw [if_pos hs]
        refine retC h 3 rfl rfl (fun w2 h => ?_)
        exact ⟨t, l, rfl, (h.dropAt 4).dropAt 3⟩
      rw [if_neg (by omega)]
      have h := h.drew
      refine ⟨_, rfl, _, h.cellP 0 rfl rfl, _, h.cell 4 rfl rfl, _, rfl, ?_⟩
      rw [set_at hx] at h
      refine h.setR 1 (⟨x.Id, x.Base, 3, x.Line, x.Left, x.Since, x.Until, x.Wait⟩ : DThread) rfl hqa hil (by show 2 < 8; omega) rfl (fun w349 h nw349 => ?_)
      refine ⟨⟨_, h.cell 4 rfl rfl, rfl⟩, _, rfl, ?_⟩
      rw [w64 (n := d.Now + n) (by omega) (by omega)]
      refine h.setR 1 (⟨x.Id, x.Base, 3, x.Line, x.Left, x.Since, d.Now + n, x.Wait⟩ : DThread) rfl hqa hil (by show 6 < 8; omega) rfl (fun w352 h nw352 => ?_)
      exact ⟨rfl, t, l, h⟩
    rw [if_neg h6]
    refine BIf.eq (fun h7 => ?_) (fun h7 => ?_)
    · rw [if_pos h7]
      refine ⟨_, rfl, _, h.rdR 1 rfl hqa hx rfl, BIf.ne (fun hs => ?_) (fun hs => ?_)⟩
      · rw [if_pos hs]
        refine retC h 3 rfl rfl (fun w2 h => ?_)
        exact ⟨t, l, rfl, (h.dropAt 4).dropAt 3⟩
      rw [if_neg (by omega)]
      refine (s115 h hx hqa ⟨hnow.2, by omega⟩).mono ?_
      rintro _ w364 ⟨rfl, h⟩
      exact ⟨rfl, rfl, t, l, h⟩
    rw [if_neg h7]
    refine BIf.t (by simp; omega) ⟨_, h.cell 4 rfl rfl, ?_⟩
    refine join_or_ex _ (h.cell 4 rfl rfl) ?_
    refine BIf.of (fun hb => ?_) (fun hb => ?_)
    · simp only [Bool.or_eq_true, decide_eq_true_eq] at hb
      rw [if_pos hb]
      refine retC h 3 rfl rfl (fun w2 h => ?_)
      exact ⟨t, l, rfl, (h.dropAt 4).dropAt 3⟩
    simp only [Bool.or_eq_false_iff, decide_eq_false_iff_not] at hb
    rw [if_neg (show ¬ (n < 0 ∨ n > 7) by omega)]
    refine ⟨_, h.cell 4 rfl rfl, _, rfl, ?_⟩
    rw [set_at hx] at h
    refine h.setR 1 (⟨x.Id, n, x.State, x.Line, x.Left, x.Since, x.Until, x.Wait⟩ : DThread) rfl hqa hil (by show 1 < 8; omega) rfl (fun w378 h nw378 => ?_)
    exact ⟨rfl, t, l, h⟩
  · rintro w132 ⟨h00, t', l', h⟩
    refine retC h 3 rfl rfl (fun w2 h => ?_)
    refine ⟨t', l', ?_, (h.dropAt 4).dropAt 3⟩
    rw [h00]
end Go.Proofs.Yteigefjiifihpaa

/- The scheduler, the program's side: SchedStep, SchedRun. Conditions: none. -/
set_option linter.unusedVariables false
set_option linter.unusedSimpArgs false
namespace Go.Proofs.Yteigefjiifihpaa
open Go Go.Den
/-- An operation that fails leaves the state. -/
theorem lockF_same {d : DSched} {i : Nat} {t : DThread} {n : Int} (h : (lockF d i t n).2.1 ≠ 0) : (lockF d i t n).1 = d ∧ (lockF d i t n).2.2 = 0 := by
  unfold lockF at h ⊢
  split at h
  · exact absurd rfl h
  · split at h
    · rename_i h1; rw [if_pos h1]; exact ⟨rfl, rfl⟩
    · split at h
      · rename_i h1 h2; rw [if_neg h1, if_pos h2]; exact ⟨rfl, rfl⟩
      · exact absurd rfl h
theorem stepF_same {d : DSched} {kind id n : Int} (h : (stepF d kind id n).2.1 ≠ 0) : (stepF d kind id n).1 = d ∧ (stepF d kind id n).2.2 = 0 := by
  unfold stepF at h ⊢
  by_cases h1 : kind = 1
  · rw [if_pos h1] at h ⊢
    by_cases h2 : n < 0 ∨ n > 7
    · rw [if_pos h2]; exact ⟨rfl, rfl⟩
    · rw [if_neg h2] at h ⊢
      by_cases h3 : d.Threads.length = 32
      · rw [if_pos h3]; exact ⟨rfl, rfl⟩
      · rw [if_neg h3] at h; exact absurd rfl h
  · rw [if_neg h1] at h ⊢
    by_cases h2 : kind = 3
    · rw [if_pos h2] at h; exact absurd rfl h
    · rw [if_neg h2] at h ⊢
      by_cases h3 : kind < 1 ∨ kind > 8
      · rw [if_pos h3]; exact ⟨rfl, rfl⟩
      · rw [if_neg h3] at h ⊢
        rcases ht : d.Threads[(idT d id).toNat]? with _ | t
        · exact ⟨rfl, rfl⟩
        · rw [ht] at h
          simp only at h ⊢
          by_cases h4 : idT d id < 0
          · rw [if_pos h4]; exact ⟨rfl, rfl⟩
          · rw [if_neg h4] at h ⊢
            unfold thrF at h ⊢
            by_cases k2 : kind = 2
            · rw [if_pos k2] at h; exact absurd rfl h
            · rw [if_neg k2] at h ⊢
              by_cases k4 : kind = 4 ∨ kind = 5
              · rw [if_pos k4] at h ⊢
                by_cases b1 : n < 0 ∨ n ≥ 16
                · rw [if_pos b1]; exact ⟨rfl, rfl⟩
                · rw [if_neg b1] at h ⊢
                  by_cases b2 : t.State ≠ 1
                  · rw [if_pos b2]; exact ⟨rfl, rfl⟩
                  · rw [if_neg b2] at h ⊢
                    by_cases b3 : kind = 4
                    · rw [if_pos b3] at h ⊢; exact lockF_same h
                    · rw [if_neg b3] at h ⊢
                      rcases hl : lckOf d n with _ | k
                      · exact ⟨rfl, rfl⟩
                      · rw [hl] at h
                        simp only at h ⊢
                        by_cases b4 : k.Owner ≠ id
                        · rw [if_pos b4]; exact ⟨rfl, rfl⟩
                        · rw [if_neg b4] at h; exact absurd rfl h
              · rw [if_neg k4] at h ⊢
                by_cases k6 : kind = 6
                · rw [if_pos k6] at h ⊢
                  by_cases b1 : n < 1 ∨ n > 1000
                  · rw [if_pos b1]; exact ⟨rfl, rfl⟩
                  · rw [if_neg b1] at h ⊢
                    by_cases b2 : t.State ≠ 1
                    · rw [if_pos b2]; exact ⟨rfl, rfl⟩
                    · rw [if_neg b2] at h; exact absurd rfl h
                · rw [if_neg k6] at h ⊢
                  by_cases k7 : kind = 7
                  · rw [if_pos k7] at h ⊢
                    by_cases b2 : t.State ≠ 3
                    · rw [if_pos b2]; exact ⟨rfl, rfl⟩
                    · rw [if_neg b2] at h; exact absurd rfl h
                  · rw [if_neg k7] at h ⊢
                    by_cases b1 : n < 0 ∨ n > 7
                    · rw [if_pos b1]; exact ⟨rfl, rfl⟩
                    · rw [if_neg b1] at h; exact absurd rfl h
theorem s24 {w : World} {t l : Sl} {d : DSched} {kind id n : Int} (hs : SAt w t l d) :
    CallW Try.prog 24 #[sAgg d.Now d.Seq t l, .agg #[.int .i64 kind, .int .i64 id, .int .i64 n]] w (KR w [] (stepR d kind id n)) := by
  refine go24 ?_
  unfold W24
  have htl := hs.tl
  have hll := hs.ll
  have few := hs.few
  have h := SH.start w
  refine h.alloc (fun w1 h ew1 nw1 => ?_)
  refine h.alloc (fun w2 h ew2 nw2 => ?_)
  refine h.alloc (fun w3 h ew3 nw3 => ?_)
  refine h.alloc (fun w4 h ew4 nw4 => ?_)
  have h : SH w w4 [aB w3.heap.size (ZR.map Ce.v), aB w2.heap.size (ZS.map Ce.v), aB w1.heap.size ((opV kind id n).map Ce.v), aB w.heap.size ((sCells d.Now d.Seq t l).map Ce.v)] := h
  generalize w3.heap.size = rb at *
  generalize w2.heap.size = sb at *
  generalize w1.heap.size = ob at *
  refine ⟨_, h.cell 3 rfl rfl, _, h.cell 3 rfl rfl, t, h.cell 3 rfl rfl, l, h.cell 3 rfl rfl, (c34 (hs.ext h.ext)).mono ?_⟩
  rintro _ w10 ⟨b, rfl, hiff, e10⟩
  have h := h.to e10
  refine ⟨_, rfl, BIf.of (fun hn => ?_) (fun hy => ?_)⟩
  · have hno : ¬ SOk d := fun hh => by rw [hiff.2 hh] at hn; cases hn
    refine retR (t := ⟨none, 0, 0⟩) (l := ⟨none, 0, 0⟩) h 1 0 rfl rfl rfl rfl (by simp) (fun w2 h => ?_)
    unfold stepR
    rw [if_neg hno]
    exact ⟨⟨none, 0, 0⟩, ⟨none, 0, 0⟩, rfl, SH.nil (SH.nil (SH.start w |>.to h.ext) none 2) none 8⟩
  have hok : SOk d := hiff.1 (by simpa using hy)
  obtain ⟨hi, hnow, hseq⟩ := sok_iff.1 hok
  have hres : stepR d kind id n = stepF d kind id n := by unfold stepR; rw [if_pos hok]
  rw [hres]
  refine JoinW.cut1 (fun (p : Option Addr) w' => ∃ (b : Nat) (t' l' : Sl), p = some ⟨b, 0, none⟩ ∧ SH w w' [PB b d t' l', RT t' d.Threads, RL l' d.Locks, aB rb (ZR.map Ce.v), aB sb (ZS.map Ce.v), aB ob ((opV kind id n).map Ce.v), aB w.heap.size ((sCells d.Now d.Seq t l).map Ce.v)]) ?_ ?_
  · have h := h.drew
    refine ⟨_, h.cell 3 rfl rfl, _, h.cell 3 rfl rfl, t, h.cell 3 rfl rfl, l, h.cell 3 rfl rfl, ?_⟩
    refine ⟨?_, ?_⟩
    · skip
      have h := SH.nil h none 8
      refine SH.appendR (f := DThread.cells) (l := []) (us := d.Threads) h (hs.ext h.ext).tr (by omega) (fun _ => rfl) rfl rfl (by decide) (by show (_ + _) * 64 ≤ _; simp; omega) plain_thr (fun l86 w87 h hll86 _ => ?_)
      refine ⟨⟨l, h.cell 4 rfl rfl, rfl⟩, ?_⟩
      refine ⟨⟨_, h.cell 4 rfl rfl, rfl⟩, ?_⟩
      refine ⟨⟨_, h.cell 4 rfl rfl, rfl⟩, ?_⟩
      refine ⟨?_, ?_⟩
      · skip
        have h := SH.nil h none 2
        refine SH.appendR (f := DLock.cells) (l := []) (us := d.Locks) h (hs.ext h.ext).lr (by omega) (fun _ => rfl) rfl rfl (by decide) (by show (_ + _) * 16 ≤ _; simp; omega) plain_lck (fun l101 w102 h hll101 _ => ?_)
        refine ⟨⟨_, h.cell 5 rfl rfl, rfl⟩, ?_⟩
        refine ⟨⟨_, h.cell 5 rfl rfl, rfl⟩, ?_⟩
        refine ⟨?_, trivial⟩
        refine h.alloc (fun w105 h ew105 nw105 => ?_)
        refine ⟨⟨l, h.cell 6 rfl rfl, rfl⟩, ?_⟩
        refine ⟨⟨t, h.cell 6 rfl rfl, rfl⟩, ?_⟩
        refine ⟨⟨_, h.cell 6 rfl rfl, rfl⟩, ?_⟩
        refine ⟨⟨_, h.cell 6 rfl rfl, rfl⟩, ?_⟩
        refine ⟨?_, trivial⟩
        refine h.put 0 rfl rfl rfl (fun w110 h nw110 => ?_)
        exact ⟨_, l86, l101, rfl, (((((((h.front (n := 6) rfl).front (n := 6) rfl).front (n := 6) rfl).front (n := 6) rfl).front (n := 5) rfl).front (n := 6) rfl).front (n := 6) rfl)⟩
      · skip
        refine ⟨?_, trivial⟩
        refine h.alloc (fun w91 h ew91 nw91 => ?_)
        refine ⟨⟨l, h.cell 5 rfl rfl, rfl⟩, ?_⟩
        refine ⟨⟨t, h.cell 5 rfl rfl, rfl⟩, ?_⟩
        refine ⟨⟨_, h.cell 5 rfl rfl, rfl⟩, ?_⟩
        refine ⟨⟨_, h.cell 5 rfl rfl, rfl⟩, ?_⟩
        refine ⟨?_, trivial⟩
        have h := SH.nil h none 2
        refine SH.appendR (f := DLock.cells) (l := []) (us := d.Locks) h (hs.ext h.ext).lr (by omega) (fun _ => rfl) rfl rfl (by decide) (by show (_ + _) * 16 ≤ _; simp; omega) plain_lck (fun l96 w97 h hll96 _ => ?_)
        refine ⟨⟨_, h.cell 6 rfl rfl, rfl⟩, ?_⟩
        refine ⟨⟨_, h.cell 6 rfl rfl, rfl⟩, ?_⟩
        refine ⟨?_, trivial⟩
        refine h.put 1 rfl rfl rfl (fun w100 h nw100 => ?_)
        exact ⟨_, l86, l96, rfl, (((((((h.front (n := 6) rfl).front (n := 6) rfl).front (n := 6) rfl).front (n := 6) rfl).front (n := 4) rfl).front (n := 6) rfl).front (n := 6) rfl)⟩
    · skip
      refine ⟨?_, trivial⟩
      refine h.alloc (fun w71 h ew71 nw71 => ?_)
      refine ⟨⟨l, h.cell 4 rfl rfl, rfl⟩, ?_⟩
      refine ⟨⟨t, h.cell 4 rfl rfl, rfl⟩, ?_⟩
      refine ⟨⟨_, h.cell 4 rfl rfl, rfl⟩, ?_⟩
      refine ⟨⟨_, h.cell 4 rfl rfl, rfl⟩, ?_⟩
      refine ⟨?_, trivial⟩
      have h := SH.nil h none 8
      refine SH.appendR (f := DThread.cells) (l := []) (us := d.Threads) h (hs.ext h.ext).tr (by omega) (fun _ => rfl) rfl rfl (by decide) (by show (_ + _) * 64 ≤ _; simp; omega) plain_thr (fun l76 w77 h hll76 _ => ?_)
      refine ⟨⟨l, h.cell 5 rfl rfl, rfl⟩, ?_⟩
      refine ⟨⟨_, h.cell 5 rfl rfl, rfl⟩, ?_⟩
      refine ⟨⟨_, h.cell 5 rfl rfl, rfl⟩, ?_⟩
      refine ⟨?_, trivial⟩
      have h := SH.nil h none 2
      refine SH.appendR (f := DLock.cells) (l := []) (us := d.Locks) h (hs.ext h.ext).lr (by omega) (fun _ => rfl) rfl rfl (by decide) (by show (_ + _) * 16 ≤ _; simp; omega) plain_lck (fun l81 w82 h hll81 _ => ?_)
      refine ⟨⟨_, h.cell 6 rfl rfl, rfl⟩, ?_⟩
      refine ⟨⟨_, h.cell 6 rfl rfl, rfl⟩, ?_⟩
      refine ⟨?_, trivial⟩
      refine h.put 2 rfl rfl rfl (fun w85 h nw85 => ?_)
      exact ⟨_, l76, l81, rfl, (((((((h.front (n := 6) rfl).front (n := 6) rfl).front (n := 6) rfl).front (n := 6) rfl).front (n := 4) rfl).front (n := 5) rfl).front (n := 6) rfl)⟩

  rintro (p : Option Addr) w22 ⟨b, t', l', rfl, h⟩
  refine ⟨_, h.cell 5 rfl rfl, _, h.cell 5 rfl rfl, _, h.cell 5 rfl rfl, (s68 h hi hnow (by omega)).mono ?_⟩
  rintro _ w27 ⟨t2, l2, rfl, h⟩
  refine ⟨_, _, rfl, ?_⟩
  refine h.alloc (fun w30 h ew30 nw30 => ?_)
  refine h.put 0 rfl rfl rfl (fun w31 h nw31 => ?_)
  refine JoinW.cut0 (fun w' => ∃ t3 l3 : Sl, SH w w' [aB w27.heap.size ((rsV (stepF d kind id n).2.1 (stepF d kind id n).2.2).map Ce.v), PB b (stepF d kind id n).1 t3 l3, RT t3 (stepF d kind id n).1.Threads, RL l3 (stepF d kind id n).1.Locks, aB rb (ZR.map Ce.v), aB sb (ZS.map Ce.v)]) ?_ ?_
  · refine ⟨_, h.cell 0 rfl rfl, BIf.ne (fun hc => ?_) (fun hc => ?_)⟩
    · have hsame := (stepF_same hc).1
      have h := h.drew
      refine ⟨_, h.cell 7 rfl rfl, _, h.cell 7 rfl rfl, t, h.cell 7 rfl rfl, l, h.cell 7 rfl rfl, ?_⟩
      have h := SH.nil h none 8
      refine SH.appendR (f := DThread.cells) (l := []) (us := d.Threads) h (hs.ext h.ext).tr (by omega) (fun _ => rfl) rfl rfl (by decide) (by show (_ + _) * 64 ≤ _; simp; omega) plain_thr (fun l56 w57 h hl56 _ => ?_)
      refine ⟨⟨l, h.cell 8 rfl rfl, rfl⟩, ⟨_, h.cell 8 rfl rfl, rfl⟩, ⟨_, h.cell 8 rfl rfl, rfl⟩, ?_⟩
      have h := SH.nil h none 2
      refine SH.appendR (f := DLock.cells) (l := []) (us := d.Locks) h (hs.ext h.ext).lr (by omega) (fun _ => rfl) rfl rfl (by decide) (by show (_ + _) * 16 ≤ _; simp; omega) plain_lck (fun l61 w62 h hl61 _ => ?_)
      refine ⟨⟨_, h.cell 9 rfl rfl, rfl⟩, ⟨_, h.cell 9 rfl rfl, rfl⟩, ?_⟩
      refine addrOf_mk ?_
      refine h.put 3 rfl rfl rfl (fun w66 h nw66 => ?_)
      rw [hsame]
      exact ⟨l56, l61, ((((((((h.dropAt 9).dropAt 8).dropAt 5).dropAt 4).front (n := 0) rfl).front (n := 1) rfl).front (n := 3) rfl).front (n := 3) rfl)⟩
    · exact ⟨t2, l2, (h.dropAt 7).dropAt 6⟩
  · rintro w33 ⟨t3, l3, h⟩
    refine addrOf_mk ?_
    have h := h.drew
    refine ⟨_, h.cellP 1 rfl rfl, _, h.cellP 1 rfl rfl, t3, h.cellP 1 rfl rfl, l3, h.cellP 1 rfl rfl, _, h.cell 0 rfl rfl, _, h.cell 0 rfl rfl, ?_⟩
    refine h.put 5 rfl rfl rfl (fun w41 h nw41 => ?_)
    refine ⟨⟨_, h.cell 0 rfl rfl, _, h.cell 0 rfl rfl, rfl⟩, ?_⟩
    refine h.put 4 rfl rfl rfl (fun w44 h nw44 => ?_)
    refine ⟨_, h.cell 5 rfl rfl, _, h.cell 5 rfl rfl, t3, h.cell 5 rfl rfl, l3, h.cell 5 rfl rfl, _, h.cell 4 rfl rfl, _, h.cell 4 rfl rfl, ?_⟩
    exact ⟨t3, l3, rfl, (((h.dropAt 5).dropAt 4).dropAt 1).dropAt 0⟩
end Go.Proofs.Yteigefjiifihpaa

/- The law's own functions over trees: copies, sizes, comparisons, marks; printed by a program. Conditions: none. -/
set_option linter.unusedVariables false
set_option linter.unusedSimpArgs false
set_option maxRecDepth 4000
namespace Go.Proofs.Yteigefjiifihpaa
open Go Go.Den

theorem has_SchedOp {d : Dat} (h : Has TySchedOp d) : ∃ x_0 : Int, ∃ x_1 : Int, ∃ x_2 : Int, d = .st [.int .i64 x_0, .int .i64 x_1, .int .i64 x_2] := by
  obtain ⟨_, rfl, g⟩ := has_st h
  obtain ⟨_, _, rfl, h_0, g⟩ := hasF_cons g
  obtain ⟨_, _, rfl, h_1, g⟩ := hasF_cons g
  obtain ⟨_, _, rfl, h_2, g⟩ := hasF_cons g
  obtain rfl := hasF_nil g
  obtain ⟨x_0, rfl⟩ := has_int h_0
  obtain ⟨x_1, rfl⟩ := has_int h_1
  obtain ⟨x_2, rfl⟩ := has_int h_2
  exact ⟨x_0, x_1, x_2, rfl⟩
theorem cells_SchedOp {w : World} {x_0 : Int} {x_1 : Int} {x_2 : Int} {cs : List Value} (h : IsD w (.st [.int .i64 x_0, .int .i64 x_1, .int .i64 x_2]) cs) : cs = [.int .i64 x_0, .int .i64 x_1, .int .i64 x_2] ∧ ((Lit.int .i64 x_0).wf = true) ∧ ((Lit.int .i64 x_1).wf = true) ∧ ((Lit.int .i64 x_2).wf = true) := by
  have q := isD_st h
  obtain ⟨_, _, rfl, i_0, q⟩ := isF_cons q
  obtain ⟨_, _, rfl, i_1, q⟩ := isF_cons q
  obtain ⟨_, _, rfl, i_2, q⟩ := isF_cons q
  obtain rfl := isF_nil q
  obtain ⟨rfl, ws_0⟩ := isD_int i_0
  obtain ⟨rfl, ws_1⟩ := isD_int i_1
  obtain ⟨rfl, ws_2⟩ := isD_int i_2
  exact ⟨rfl, ws_0, ws_1, ws_2⟩
theorem has_SchedRes {d : Dat} (h : Has TySchedRes d) : ∃ x_0 : Int, ∃ x_1 : Int, d = .st [.int .i64 x_0, .int .i64 x_1] := by
  obtain ⟨_, rfl, g⟩ := has_st h
  obtain ⟨_, _, rfl, h_0, g⟩ := hasF_cons g
  obtain ⟨_, _, rfl, h_1, g⟩ := hasF_cons g
  obtain rfl := hasF_nil g
  obtain ⟨x_0, rfl⟩ := has_int h_0
  obtain ⟨x_1, rfl⟩ := has_int h_1
  exact ⟨x_0, x_1, rfl⟩
theorem cells_SchedRes {w : World} {x_0 : Int} {x_1 : Int} {cs : List Value} (h : IsD w (.st [.int .i64 x_0, .int .i64 x_1]) cs) : cs = [.int .i64 x_0, .int .i64 x_1] ∧ ((Lit.int .i64 x_0).wf = true) ∧ ((Lit.int .i64 x_1).wf = true) := by
  have q := isD_st h
  obtain ⟨_, _, rfl, i_0, q⟩ := isF_cons q
  obtain ⟨_, _, rfl, i_1, q⟩ := isF_cons q
  obtain rfl := isF_nil q
  obtain ⟨rfl, ws_0⟩ := isD_int i_0
  obtain ⟨rfl, ws_1⟩ := isD_int i_1
  exact ⟨rfl, ws_0, ws_1⟩
theorem has_Thread {d : Dat} (h : Has TyThread d) : ∃ x_0 : Int, ∃ x_1 : Int, ∃ x_2 : Int, ∃ x_3 : Int, ∃ x_4 : Int, ∃ x_5 : Int, ∃ x_6 : Int, ∃ x_7 : Int, d = .st [.int .i64 x_0, .int .i64 x_1, .int .i64 x_2, .int .i64 x_3, .int .i64 x_4, .int .i64 x_5, .int .i64 x_6, .int .i64 x_7] := by
  obtain ⟨_, rfl, g⟩ := has_st h
  obtain ⟨_, _, rfl, h_0, g⟩ := hasF_cons g
  obtain ⟨_, _, rfl, h_1, g⟩ := hasF_cons g
  obtain ⟨_, _, rfl, h_2, g⟩ := hasF_cons g
  obtain ⟨_, _, rfl, h_3, g⟩ := hasF_cons g
  obtain ⟨_, _, rfl, h_4, g⟩ := hasF_cons g
  obtain ⟨_, _, rfl, h_5, g⟩ := hasF_cons g
  obtain ⟨_, _, rfl, h_6, g⟩ := hasF_cons g
  obtain ⟨_, _, rfl, h_7, g⟩ := hasF_cons g
  obtain rfl := hasF_nil g
  obtain ⟨x_0, rfl⟩ := has_int h_0
  obtain ⟨x_1, rfl⟩ := has_int h_1
  obtain ⟨x_2, rfl⟩ := has_int h_2
  obtain ⟨x_3, rfl⟩ := has_int h_3
  obtain ⟨x_4, rfl⟩ := has_int h_4
  obtain ⟨x_5, rfl⟩ := has_int h_5
  obtain ⟨x_6, rfl⟩ := has_int h_6
  obtain ⟨x_7, rfl⟩ := has_int h_7
  exact ⟨x_0, x_1, x_2, x_3, x_4, x_5, x_6, x_7, rfl⟩
theorem cells_Thread {w : World} {x_0 : Int} {x_1 : Int} {x_2 : Int} {x_3 : Int} {x_4 : Int} {x_5 : Int} {x_6 : Int} {x_7 : Int} {cs : List Value} (h : IsD w (.st [.int .i64 x_0, .int .i64 x_1, .int .i64 x_2, .int .i64 x_3, .int .i64 x_4, .int .i64 x_5, .int .i64 x_6, .int .i64 x_7]) cs) : cs = [.int .i64 x_0, .int .i64 x_1, .int .i64 x_2, .int .i64 x_3, .int .i64 x_4, .int .i64 x_5, .int .i64 x_6, .int .i64 x_7] ∧ ((Lit.int .i64 x_0).wf = true) ∧ ((Lit.int .i64 x_1).wf = true) ∧ ((Lit.int .i64 x_2).wf = true) ∧ ((Lit.int .i64 x_3).wf = true) ∧ ((Lit.int .i64 x_4).wf = true) ∧ ((Lit.int .i64 x_5).wf = true) ∧ ((Lit.int .i64 x_6).wf = true) ∧ ((Lit.int .i64 x_7).wf = true) := by
  have q := isD_st h
  obtain ⟨_, _, rfl, i_0, q⟩ := isF_cons q
  obtain ⟨_, _, rfl, i_1, q⟩ := isF_cons q
  obtain ⟨_, _, rfl, i_2, q⟩ := isF_cons q
  obtain ⟨_, _, rfl, i_3, q⟩ := isF_cons q
  obtain ⟨_, _, rfl, i_4, q⟩ := isF_cons q
  obtain ⟨_, _, rfl, i_5, q⟩ := isF_cons q
  obtain ⟨_, _, rfl, i_6, q⟩ := isF_cons q
  obtain ⟨_, _, rfl, i_7, q⟩ := isF_cons q
  obtain rfl := isF_nil q
  obtain ⟨rfl, ws_0⟩ := isD_int i_0
  obtain ⟨rfl, ws_1⟩ := isD_int i_1
  obtain ⟨rfl, ws_2⟩ := isD_int i_2
  obtain ⟨rfl, ws_3⟩ := isD_int i_3
  obtain ⟨rfl, ws_4⟩ := isD_int i_4
  obtain ⟨rfl, ws_5⟩ := isD_int i_5
  obtain ⟨rfl, ws_6⟩ := isD_int i_6
  obtain ⟨rfl, ws_7⟩ := isD_int i_7
  exact ⟨rfl, ws_0, ws_1, ws_2, ws_3, ws_4, ws_5, ws_6, ws_7⟩
theorem has_Lock {d : Dat} (h : Has TyLock d) : ∃ x_0 : Int, ∃ x_1 : Int, d = .st [.int .i64 x_0, .int .i64 x_1] := by
  obtain ⟨_, rfl, g⟩ := has_st h
  obtain ⟨_, _, rfl, h_0, g⟩ := hasF_cons g
  obtain ⟨_, _, rfl, h_1, g⟩ := hasF_cons g
  obtain rfl := hasF_nil g
  obtain ⟨x_0, rfl⟩ := has_int h_0
  obtain ⟨x_1, rfl⟩ := has_int h_1
  exact ⟨x_0, x_1, rfl⟩
theorem cells_Lock {w : World} {x_0 : Int} {x_1 : Int} {cs : List Value} (h : IsD w (.st [.int .i64 x_0, .int .i64 x_1]) cs) : cs = [.int .i64 x_0, .int .i64 x_1] ∧ ((Lit.int .i64 x_0).wf = true) ∧ ((Lit.int .i64 x_1).wf = true) := by
  have q := isD_st h
  obtain ⟨_, _, rfl, i_0, q⟩ := isF_cons q
  obtain ⟨_, _, rfl, i_1, q⟩ := isF_cons q
  obtain rfl := isF_nil q
  obtain ⟨rfl, ws_0⟩ := isD_int i_0
  obtain ⟨rfl, ws_1⟩ := isD_int i_1
  exact ⟨rfl, ws_0, ws_1⟩
theorem has_Sched {d : Dat} (h : Has TySched d) : ∃ x_0 : Int, ∃ x_1 : Int, ∃ l_2 : List Dat, ∃ l_3 : List Dat, d = .st [.int .i64 x_0, .int .i64 x_1, .sl 8 l_2, .sl 2 l_3] ∧ (∀ e, e ∈ l_2 → Has TyThread e) ∧ (∀ e, e ∈ l_3 → Has TyLock e) := by
  obtain ⟨_, rfl, g⟩ := has_st h
  obtain ⟨_, _, rfl, h_0, g⟩ := hasF_cons g
  obtain ⟨_, _, rfl, h_1, g⟩ := hasF_cons g
  obtain ⟨_, _, rfl, h_2, g⟩ := hasF_cons g
  obtain ⟨_, _, rfl, h_3, g⟩ := hasF_cons g
  obtain rfl := hasF_nil g
  obtain ⟨x_0, rfl⟩ := has_int h_0
  obtain ⟨x_1, rfl⟩ := has_int h_1
  obtain ⟨l_2, rfl, t_2⟩ := has_sl h_2
  obtain ⟨l_3, rfl, t_3⟩ := has_sl h_3
  exact ⟨x_0, x_1, l_2, l_3, rfl, t_2, t_3⟩
theorem cells_Sched {w : World} {x_0 : Int} {x_1 : Int} {l_2 : List Dat} {l_3 : List Dat} {cs : List Value} (h : IsD w (.st [.int .i64 x_0, .int .i64 x_1, .sl 8 l_2, .sl 2 l_3]) cs) : ∃ s_2 : Sl, ∃ s_3 : Sl, cs = [.int .i64 x_0, .int .i64 x_1, .slice s_2.a s_2.len s_2.cap, .slice s_3.a s_3.len s_3.cap] ∧ ((Lit.int .i64 x_0).wf = true) ∧ ((Lit.int .i64 x_1).wf = true) ∧ (IsD w (.sl 8 l_2) [.slice s_2.a s_2.len s_2.cap]) ∧ (IsD w (.sl 2 l_3) [.slice s_3.a s_3.len s_3.cap]) := by
  have q := isD_st h
  obtain ⟨_, _, rfl, i_0, q⟩ := isF_cons q
  obtain ⟨_, _, rfl, i_1, q⟩ := isF_cons q
  obtain ⟨_, _, rfl, i_2, q⟩ := isF_cons q
  obtain ⟨_, _, rfl, i_3, q⟩ := isF_cons q
  obtain rfl := isF_nil q
  obtain ⟨rfl, ws_0⟩ := isD_int i_0
  obtain ⟨rfl, ws_1⟩ := isD_int i_1
  obtain ⟨s_2, rfl⟩ := isD_sl_s i_2
  have is_2 := i_2
  obtain ⟨s_3, rfl⟩ := isD_sl_s i_3
  have is_3 := i_3
  exact ⟨s_2, s_3, rfl, ws_0, ws_1, is_2, is_3⟩
/- szSchedOpS -/
/- toSchedOp -/
theorem c23 {d : Dat} {cs : List Value} {w : World} (ht : Has TySchedOp d) (h : IsD w d cs) (hs : d.sz ≤ 4194304) : CallW Try.prog 23 #[.agg ⟨cs⟩] w (fun v w' => ∃ cs', v = .agg ⟨cs'⟩ ∧ Fr w.heap.size w'.heap.size w' d cs' ∧ Ext w w') := by
  obtain ⟨x_0, x_1, x_2, rfl⟩ := has_SchedOp ht
  obtain ⟨rfl, ws_0, ws_1, ws_2⟩ := cells_SchedOp h
  show CallW Try.prog 23 #[.agg #[.int .i64 x_0, .int .i64 x_1, .int .i64 x_2]] w _
  refine go23 ?_
  unfold W23
  refine alloc_step (fun w1 e1 ha n1 => ?_)
  refine alloc_step (fun w2 e2 hc n2 => ?_)
  have ha := ha.ext e2
  refine alloc_step (fun w3 e3 hb n3 => ?_)
  have ha := ha.ext e3
  have hc := hc.ext e3
  have e := Only.trans e1 (Only.trans e2 e3)
  refine ⟨_, ha.cell 0, ?_⟩
  refine set_step hb (by simp) (fun w4 o4 hb n4 => ?_)
  have ha := ha.only o4 (by omega)
  have hc := hc.only o4 (by omega)
  have e := Ext.own e o4 (fun k hk => by omega)
  refine ⟨_, ha.cell 1, ?_⟩
  refine set_step hb (by simp) (fun w5 o5 hb n5 => ?_)
  have ha := ha.only o5 (by omega)
  have hc := hc.only o5 (by omega)
  have e := Ext.own e o5 (fun k hk => by omega)
  refine ⟨_, ha.cell 2, ?_⟩
  refine set_step hb (by simp) (fun w6 o6 hb n6 => ?_)
  have ha := ha.only o6 (by omega)
  have hc := hc.only o6 (by omega)
  have e := Ext.own e o6 (fun k hk => by omega)
  refine ⟨_, hb.cell 0, _, hb.cell 1, _, hb.cell 2, ?_⟩
  refine put_step hc rfl rfl (fun w7 o7 hc n7 => ?_)
  have e := Ext.own e o7 (fun k hk => by omega)
  refine ⟨_, hc.cell 0, _, hc.cell 1, _, hc.cell 2, ?_⟩
  exact ⟨[.int .i64 x_0, .int .i64 x_1, .int .i64 x_2], rfl, frF_st (frF_cons (m := w.heap.size) (fr_int ws_0) (frF_cons (m := w.heap.size) (fr_int ws_1) (frF_cons (m := w.heap.size) (fr_int ws_2) (frF_nil) (by omega) (by omega)) (by omega) (by omega)) (by omega) (by omega)), e⟩

/- toSchedOpS -/
/- eqSchedRes -/
theorem c26 {d : Dat} {cs1 cs2 : List Value} {w : World} (ht : Has TySchedRes d) (h : IsD w d cs1) (h2 : IsD w d cs2) : CallW Try.prog 26 #[.agg ⟨cs1⟩, .agg ⟨cs2⟩] w (fun v w' => v = .bool true ∧ Ext w w') := by
  obtain ⟨x_0, x_1, rfl⟩ := has_SchedRes ht
  obtain ⟨rfl, ws_0, ws_1⟩ := cells_SchedRes h
  obtain ⟨rfl, wu_0, wu_1⟩ := cells_SchedRes h2
  show CallW Try.prog 26 #[.agg #[.int .i64 x_0, .int .i64 x_1], .agg #[.int .i64 x_0, .int .i64 x_1]] w _
  refine go26 ?_
  unfold W26
  refine alloc_step (fun w1 e1 ha n1 => ?_)
  refine alloc_step (fun w2 e2 hb n2 => ?_)
  have ha := ha.ext e2
  have e := Only.trans e1 e2
  refine ⟨_, ha.cell 0, _, hb.cell 0, BIf.f (by simp) ?_⟩
  refine ⟨_, ha.cell 1, _, hb.cell 1, BIf.f (by simp) ?_⟩
  exact ⟨rfl, e⟩

/- eqSchedResS -/
/- eqSchedOp -/
/- eqSchedOpS -/
/- markSchedOpS -/
/- markSchedResS -/
/- heldSchedResS -/
/- szThreadS -/
theorem c63 {l : List Dat} {a0 : Sl} {left : Int} {w : World} (ht : ∀ e, e ∈ l → Has TyThread e) (h : IsD w (.sl 8 l) [.slice a0.a a0.len a0.cap]) (h0 : 0 ≤ left) (hl : left ≤ 4611686018427387904) : CallW Try.prog 63 #[.slice a0.a a0.len a0.cap, .int .i64 left] w (fun v w' => SzPost (Dat.sl 8 l).sz left v ∧ Ext w w') := by
  refine go63 ?_
  unfold W63
  obtain ⟨hlen, hmax, hel⟩ := isD_sl h
  have hmx : maxLen = 9223372036854775807 := rfl
  rw [hlen, w64 (by omega) (by omega)]
  have hz : Dat.szs l = 0 := by
    refine szs_zero (fun d hd => ?_)
    have ht0 := ht d hd
    obtain ⟨x_0, x_1, x_2, x_3, x_4, x_5, x_6, x_7, rfl⟩ := has_Thread ht0
    rfl
  refine BIf.dec (fun hn => ⟨⟨_, rfl, .inr ⟨by omega, by simp only [Dat.sz]; omega⟩⟩, Only.refl _ _⟩) (fun hp => ⟨⟨_, rfl, .inl ⟨by simp only [Dat.sz]; omega, by omega⟩⟩, Only.refl _ _⟩)

/- szLockS -/
theorem c64 {l : List Dat} {a0 : Sl} {left : Int} {w : World} (ht : ∀ e, e ∈ l → Has TyLock e) (h : IsD w (.sl 2 l) [.slice a0.a a0.len a0.cap]) (h0 : 0 ≤ left) (hl : left ≤ 4611686018427387904) : CallW Try.prog 64 #[.slice a0.a a0.len a0.cap, .int .i64 left] w (fun v w' => SzPost (Dat.sl 2 l).sz left v ∧ Ext w w') := by
  refine go64 ?_
  unfold W64
  obtain ⟨hlen, hmax, hel⟩ := isD_sl h
  have hmx : maxLen = 9223372036854775807 := rfl
  rw [hlen, w64 (by omega) (by omega)]
  have hz : Dat.szs l = 0 := by
    refine szs_zero (fun d hd => ?_)
    have ht0 := ht d hd
    obtain ⟨x_0, x_1, rfl⟩ := has_Lock ht0
    rfl
  refine BIf.dec (fun hn => ⟨⟨_, rfl, .inr ⟨by omega, by simp only [Dat.sz]; omega⟩⟩, Only.refl _ _⟩) (fun hp => ⟨⟨_, rfl, .inl ⟨by simp only [Dat.sz]; omega, by omega⟩⟩, Only.refl _ _⟩)

/- szSched -/
theorem c20 {d : Dat} {cs : List Value} {left : Int} {w : World} (ht : Has TySched d) (h : IsD w d cs) (h0 : 0 ≤ left) (hl : left ≤ 4611686018427387904) : CallW Try.prog 20 #[.agg ⟨cs⟩, .int .i64 left] w (fun v w' => SzPost d.sz left v ∧ Ext w w') := by
  obtain ⟨x_0, x_1, l_2, l_3, rfl, t_2, t_3⟩ := has_Sched ht
  obtain ⟨s_2, s_3, rfl, ws_0, ws_1, is_2, is_3⟩ := cells_Sched h
  show CallW Try.prog 20 #[.agg #[.int .i64 x_0, .int .i64 x_1, .slice s_2.a s_2.len s_2.cap, .slice s_3.a s_3.len s_3.cap], .int .i64 left] w _
  refine go20 ?_
  unfold W20
  refine alloc_step (fun w1 e ha n1 => ?_)
  have hmx : maxLen = 9223372036854775807 := rfl
  have hx : (0 : Int) ≤ left ∧ left ≤ left := ⟨h0, Int.le_refl _⟩
  have hd := Int.sub_zero left
  refine ⟨s_2, ha.cell 2, (c63 t_2 (IsD.ext e _ _ is_2) (by omega) (by omega)).mono ?_⟩
  rintro _ w2 ⟨⟨r2, rfl, hr2⟩, e2⟩
  have ha := ha.ext e2
  have e := Only.trans e e2
  refine ⟨r2, rfl, BIf.dec (fun hn => ⟨⟨_, rfl, .inr ⟨by omega, by simp only [Dat.sz, Dat.szs] at *; omega⟩⟩, e⟩) (fun hp2 => ?_)⟩
  refine ⟨s_3, ha.cell 3, (c64 t_3 (IsD.ext e _ _ is_3) (by omega) (by omega)).mono ?_⟩
  rintro _ w3 ⟨⟨r3, rfl, hr3⟩, e3⟩
  have ha := ha.ext e3
  have e := Only.trans e e3
  refine ⟨r3, rfl, BIf.dec (fun hn => ⟨⟨_, rfl, .inr ⟨by omega, by simp only [Dat.sz, Dat.szs] at *; omega⟩⟩, e⟩) (fun hp3 => ?_)⟩
  exact ⟨⟨_, rfl, .inl ⟨by simp only [Dat.sz, Dat.szs] at *; omega, by omega⟩⟩, e⟩

/- toThread -/
theorem c112 {d : Dat} {cs : List Value} {w : World} (ht : Has TyThread d) (h : IsD w d cs) (hs : d.sz ≤ 4194304) : CallW Try.prog 112 #[.agg ⟨cs⟩] w (fun v w' => ∃ cs', v = .agg ⟨cs'⟩ ∧ Fr w.heap.size w'.heap.size w' d cs' ∧ Ext w w') := by
  obtain ⟨x_0, x_1, x_2, x_3, x_4, x_5, x_6, x_7, rfl⟩ := has_Thread ht
  obtain ⟨rfl, ws_0, ws_1, ws_2, ws_3, ws_4, ws_5, ws_6, ws_7⟩ := cells_Thread h
  show CallW Try.prog 112 #[.agg #[.int .i64 x_0, .int .i64 x_1, .int .i64 x_2, .int .i64 x_3, .int .i64 x_4, .int .i64 x_5, .int .i64 x_6, .int .i64 x_7]] w _
  refine go112 ?_
  unfold W112
  refine alloc_step (fun w1 e1 ha n1 => ?_)
  refine alloc_step (fun w2 e2 hc n2 => ?_)
  have ha := ha.ext e2
  refine alloc_step (fun w3 e3 hb n3 => ?_)
  have ha := ha.ext e3
  have hc := hc.ext e3
  have e := Only.trans e1 (Only.trans e2 e3)
  refine ⟨_, ha.cell 0, ?_⟩
  refine set_step hb (by simp) (fun w4 o4 hb n4 => ?_)
  have ha := ha.only o4 (by omega)
  have hc := hc.only o4 (by omega)
  have e := Ext.own e o4 (fun k hk => by omega)
  refine ⟨_, ha.cell 1, ?_⟩
  refine set_step hb (by simp) (fun w5 o5 hb n5 => ?_)
  have ha := ha.only o5 (by omega)
  have hc := hc.only o5 (by omega)
  have e := Ext.own e o5 (fun k hk => by omega)
  refine ⟨_, ha.cell 2, ?_⟩
  refine set_step hb (by simp) (fun w6 o6 hb n6 => ?_)
  have ha := ha.only o6 (by omega)
  have hc := hc.only o6 (by omega)
  have e := Ext.own e o6 (fun k hk => by omega)
  refine ⟨_, ha.cell 3, ?_⟩
  refine set_step hb (by simp) (fun w7 o7 hb n7 => ?_)
  have ha := ha.only o7 (by omega)
  have hc := hc.only o7 (by omega)
  have e := Ext.own e o7 (fun k hk => by omega)
  refine ⟨_, ha.cell 4, ?_⟩
  refine set_step hb (by simp) (fun w8 o8 hb n8 => ?_)
  have ha := ha.only o8 (by omega)
  have hc := hc.only o8 (by omega)
  have e := Ext.own e o8 (fun k hk => by omega)
  refine ⟨_, ha.cell 5, ?_⟩
  refine set_step hb (by simp) (fun w9 o9 hb n9 => ?_)
  have ha := ha.only o9 (by omega)
  have hc := hc.only o9 (by omega)
  have e := Ext.own e o9 (fun k hk => by omega)
  refine ⟨_, ha.cell 6, ?_⟩
  refine set_step hb (by simp) (fun w10 o10 hb n10 => ?_)
  have ha := ha.only o10 (by omega)
  have hc := hc.only o10 (by omega)
  have e := Ext.own e o10 (fun k hk => by omega)
  refine ⟨_, ha.cell 7, ?_⟩
  refine set_step hb (by simp) (fun w11 o11 hb n11 => ?_)
  have ha := ha.only o11 (by omega)
  have hc := hc.only o11 (by omega)
  have e := Ext.own e o11 (fun k hk => by omega)
  refine ⟨_, hb.cell 0, _, hb.cell 1, _, hb.cell 2, _, hb.cell 3, _, hb.cell 4, _, hb.cell 5, _, hb.cell 6, _, hb.cell 7, ?_⟩
  refine put_step hc rfl rfl (fun w12 o12 hc n12 => ?_)
  have e := Ext.own e o12 (fun k hk => by omega)
  refine ⟨_, hc.cell 0, _, hc.cell 1, _, hc.cell 2, _, hc.cell 3, _, hc.cell 4, _, hc.cell 5, _, hc.cell 6, _, hc.cell 7, ?_⟩
  exact ⟨[.int .i64 x_0, .int .i64 x_1, .int .i64 x_2, .int .i64 x_3, .int .i64 x_4, .int .i64 x_5, .int .i64 x_6, .int .i64 x_7], rfl, frF_st (frF_cons (m := w.heap.size) (fr_int ws_0) (frF_cons (m := w.heap.size) (fr_int ws_1) (frF_cons (m := w.heap.size) (fr_int ws_2) (frF_cons (m := w.heap.size) (fr_int ws_3) (frF_cons (m := w.heap.size) (fr_int ws_4) (frF_cons (m := w.heap.size) (fr_int ws_5) (frF_cons (m := w.heap.size) (fr_int ws_6) (frF_cons (m := w.heap.size) (fr_int ws_7) (frF_nil) (by omega) (by omega)) (by omega) (by omega)) (by omega) (by omega)) (by omega) (by omega)) (by omega) (by omega)) (by omega) (by omega)) (by omega) (by omega)) (by omega) (by omega)), e⟩

/- toThreadS -/
theorem c66 {l : List Dat} {a0 : Sl} {w : World} (ht : ∀ e, e ∈ l → Has TyThread e) (h : IsD w (.sl 8 l) [.slice a0.a a0.len a0.cap]) (hs : (Dat.sl 8 l).sz ≤ 4194304) : CallW Try.prog 66 #[.slice a0.a a0.len a0.cap] w (fun v w' => ∃ s : Sl, v = .slice s.a s.len s.cap ∧ Fr w.heap.size w'.heap.size w' (.sl 8 l) [.slice s.a s.len s.cap] ∧ Ext w w') := by
  refine go66 ?_
  unfold W66
  obtain ⟨hlen, hmax, hel⟩ := isD_sl h
  simp only [Dat.sz] at hs
  rw [hlen]; simp only [Int.toNat_natCast]
  refine ⟨by omega, by omega, by omega, by omega, LetW_iff.2 ?_⟩
  have hs0 := ToInv.start (w := w) (z := 8) (zero := ti61.zero) (e := 61) l rfl
  generalize w.alloc (.cells ⟨zerosOf ti61.zero l.length⟩ 61) = w1 at *
  refine LoopW.m1 (fun (i : Int) w' => ∃ (k : Nat) (bs : List Nat) (vs : List Value), i = k ∧ ToInv w w' w.heap.size 8 l k bs vs) (fun (i : Int) _ => (l.length - i).toNat) ⟨0, [], _, rfl, hs0⟩ ?_
  rintro (i : Int) w4 ⟨k, bs, vs, rfl, hi⟩ J hJ
  refine BIf.dec (fun hlt => ?_) (fun hge => ?_)
  · obtain ⟨d, hd⟩ : ∃ d, l[k]? = some d := ⟨_, List.getElem?_eq_getElem (by omega)⟩
    have hsz := szs_get hd
    obtain ⟨p, es, hp, he, hc, his⟩ := isD_at (IsD.ext hi.ext _ _ h) hd
    have ht0 := ht d (mem_get hd)
    obtain ⟨x_0, x_1, x_2, x_3, x_4, x_5, x_6, x_7, rfl⟩ := has_Thread ht0
    have his0 := his
    obtain ⟨rfl, ws_0, ws_1, ws_2, ws_3, ws_4, ws_5, ws_6, ws_7⟩ := cells_Thread his
    refine ⟨by omega, by omega, p, hp, _, hc 0 _ rfl, _, hc 1 _ rfl, _, hc 2 _ rfl, _, hc 3 _ rfl, _, hc 4 _ rfl, _, hc 5 _ rfl, _, hc 6 _ rfl, _, hc 7 _ rfl, (c112 (cs := [.int .i64 x_0, .int .i64 x_1, .int .i64 x_2, .int .i64 x_3, .int .i64 x_4, .int .i64 x_5, .int .i64 x_6, .int .i64 x_7]) ht0 his0 (by omega)).mono ?_⟩
    rintro _ w9 ⟨r, rfl, f, e9⟩
    have hr := f.is
    obtain ⟨rfl, wr_0, wr_1, wr_2, wr_3, wr_4, wr_5, wr_6, wr_7⟩ := cells_Thread hr
    obtain ⟨b1, ho, hn, hb⟩ := f
    obtain ⟨hm, hi2⟩ := hi.step hd e9 ho hn (fun c hc => (hb c hc).1) rfl
    refine ⟨_, _, _, _, _, _, _, _, rfl, by omega, by omega, _, rfl, hm, LetW_iff.2 ?_⟩
    rw [w64 (by omega) (by omega)]
    exact hJ _ _ ⟨k + 1, _, _, by omega, hi2⟩ (by omega)
  · exact ⟨⟨some ⟨w.heap.size, 0, none⟩, l.length, l.length⟩, rfl, (hi.done (by omega) hmax).fr, hi.ext⟩

/- toLock -/
theorem c113 {d : Dat} {cs : List Value} {w : World} (ht : Has TyLock d) (h : IsD w d cs) (hs : d.sz ≤ 4194304) : CallW Try.prog 113 #[.agg ⟨cs⟩] w (fun v w' => ∃ cs', v = .agg ⟨cs'⟩ ∧ Fr w.heap.size w'.heap.size w' d cs' ∧ Ext w w') := by
  obtain ⟨x_0, x_1, rfl⟩ := has_Lock ht
  obtain ⟨rfl, ws_0, ws_1⟩ := cells_Lock h
  show CallW Try.prog 113 #[.agg #[.int .i64 x_0, .int .i64 x_1]] w _
  refine go113 ?_
  unfold W113
  refine alloc_step (fun w1 e1 ha n1 => ?_)
  refine alloc_step (fun w2 e2 hc n2 => ?_)
  have ha := ha.ext e2
  refine alloc_step (fun w3 e3 hb n3 => ?_)
  have ha := ha.ext e3
  have hc := hc.ext e3
  have e := Only.trans e1 (Only.trans e2 e3)
  refine ⟨_, ha.cell 0, ?_⟩
  refine set_step hb (by simp) (fun w4 o4 hb n4 => ?_)
  have ha := ha.only o4 (by omega)
  have hc := hc.only o4 (by omega)
  have e := Ext.own e o4 (fun k hk => by omega)
  refine ⟨_, ha.cell 1, ?_⟩
  refine set_step hb (by simp) (fun w5 o5 hb n5 => ?_)
  have ha := ha.only o5 (by omega)
  have hc := hc.only o5 (by omega)
  have e := Ext.own e o5 (fun k hk => by omega)
  refine ⟨_, hb.cell 0, _, hb.cell 1, ?_⟩
  refine put_step hc rfl rfl (fun w6 o6 hc n6 => ?_)
  have e := Ext.own e o6 (fun k hk => by omega)
  refine ⟨_, hc.cell 0, _, hc.cell 1, ?_⟩
  exact ⟨[.int .i64 x_0, .int .i64 x_1], rfl, frF_st (frF_cons (m := w.heap.size) (fr_int ws_0) (frF_cons (m := w.heap.size) (fr_int ws_1) (frF_nil) (by omega) (by omega)) (by omega) (by omega)), e⟩

/- toLockS -/
theorem c67 {l : List Dat} {a0 : Sl} {w : World} (ht : ∀ e, e ∈ l → Has TyLock e) (h : IsD w (.sl 2 l) [.slice a0.a a0.len a0.cap]) (hs : (Dat.sl 2 l).sz ≤ 4194304) : CallW Try.prog 67 #[.slice a0.a a0.len a0.cap] w (fun v w' => ∃ s : Sl, v = .slice s.a s.len s.cap ∧ Fr w.heap.size w'.heap.size w' (.sl 2 l) [.slice s.a s.len s.cap] ∧ Ext w w') := by
  refine go67 ?_
  unfold W67
  obtain ⟨hlen, hmax, hel⟩ := isD_sl h
  simp only [Dat.sz] at hs
  rw [hlen]; simp only [Int.toNat_natCast]
  refine ⟨by omega, by omega, by omega, by omega, LetW_iff.2 ?_⟩
  have hs0 := ToInv.start (w := w) (z := 2) (zero := ti122.zero) (e := 122) l rfl
  generalize w.alloc (.cells ⟨zerosOf ti122.zero l.length⟩ 122) = w1 at *
  refine LoopW.m1 (fun (i : Int) w' => ∃ (k : Nat) (bs : List Nat) (vs : List Value), i = k ∧ ToInv w w' w.heap.size 2 l k bs vs) (fun (i : Int) _ => (l.length - i).toNat) ⟨0, [], _, rfl, hs0⟩ ?_
  rintro (i : Int) w4 ⟨k, bs, vs, rfl, hi⟩ J hJ
  refine BIf.dec (fun hlt => ?_) (fun hge => ?_)
  · obtain ⟨d, hd⟩ : ∃ d, l[k]? = some d := ⟨_, List.getElem?_eq_getElem (by omega)⟩
    have hsz := szs_get hd
    obtain ⟨p, es, hp, he, hc, his⟩ := isD_at (IsD.ext hi.ext _ _ h) hd
    have ht0 := ht d (mem_get hd)
    obtain ⟨x_0, x_1, rfl⟩ := has_Lock ht0
    have his0 := his
    obtain ⟨rfl, ws_0, ws_1⟩ := cells_Lock his
    refine ⟨by omega, by omega, p, hp, _, hc 0 _ rfl, _, hc 1 _ rfl, (c113 (cs := [.int .i64 x_0, .int .i64 x_1]) ht0 his0 (by omega)).mono ?_⟩
    rintro _ w9 ⟨r, rfl, f, e9⟩
    have hr := f.is
    obtain ⟨rfl, wr_0, wr_1⟩ := cells_Lock hr
    obtain ⟨b1, ho, hn, hb⟩ := f
    obtain ⟨hm, hi2⟩ := hi.step hd e9 ho hn (fun c hc => (hb c hc).1) rfl
    refine ⟨_, _, rfl, by omega, by omega, _, rfl, hm, LetW_iff.2 ?_⟩
    rw [w64 (by omega) (by omega)]
    exact hJ _ _ ⟨k + 1, _, _, by omega, hi2⟩ (by omega)
  · exact ⟨⟨some ⟨w.heap.size, 0, none⟩, l.length, l.length⟩, rfl, (hi.done (by omega) hmax).fr, hi.ext⟩

/- toSched -/
theorem c22 {d : Dat} {cs : List Value} {w : World} (ht : Has TySched d) (h : IsD w d cs) (hs : d.sz ≤ 4194304) : CallW Try.prog 22 #[.agg ⟨cs⟩] w (fun v w' => ∃ cs', v = .agg ⟨cs'⟩ ∧ Fr w.heap.size w'.heap.size w' d cs' ∧ Ext w w') := by
  obtain ⟨x_0, x_1, l_2, l_3, rfl, t_2, t_3⟩ := has_Sched ht
  obtain ⟨s_2, s_3, rfl, ws_0, ws_1, is_2, is_3⟩ := cells_Sched h
  show CallW Try.prog 22 #[.agg #[.int .i64 x_0, .int .i64 x_1, .slice s_2.a s_2.len s_2.cap, .slice s_3.a s_3.len s_3.cap]] w _
  refine go22 ?_
  unfold W22
  refine alloc_step (fun w1 e1 ha n1 => ?_)
  refine alloc_step (fun w2 e2 hc n2 => ?_)
  have ha := ha.ext e2
  refine alloc_step (fun w3 e3 hb n3 => ?_)
  have ha := ha.ext e3
  have hc := hc.ext e3
  have e := Only.trans e1 (Only.trans e2 e3)
  refine ⟨_, ha.cell 0, ?_⟩
  refine set_step hb (by simp) (fun w4 o4 hb n4 => ?_)
  have ha := ha.only o4 (by omega)
  have hc := hc.only o4 (by omega)
  have e := Ext.own e o4 (fun k hk => by omega)
  refine ⟨_, ha.cell 1, ?_⟩
  refine set_step hb (by simp) (fun w5 o5 hb n5 => ?_)
  have ha := ha.only o5 (by omega)
  have hc := hc.only o5 (by omega)
  have e := Ext.own e o5 (fun k hk => by omega)
  refine ⟨s_2, ha.cell 2, ?_⟩
  refine (c66 t_2 (IsD.ext e _ _ is_2) (by simp only [Dat.sz, Dat.szs] at hs ⊢; omega)).mono ?_
  rintro _ w6 ⟨r_2, rfl, f_2, e6⟩
  refine ⟨r_2, rfl, ?_⟩
  have ha := ha.ext e6
  have hb := hb.ext e6
  have hc := hc.ext e6
  have e := Only.trans e e6
  have z6 := e6.size
  refine set_step hb (by simp) (fun w7 o7 hb n7 => ?_)
  have ha := ha.only o7 (by omega)
  have hc := hc.only o7 (by omega)
  have e := Ext.own e o7 (fun k hk => by omega)
  have f_2 := f_2.only o7 (fun k _ _ => by omega)
  refine ⟨s_3, ha.cell 3, ?_⟩
  refine (c67 t_3 (IsD.ext e _ _ is_3) (by simp only [Dat.sz, Dat.szs] at hs ⊢; omega)).mono ?_
  rintro _ w8 ⟨r_3, rfl, f_3, e8⟩
  refine ⟨r_3, rfl, ?_⟩
  have ha := ha.ext e8
  have hb := hb.ext e8
  have hc := hc.ext e8
  have e := Only.trans e e8
  have z8 := e8.size
  have f_2 := f_2.ext e8
  refine set_step hb (by simp) (fun w9 o9 hb n9 => ?_)
  have ha := ha.only o9 (by omega)
  have hc := hc.only o9 (by omega)
  have e := Ext.own e o9 (fun k hk => by omega)
  have f_2 := f_2.only o9 (fun k _ _ => by omega)
  have f_3 := f_3.only o9 (fun k _ _ => by omega)
  refine ⟨_, hb.cell 0, _, hb.cell 1, r_2, hb.cell 2, r_3, hb.cell 3, ?_⟩
  refine put_step hc rfl rfl (fun w10 o10 hc n10 => ?_)
  have e := Ext.own e o10 (fun k hk => by omega)
  have f_2 := f_2.only o10 (fun k _ _ => by omega)
  have f_3 := f_3.only o10 (fun k _ _ => by omega)
  refine ⟨_, hc.cell 0, _, hc.cell 1, r_2, hc.cell 2, r_3, hc.cell 3, ?_⟩
  exact ⟨[.int .i64 x_0, .int .i64 x_1, .slice r_2.a r_2.len r_2.cap, .slice r_3.a r_3.len r_3.cap], rfl, frF_st (frF_cons (m := w.heap.size) (fr_int ws_0) (frF_cons (m := w.heap.size) (fr_int ws_1) (frF_cons (m := w6.heap.size) (f_2.mono (by omega) (Nat.le_refl _)) (frF_cons (m := w8.heap.size) (f_3.mono (by omega) (Nat.le_refl _)) (frF_nil) (by omega) (by omega)) (by omega) (by omega)) (by omega) (by omega)) (by omega) (by omega)), e⟩

/- eqThread -/
theorem c117 {d : Dat} {cs1 cs2 : List Value} {w : World} (ht : Has TyThread d) (h : IsD w d cs1) (h2 : IsD w d cs2) : CallW Try.prog 117 #[.agg ⟨cs1⟩, .agg ⟨cs2⟩] w (fun v w' => v = .bool true ∧ Ext w w') := by
  obtain ⟨x_0, x_1, x_2, x_3, x_4, x_5, x_6, x_7, rfl⟩ := has_Thread ht
  obtain ⟨rfl, ws_0, ws_1, ws_2, ws_3, ws_4, ws_5, ws_6, ws_7⟩ := cells_Thread h
  obtain ⟨rfl, wu_0, wu_1, wu_2, wu_3, wu_4, wu_5, wu_6, wu_7⟩ := cells_Thread h2
  show CallW Try.prog 117 #[.agg #[.int .i64 x_0, .int .i64 x_1, .int .i64 x_2, .int .i64 x_3, .int .i64 x_4, .int .i64 x_5, .int .i64 x_6, .int .i64 x_7], .agg #[.int .i64 x_0, .int .i64 x_1, .int .i64 x_2, .int .i64 x_3, .int .i64 x_4, .int .i64 x_5, .int .i64 x_6, .int .i64 x_7]] w _
  refine go117 ?_
  unfold W117
  refine alloc_step (fun w1 e1 ha n1 => ?_)
  refine alloc_step (fun w2 e2 hb n2 => ?_)
  have ha := ha.ext e2
  have e := Only.trans e1 e2
  refine ⟨_, ha.cell 0, _, hb.cell 0, BIf.f (by simp) ?_⟩
  refine ⟨_, ha.cell 1, _, hb.cell 1, BIf.f (by simp) ?_⟩
  refine ⟨_, ha.cell 2, _, hb.cell 2, BIf.f (by simp) ?_⟩
  refine ⟨_, ha.cell 3, _, hb.cell 3, BIf.f (by simp) ?_⟩
  refine ⟨_, ha.cell 4, _, hb.cell 4, BIf.f (by simp) ?_⟩
  refine ⟨_, ha.cell 5, _, hb.cell 5, BIf.f (by simp) ?_⟩
  refine ⟨_, ha.cell 6, _, hb.cell 6, BIf.f (by simp) ?_⟩
  refine ⟨_, ha.cell 7, _, hb.cell 7, BIf.f (by simp) ?_⟩
  exact ⟨rfl, e⟩

/- eqThreadS -/
theorem c69 {l : List Dat} {a0 a1 : Sl} {w : World} (ht : ∀ e, e ∈ l → Has TyThread e) (h : IsD w (.sl 8 l) [.slice a0.a a0.len a0.cap]) (h2 : IsD w (.sl 8 l) [.slice a1.a a1.len a1.cap]) : CallW Try.prog 69 #[.slice a0.a a0.len a0.cap, .slice a1.a a1.len a1.cap] w (fun v w' => v = .bool true ∧ Ext w w') := by
  refine go69 ?_
  unfold W69
  obtain ⟨hlen, hmax, hel⟩ := isD_sl h
  obtain ⟨hlen2, _, hel2⟩ := isD_sl h2
  have hmx : maxLen = 9223372036854775807 := rfl
  rw [hlen, hlen2]
  refine BIf.f (by simp) ?_
  refine LoopW.m1 (fun (i : Int) w' => ∃ k : Nat, i = k ∧ k ≤ l.length ∧ Ext w w') (fun (i : Int) _ => (l.length - i).toNat) ⟨0, rfl, by omega, Only.refl _ _⟩ ?_
  rintro (i : Int) w4 ⟨k, rfl, hk, e4⟩ J hJ
  refine BIf.dec (fun hlt => ?_) (fun hge => ⟨rfl, e4⟩)
  obtain ⟨d, hd⟩ : ∃ d, l[k]? = some d := ⟨_, List.getElem?_eq_getElem (by omega)⟩
  have e4 := Only.trans e4 (ext_drew w4)
  obtain ⟨p, es, hp, he, hc, his⟩ := isD_at (IsD.ext e4 _ _ h) hd
  obtain ⟨p2, es2, hp2, he2, hc2, his2⟩ := isD_at (IsD.ext e4 _ _ h2) hd
  have ht0 := ht d (mem_get hd)
  have ht1 := ht0
  obtain ⟨x_0, x_1, x_2, x_3, x_4, x_5, x_6, x_7, rfl⟩ := has_Thread ht1
  have his0 := his
  have his20 := his2
  obtain ⟨rfl, ws_0, ws_1, ws_2, ws_3, ws_4, ws_5, ws_6, ws_7⟩ := cells_Thread his
  obtain ⟨rfl, wu_0, wu_1, wu_2, wu_3, wu_4, wu_5, wu_6, wu_7⟩ := cells_Thread his2
  refine ⟨by omega, by omega, p, hp, _, hc 0 _ rfl, _, hc 1 _ rfl, _, hc 2 _ rfl, _, hc 3 _ rfl, _, hc 4 _ rfl, _, hc 5 _ rfl, _, hc 6 _ rfl, _, hc 7 _ rfl, by omega, by omega, p2, hp2, _, hc2 0 _ rfl, _, hc2 1 _ rfl, _, hc2 2 _ rfl, _, hc2 3 _ rfl, _, hc2 4 _ rfl, _, hc2 5 _ rfl, _, hc2 6 _ rfl, _, hc2 7 _ rfl, (c117 (cs1 := [.int .i64 x_0, .int .i64 x_1, .int .i64 x_2, .int .i64 x_3, .int .i64 x_4, .int .i64 x_5, .int .i64 x_6, .int .i64 x_7]) (cs2 := [.int .i64 x_0, .int .i64 x_1, .int .i64 x_2, .int .i64 x_3, .int .i64 x_4, .int .i64 x_5, .int .i64 x_6, .int .i64 x_7]) ht0 his0 his20).mono ?_⟩
  rintro _ w9 ⟨rfl, e9⟩
  refine ⟨true, rfl, BIf.f rfl ?_⟩
  rw [w64 (by omega) (by omega)]
  exact hJ _ _ ⟨k + 1, by omega, by omega, Only.trans e4 e9⟩ (by omega)

/- eqLock -/
theorem c118 {d : Dat} {cs1 cs2 : List Value} {w : World} (ht : Has TyLock d) (h : IsD w d cs1) (h2 : IsD w d cs2) : CallW Try.prog 118 #[.agg ⟨cs1⟩, .agg ⟨cs2⟩] w (fun v w' => v = .bool true ∧ Ext w w') := by
  obtain ⟨x_0, x_1, rfl⟩ := has_Lock ht
  obtain ⟨rfl, ws_0, ws_1⟩ := cells_Lock h
  obtain ⟨rfl, wu_0, wu_1⟩ := cells_Lock h2
  show CallW Try.prog 118 #[.agg #[.int .i64 x_0, .int .i64 x_1], .agg #[.int .i64 x_0, .int .i64 x_1]] w _
  refine go118 ?_
  unfold W118
  refine alloc_step (fun w1 e1 ha n1 => ?_)
  refine alloc_step (fun w2 e2 hb n2 => ?_)
  have ha := ha.ext e2
  have e := Only.trans e1 e2
  refine ⟨_, ha.cell 0, _, hb.cell 0, BIf.f (by simp) ?_⟩
  refine ⟨_, ha.cell 1, _, hb.cell 1, BIf.f (by simp) ?_⟩
  exact ⟨rfl, e⟩

/- eqLockS -/
theorem c70 {l : List Dat} {a0 a1 : Sl} {w : World} (ht : ∀ e, e ∈ l → Has TyLock e) (h : IsD w (.sl 2 l) [.slice a0.a a0.len a0.cap]) (h2 : IsD w (.sl 2 l) [.slice a1.a a1.len a1.cap]) : CallW Try.prog 70 #[.slice a0.a a0.len a0.cap, .slice a1.a a1.len a1.cap] w (fun v w' => v = .bool true ∧ Ext w w') := by
  refine go70 ?_
  unfold W70
  obtain ⟨hlen, hmax, hel⟩ := isD_sl h
  obtain ⟨hlen2, _, hel2⟩ := isD_sl h2
  have hmx : maxLen = 9223372036854775807 := rfl
  rw [hlen, hlen2]
  refine BIf.f (by simp) ?_
  refine LoopW.m1 (fun (i : Int) w' => ∃ k : Nat, i = k ∧ k ≤ l.length ∧ Ext w w') (fun (i : Int) _ => (l.length - i).toNat) ⟨0, rfl, by omega, Only.refl _ _⟩ ?_
  rintro (i : Int) w4 ⟨k, rfl, hk, e4⟩ J hJ
  refine BIf.dec (fun hlt => ?_) (fun hge => ⟨rfl, e4⟩)
  obtain ⟨d, hd⟩ : ∃ d, l[k]? = some d := ⟨_, List.getElem?_eq_getElem (by omega)⟩
  have e4 := Only.trans e4 (ext_drew w4)
  obtain ⟨p, es, hp, he, hc, his⟩ := isD_at (IsD.ext e4 _ _ h) hd
  obtain ⟨p2, es2, hp2, he2, hc2, his2⟩ := isD_at (IsD.ext e4 _ _ h2) hd
  have ht0 := ht d (mem_get hd)
  have ht1 := ht0
  obtain ⟨x_0, x_1, rfl⟩ := has_Lock ht1
  have his0 := his
  have his20 := his2
  obtain ⟨rfl, ws_0, ws_1⟩ := cells_Lock his
  obtain ⟨rfl, wu_0, wu_1⟩ := cells_Lock his2
  refine ⟨by omega, by omega, p, hp, _, hc 0 _ rfl, _, hc 1 _ rfl, by omega, by omega, p2, hp2, _, hc2 0 _ rfl, _, hc2 1 _ rfl, (c118 (cs1 := [.int .i64 x_0, .int .i64 x_1]) (cs2 := [.int .i64 x_0, .int .i64 x_1]) ht0 his0 his20).mono ?_⟩
  rintro _ w9 ⟨rfl, e9⟩
  refine ⟨true, rfl, BIf.f rfl ?_⟩
  rw [w64 (by omega) (by omega)]
  exact hJ _ _ ⟨k + 1, by omega, by omega, Only.trans e4 e9⟩ (by omega)

/- eqSched -/
theorem c25 {d : Dat} {cs1 cs2 : List Value} {w : World} (ht : Has TySched d) (h : IsD w d cs1) (h2 : IsD w d cs2) : CallW Try.prog 25 #[.agg ⟨cs1⟩, .agg ⟨cs2⟩] w (fun v w' => v = .bool true ∧ Ext w w') := by
  obtain ⟨x_0, x_1, l_2, l_3, rfl, t_2, t_3⟩ := has_Sched ht
  obtain ⟨s_2, s_3, rfl, ws_0, ws_1, is_2, is_3⟩ := cells_Sched h
  obtain ⟨u_2, u_3, rfl, wu_0, wu_1, iu_2, iu_3⟩ := cells_Sched h2
  show CallW Try.prog 25 #[.agg #[.int .i64 x_0, .int .i64 x_1, .slice s_2.a s_2.len s_2.cap, .slice s_3.a s_3.len s_3.cap], .agg #[.int .i64 x_0, .int .i64 x_1, .slice u_2.a u_2.len u_2.cap, .slice u_3.a u_3.len u_3.cap]] w _
  refine go25 ?_
  unfold W25
  refine alloc_step (fun w1 e1 ha n1 => ?_)
  refine alloc_step (fun w2 e2 hb n2 => ?_)
  have ha := ha.ext e2
  have e := Only.trans e1 e2
  refine ⟨_, ha.cell 0, _, hb.cell 0, BIf.f (by simp) ?_⟩
  refine ⟨_, ha.cell 1, _, hb.cell 1, BIf.f (by simp) ?_⟩
  refine ⟨s_2, ha.cell 2, u_2, hb.cell 2, (c69 t_2 (IsD.ext e _ _ is_2) (IsD.ext e _ _ iu_2)).mono ?_⟩
  rintro _ w3 ⟨rfl, e3⟩
  have ha := ha.ext e3
  have hb := hb.ext e3
  have e := Only.trans e e3
  refine ⟨true, rfl, BIf.f rfl ?_⟩
  refine ⟨s_3, ha.cell 3, u_3, hb.cell 3, (c70 t_3 (IsD.ext e _ _ is_3) (IsD.ext e _ _ iu_3)).mono ?_⟩
  rintro _ w4 ⟨rfl, e4⟩
  have ha := ha.ext e4
  have hb := hb.ext e4
  have e := Only.trans e e4
  refine ⟨true, rfl, BIf.f rfl ?_⟩
  exact ⟨rfl, e⟩

/- markThreadS -/
theorem c71 {l : List Dat} {a0 : Sl} {bs : List Nat} {k0 : Int} {w : World} (ht : ∀ e, e ∈ l → Has TyThread e) (h : OwnD w (.sl 8 l) bs [.slice a0.a a0.len a0.cap]) (hn : bs.Nodup) (h0 : 1 ≤ k0) (hk : k0 + Dat.cnts l ≤ 1099511627776) : CallW Try.prog 71 #[.slice a0.a a0.len a0.cap, .int .i64 k0] w (fun v w' => v = .int .i64 (k0 + Dat.cnts l) ∧ ∃ l', l'.length = l.length ∧ Dat.cnts l' = Dat.cnts l ∧ (∀ e, e ∈ l' → Has TyThread e) ∧ MarkedF TXT l' k0 ∧ OwnD w' (.sl 8 l') bs [.slice a0.a a0.len a0.cap] ∧ Only (fun k => k ∈ bs) w w') := by
  refine go71 ?_
  unfold W71
  obtain ⟨hlen, hmax⟩ := ownD_len h
  have hmx : maxLen = 9223372036854775807 := rfl
  rw [hlen]
  refine LoopW.m2 (fun (x i : Int) w' => ∃ (k : Nat) (l' : List Dat), i = k ∧ k ≤ l.length ∧ l'.length = k ∧ x = k0 + Dat.cnts l' ∧ Dat.cnts l' = Dat.cnts (l.take k) ∧ (∀ e, e ∈ l' → Has TyThread e) ∧ MarkedF TXT l' k0 ∧ OwnD w' (.sl 8 (l' ++ l.drop k)) bs [.slice a0.a a0.len a0.cap] ∧ Only (fun k => k ∈ bs) w w') (fun _ (i : Int) _ => (l.length - i).toNat) ⟨0, [], rfl, by omega, rfl, by simp [Dat.cnts], by simp [Dat.cnts], fun e he => (by cases he), markedF_nil, by simpa using h, Only.refl _ _⟩ ?_
  rintro (kx : Int) (i : Int) w4 ⟨k, l', rfl, hkl, hl', hx, hcn, hty, hmk, ho, o4⟩ J hJ
  refine BIf.dec (fun hlt => ?_) (fun hge => ?_)
  · obtain ⟨d, hd⟩ : ∃ d, l[k]? = some d := ⟨_, List.getElem?_eq_getElem (by omega)⟩
    have hcg := cnts_get hd
    have hct := cnts_take hd
    have ht0 := ht d (mem_get hd)
    obtain ⟨x_0, x_1, x_2, x_3, x_4, x_5, x_6, x_7, rfl⟩ := has_Thread ht0
    simp only [Dat.cnt, Dat.cnts] at hcg hct
    obtain ⟨b, bp, b1, bq, vp, v1, vq, ha, hbs, hvp, hod, hm, hvl, hlc, _⟩ := ownD_at ho (get_app hl' hd)
    rw [(take_app hl').1, (take_app hl').2] at hm
    have hv0 := hm.len
    have hbs0 := hbs
    rw [Int.toNat_natCast, ← hvp]
    simp (disch := omega) only [w64]
    have hbs : bs = b :: (bp ++ (([] ++ b1) ++ bq)) := hbs
    have me : ME w4 b 8 l' (l.drop (k + 1)) bp bq vp vq [] _ [] b1 [] v1 := ⟨hm, by unfold OwnF; exact ⟨rfl, rfl⟩, ownD_st hod, by rw [← hbs]; exact hn⟩
    refine ⟨by omega, by omega, _, ha, ?_⟩
    refine me.sc (d' := .int .i64 (kx)) sc_int (fun w => own_int (wf_i64 (by omega) (by omega))) rfl (fun w5 cr5 o5 me => ?_)
    have o4 := Only.trans o4 (o5.mono (fun c _ hc => by subst hc; rw [hbs]; simp))
    refine ⟨by omega, by omega, _, ha, ?_⟩
    refine me.sc (d' := .int .i64 (kx + 1)) sc_int (fun w => own_int (wf_i64 (by omega) (by omega))) rfl (fun w6 cr6 o6 me => ?_)
    have o4 := Only.trans o4 (o6.mono (fun c _ hc => by subst hc; rw [hbs]; simp))
    refine ⟨by omega, by omega, _, ha, ?_⟩
    refine me.sc (d' := .int .i64 (kx + 1 + 1)) sc_int (fun w => own_int (wf_i64 (by omega) (by omega))) rfl (fun w7 cr7 o7 me => ?_)
    have o4 := Only.trans o4 (o7.mono (fun c _ hc => by subst hc; rw [hbs]; simp))
    refine ⟨by omega, by omega, _, ha, ?_⟩
    refine me.sc (d' := .int .i64 (kx + 1 + 1 + 1)) sc_int (fun w => own_int (wf_i64 (by omega) (by omega))) rfl (fun w8 cr8 o8 me => ?_)
    have o4 := Only.trans o4 (o8.mono (fun c _ hc => by subst hc; rw [hbs]; simp))
    refine ⟨by omega, by omega, _, ha, ?_⟩
    refine me.sc (d' := .int .i64 (kx + 1 + 1 + 1 + 1)) sc_int (fun w => own_int (wf_i64 (by omega) (by omega))) rfl (fun w9 cr9 o9 me => ?_)
    have o4 := Only.trans o4 (o9.mono (fun c _ hc => by subst hc; rw [hbs]; simp))
    refine ⟨by omega, by omega, _, ha, ?_⟩
    refine me.sc (d' := .int .i64 (kx + 1 + 1 + 1 + 1 + 1)) sc_int (fun w => own_int (wf_i64 (by omega) (by omega))) rfl (fun w10 cr10 o10 me => ?_)
    have o4 := Only.trans o4 (o10.mono (fun c _ hc => by subst hc; rw [hbs]; simp))
    refine ⟨by omega, by omega, _, ha, ?_⟩
    refine me.sc (d' := .int .i64 (kx + 1 + 1 + 1 + 1 + 1 + 1)) sc_int (fun w => own_int (wf_i64 (by omega) (by omega))) rfl (fun w11 cr11 o11 me => ?_)
    have o4 := Only.trans o4 (o11.mono (fun c _ hc => by subst hc; rw [hbs]; simp))
    refine ⟨by omega, by omega, _, ha, ?_⟩
    refine me.sc (d' := .int .i64 (kx + 1 + 1 + 1 + 1 + 1 + 1 + 1)) sc_int (fun w => own_int (wf_i64 (by omega) (by omega))) rfl (fun w12 cr12 o12 me => ?_)
    have o4 := Only.trans o4 (o12.mono (fun c _ hc => by subst hc; rw [hbs]; simp))
    obtain ⟨hm2, hod2, hbr⟩ := me.fin
    subst hbr
    have hrow := row_close (bs := bs) (a0 := a0) hm2 hod2 hvp hl' (by omega) ha (by rw [hlen]) (by rw [hbs, List.append_nil]) (by have : (l' ++ l.drop k).length = l.length := (by simp; omega); omega) hmax hv0 hvl
    have hmkd : Marked TXT (.st [.int .i64 (kx), .int .i64 (kx + 1), .int .i64 (kx + 1 + 1), .int .i64 (kx + 1 + 1 + 1), .int .i64 (kx + 1 + 1 + 1 + 1), .int .i64 (kx + 1 + 1 + 1 + 1 + 1), .int .i64 (kx + 1 + 1 + 1 + 1 + 1 + 1), .int .i64 (kx + 1 + 1 + 1 + 1 + 1 + 1 + 1)]) kx := marked_st (markedF_cons (k := kx) (k' := kx + 1) (marked_int (by rw [w64 (by omega) (by omega)])) (markedF_cons (k := kx + 1) (k' := kx + 1 + 1) (marked_int (by rw [w64 (by omega) (by omega)])) (markedF_cons (k := kx + 1 + 1) (k' := kx + 1 + 1 + 1) (marked_int (by rw [w64 (by omega) (by omega)])) (markedF_cons (k := kx + 1 + 1 + 1) (k' := kx + 1 + 1 + 1 + 1) (marked_int (by rw [w64 (by omega) (by omega)])) (markedF_cons (k := kx + 1 + 1 + 1 + 1) (k' := kx + 1 + 1 + 1 + 1 + 1) (marked_int (by rw [w64 (by omega) (by omega)])) (markedF_cons (k := kx + 1 + 1 + 1 + 1 + 1) (k' := kx + 1 + 1 + 1 + 1 + 1 + 1) (marked_int (by rw [w64 (by omega) (by omega)])) (markedF_cons (k := kx + 1 + 1 + 1 + 1 + 1 + 1) (k' := kx + 1 + 1 + 1 + 1 + 1 + 1 + 1) (marked_int (by rw [w64 (by omega) (by omega)])) (markedF_cons (k := kx + 1 + 1 + 1 + 1 + 1 + 1 + 1) (k' := kx + 1 + 1 + 1 + 1 + 1 + 1 + 1 + 1) (marked_int (by rw [w64 (by omega) (by omega)])) (markedF_nil (k := kx + 1 + 1 + 1 + 1 + 1 + 1 + 1 + 1)) (by simp only [Dat.cnt]; omega)) (by simp only [Dat.cnt]; omega)) (by simp only [Dat.cnt]; omega)) (by simp only [Dat.cnt]; omega)) (by simp only [Dat.cnt]; omega)) (by simp only [Dat.cnt]; omega)) (by simp only [Dat.cnt]; omega)) (by simp only [Dat.cnt]; omega))
    have hhas : Has TyThread (.st [.int .i64 (kx), .int .i64 (kx + 1), .int .i64 (kx + 1 + 1), .int .i64 (kx + 1 + 1 + 1), .int .i64 (kx + 1 + 1 + 1 + 1), .int .i64 (kx + 1 + 1 + 1 + 1 + 1), .int .i64 (kx + 1 + 1 + 1 + 1 + 1 + 1), .int .i64 (kx + 1 + 1 + 1 + 1 + 1 + 1 + 1)]) := mk_st (mkF_cons mk_int (mkF_cons mk_int (mkF_cons mk_int (mkF_cons mk_int (mkF_cons mk_int (mkF_cons mk_int (mkF_cons mk_int (mkF_cons mk_int (mkF_nil)))))))))
    refine hJ _ _ _ ⟨k + 1, l' ++ [_], by omega, by omega, by simp; omega, ?_, ?_, has_snoc hty hhas, markedF_snoc hmk hmkd hx, hrow, o4⟩ (by omega)
    · rw [cnts_snoc]; simp only [Dat.cnt, Dat.cnts]; omega
    · rw [cnts_snoc, hct]; simp only [Dat.cnt, Dat.cnts]; omega
  · have hkl2 : k = l.length := by omega
    subst hkl2
    rw [List.take_length] at hcn
    rw [List.drop_length, List.append_nil, hlen] at ho
    exact ⟨by rw [hx, hcn], l', hl', hcn, hty, hmk, ho, o4⟩

/- markLockS -/
theorem c72 {l : List Dat} {a0 : Sl} {bs : List Nat} {k0 : Int} {w : World} (ht : ∀ e, e ∈ l → Has TyLock e) (h : OwnD w (.sl 2 l) bs [.slice a0.a a0.len a0.cap]) (hn : bs.Nodup) (h0 : 1 ≤ k0) (hk : k0 + Dat.cnts l ≤ 1099511627776) : CallW Try.prog 72 #[.slice a0.a a0.len a0.cap, .int .i64 k0] w (fun v w' => v = .int .i64 (k0 + Dat.cnts l) ∧ ∃ l', l'.length = l.length ∧ Dat.cnts l' = Dat.cnts l ∧ (∀ e, e ∈ l' → Has TyLock e) ∧ MarkedF TXT l' k0 ∧ OwnD w' (.sl 2 l') bs [.slice a0.a a0.len a0.cap] ∧ Only (fun k => k ∈ bs) w w') := by
  refine go72 ?_
  unfold W72
  obtain ⟨hlen, hmax⟩ := ownD_len h
  have hmx : maxLen = 9223372036854775807 := rfl
  rw [hlen]
  refine LoopW.m2 (fun (x i : Int) w' => ∃ (k : Nat) (l' : List Dat), i = k ∧ k ≤ l.length ∧ l'.length = k ∧ x = k0 + Dat.cnts l' ∧ Dat.cnts l' = Dat.cnts (l.take k) ∧ (∀ e, e ∈ l' → Has TyLock e) ∧ MarkedF TXT l' k0 ∧ OwnD w' (.sl 2 (l' ++ l.drop k)) bs [.slice a0.a a0.len a0.cap] ∧ Only (fun k => k ∈ bs) w w') (fun _ (i : Int) _ => (l.length - i).toNat) ⟨0, [], rfl, by omega, rfl, by simp [Dat.cnts], by simp [Dat.cnts], fun e he => (by cases he), markedF_nil, by simpa using h, Only.refl _ _⟩ ?_
  rintro (kx : Int) (i : Int) w4 ⟨k, l', rfl, hkl, hl', hx, hcn, hty, hmk, ho, o4⟩ J hJ
  refine BIf.dec (fun hlt => ?_) (fun hge => ?_)
  · obtain ⟨d, hd⟩ : ∃ d, l[k]? = some d := ⟨_, List.getElem?_eq_getElem (by omega)⟩
    have hcg := cnts_get hd
    have hct := cnts_take hd
    have ht0 := ht d (mem_get hd)
    obtain ⟨x_0, x_1, rfl⟩ := has_Lock ht0
    simp only [Dat.cnt, Dat.cnts] at hcg hct
    obtain ⟨b, bp, b1, bq, vp, v1, vq, ha, hbs, hvp, hod, hm, hvl, hlc, _⟩ := ownD_at ho (get_app hl' hd)
    rw [(take_app hl').1, (take_app hl').2] at hm
    have hv0 := hm.len
    have hbs0 := hbs
    rw [Int.toNat_natCast, ← hvp]
    simp (disch := omega) only [w64]
    have hbs : bs = b :: (bp ++ (([] ++ b1) ++ bq)) := hbs
    have me : ME w4 b 2 l' (l.drop (k + 1)) bp bq vp vq [] _ [] b1 [] v1 := ⟨hm, by unfold OwnF; exact ⟨rfl, rfl⟩, ownD_st hod, by rw [← hbs]; exact hn⟩
    refine ⟨by omega, by omega, _, ha, ?_⟩
    refine me.sc (d' := .int .i64 (kx)) sc_int (fun w => own_int (wf_i64 (by omega) (by omega))) rfl (fun w5 cr5 o5 me => ?_)
    have o4 := Only.trans o4 (o5.mono (fun c _ hc => by subst hc; rw [hbs]; simp))
    refine ⟨by omega, by omega, _, ha, ?_⟩
    refine me.sc (d' := .int .i64 (kx + 1)) sc_int (fun w => own_int (wf_i64 (by omega) (by omega))) rfl (fun w6 cr6 o6 me => ?_)
    have o4 := Only.trans o4 (o6.mono (fun c _ hc => by subst hc; rw [hbs]; simp))
    obtain ⟨hm2, hod2, hbr⟩ := me.fin
    subst hbr
    have hrow := row_close (bs := bs) (a0 := a0) hm2 hod2 hvp hl' (by omega) ha (by rw [hlen]) (by rw [hbs, List.append_nil]) (by have : (l' ++ l.drop k).length = l.length := (by simp; omega); omega) hmax hv0 hvl
    have hmkd : Marked TXT (.st [.int .i64 (kx), .int .i64 (kx + 1)]) kx := marked_st (markedF_cons (k := kx) (k' := kx + 1) (marked_int (by rw [w64 (by omega) (by omega)])) (markedF_cons (k := kx + 1) (k' := kx + 1 + 1) (marked_int (by rw [w64 (by omega) (by omega)])) (markedF_nil (k := kx + 1 + 1)) (by simp only [Dat.cnt]; omega)) (by simp only [Dat.cnt]; omega))
    have hhas : Has TyLock (.st [.int .i64 (kx), .int .i64 (kx + 1)]) := mk_st (mkF_cons mk_int (mkF_cons mk_int (mkF_nil)))
    refine hJ _ _ _ ⟨k + 1, l' ++ [_], by omega, by omega, by simp; omega, ?_, ?_, has_snoc hty hhas, markedF_snoc hmk hmkd hx, hrow, o4⟩ (by omega)
    · rw [cnts_snoc]; simp only [Dat.cnt, Dat.cnts]; omega
    · rw [cnts_snoc, hct]; simp only [Dat.cnt, Dat.cnts]; omega
  · have hkl2 : k = l.length := by omega
    subst hkl2
    rw [List.take_length] at hcn
    rw [List.drop_length, List.append_nil, hlen] at ho
    exact ⟨by rw [hx, hcn], l', hl', hcn, hty, hmk, ho, o4⟩

/- markSched -/
theorem c27 {d : Dat} {cs : List Value} {bs : List Nat} {k0 : Int} {w : World} (ht : Has TySched d) (h : OwnD w d bs cs) (hn : bs.Nodup) (h0 : 1 ≤ k0) (hk : k0 + d.cntT ≤ 1099511627776) : CallW Try.prog 27 #[.agg ⟨cs⟩, .int .i64 k0] w (fun v w' => v = .int .i64 (k0 + d.cntT) ∧ ∃ d', d'.cntT = d.cntT ∧ Has TySched d' ∧ MarkedT TXT d' k0 ∧ OwnD w' d' bs cs ∧ Only (fun k => k ∈ bs) w w') := by
 obtain ⟨x_0, x_1, l_2, l_3, rfl, t_2, t_3⟩ := has_Sched ht
 simp only [Dat.cntT, Dat.cntTs] at hk
 have f_ := ownD_st h
 obtain ⟨b_0, r_0, c_0, u_0, rfl, rfl, h_0, f_0⟩ := ownF_cons f_
 obtain ⟨b_1, r_1, c_1, u_1, rfl, rfl, h_1, f_1⟩ := ownF_cons f_0
 obtain ⟨b_2, r_2, c_2, u_2, rfl, rfl, h_2, f_2⟩ := ownF_cons f_1
 obtain ⟨b_3, r_3, c_3, u_3, rfl, rfl, h_3, f_3⟩ := ownF_cons f_2
 obtain ⟨rfl, rfl⟩ := ownF_nil f_3
 obtain ⟨rfl, rfl, wo_0⟩ := ownD_i h_0
 obtain ⟨rfl, rfl, wo_1⟩ := ownD_i h_1
 obtain ⟨s_2, rfl⟩ := ownD_sl_s h_2
 obtain ⟨s_3, rfl⟩ := ownD_sl_s h_3
 have nd0 := (List.nodup_append.1 hn).1
 have dj0 := (List.nodup_append.1 hn).2.2
 have hn0 := (List.nodup_append.1 hn).2.1
 have nd1 := (List.nodup_append.1 hn0).1
 have dj1 := (List.nodup_append.1 hn0).2.2
 have hn1 := (List.nodup_append.1 hn0).2.1
 have nd2 := (List.nodup_append.1 hn1).1
 have dj2 := (List.nodup_append.1 hn1).2.2
 have hn2 := (List.nodup_append.1 hn1).2.1
 have nd3 := (List.nodup_append.1 hn2).1
 have dj3 := (List.nodup_append.1 hn2).2.2
 have hn3 := (List.nodup_append.1 hn2).2.1
 have lt2 := OwnD.lt _ _ _ h_2
 have lt3 := OwnD.lt _ _ _ h_3
 show CallW Try.prog 27 #[.agg #[.int .i64 x_0, .int .i64 x_1, .slice s_2.a s_2.len s_2.cap, .slice s_3.a s_3.len s_3.cap], .int .i64 k0] w _
 refine go27 ?_
 unfold W27
 refine alloc_step (fun w1 e1 hb n1 => ?_)
 have o_2 := OwnD.only e1 _ _ _ (fun _ _ x => x) h_2
 have o_3 := OwnD.only e1 _ _ _ (fun _ _ x => x) h_3
 have ot : Only (fun k => k ∈ b_2 ∨ k ∈ b_3) w w1 := Ext.any e1
 refine ⟨s_2, hb.cell 2, (c71 t_2 o_2 nd2 (by omega) (by omega)).mono ?_⟩
 rintro _ w4 ⟨rfl, m_2, _, cn_2, hs_2, mk_2, ow_2, oo⟩
 refine ⟨_, rfl, ?_⟩
 have hb := hb.only oo (fun hk => by have := lt2 _ hk; omega)
 have ot := Only.trans ot (oo.mono (fun c _ hc => by (try simp only [List.mem_append, List.not_mem_nil, or_false, false_or] at hc); (try simp only [List.mem_append, List.not_mem_nil, or_false, false_or]); first | (simp [hc]; done) | (rcases hc with hc | hc <;> simp [hc]; done) | (rcases hc with hc | hc | hc <;> simp [hc])))
 have o_3 := OwnD.only oo _ _ _ (fun c hc hd => dj2 c hd c (by (try simp only [List.mem_append, List.not_mem_nil, or_false, false_or] at hc); (try simp only [List.mem_append, List.not_mem_nil, or_false, false_or]); first | (simp [hc]; done) | (rcases hc with hc | hc <;> simp [hc]; done) | (rcases hc with hc | hc | hc <;> simp [hc])) rfl) o_3
 refine ⟨s_3, hb.cell 3, (c72 t_3 o_3 nd3 (by omega) (by omega)).mono ?_⟩
 rintro _ w5 ⟨rfl, m_3, _, cn_3, hs_3, mk_3, ow_3, oo⟩
 refine ⟨_, rfl, ?_⟩
 have hb := hb.only oo (fun hk => by have := lt3 _ hk; omega)
 have ot := Only.trans ot (oo.mono (fun c _ hc => by (try simp only [List.mem_append, List.not_mem_nil, or_false, false_or] at hc); (try simp only [List.mem_append, List.not_mem_nil, or_false, false_or]); first | (simp [hc]; done) | (rcases hc with hc | hc <;> simp [hc]; done) | (rcases hc with hc | hc | hc <;> simp [hc])))
 have ow_2 := OwnD.only oo _ _ _ (fun c hc hd => dj2 c hc c (by (try simp only [List.mem_append, List.not_mem_nil, or_false, false_or] at hd); (try simp only [List.mem_append, List.not_mem_nil, or_false, false_or]); first | (simp [hd]; done) | (rcases hd with hd | hd <;> simp [hd]; done) | (rcases hd with hd | hd | hd <;> simp [hd])) rfl) ow_2
 refine ⟨by congr 1; simp only [Dat.cntT, Dat.cntTs]; omega, .st [.int .i64 x_0, .int .i64 x_1, .sl 8 m_2, .sl 2 m_3], by simp only [Dat.cntT, Dat.cntTs]; omega, mk_st (mkF_cons mk_int (mkF_cons mk_int (mkF_cons (mk_sl hs_2) (mkF_cons (mk_sl hs_3) (mkF_nil))))), markedT_st (markedTF_cons (k' := k0) markedT_int (markedTF_cons (k' := k0) markedT_int (markedTF_cons (k' := k0 + (Dat.cnts l_2 : Nat)) (marked_slT mk_2) (markedTF_cons (k' := k0 + (Dat.cnts l_2 : Nat) + (Dat.cnts l_3 : Nat)) (marked_slT mk_3) (markedTF_nil) (by simp only [Dat.cntT, Dat.cntTs] at *; omega)) (by simp only [Dat.cntT, Dat.cntTs] at *; omega)) (by simp only [Dat.cntT]; omega)) (by simp only [Dat.cntT]; omega)), ownD_mkSt (ownF_mk (own_int wo_0) (ownF_mk (own_int wo_1) (ownF_mk ow_2 (ownF_mk ow_3 (ownF_mk0))))), ot.mono (fun c _ hc => by (try simp only [List.mem_append, List.not_mem_nil, or_false, false_or] at hc); (try simp only [List.mem_append, List.not_mem_nil, or_false, false_or]); first | (simp [hc]; done) | (rcases hc with hc | hc <;> simp [hc]; done) | (rcases hc with hc | hc | hc <;> simp [hc]))⟩

/- heldThreadS -/
theorem c73 {l : List Dat} {a0 : Sl} {k0 : Int} {w : World} (ht : ∀ e, e ∈ l → Has TyThread e) (h : IsD w (.sl 8 l) [.slice a0.a a0.len a0.cap]) (hm : MarkedF TXT l k0) (h0 : 1 ≤ k0) (hk : k0 + Dat.cnts l ≤ 1099511627776) : CallW Try.prog 73 #[.slice a0.a a0.len a0.cap, .int .i64 k0] w (fun v w' => v = .int .i64 (k0 + Dat.cnts l) ∧ Ext w w') := by
  refine go73 ?_
  unfold W73
  obtain ⟨hlen, hmax, _⟩ := isD_sl h
  have hmx : maxLen = 9223372036854775807 := rfl
  rw [hlen]
  refine LoopW.m2 (fun (x i : Int) w' => ∃ k : Nat, i = k ∧ k ≤ l.length ∧ x = k0 + Dat.cnts (l.take k) ∧ Ext w w') (fun _ (i : Int) _ => (l.length - i).toNat) ⟨0, rfl, by omega, by simp [Dat.cnts], Only.refl _ _⟩ ?_
  rintro (kx : Int) (i : Int) w4 ⟨k, rfl, hkl, hx, e4⟩ J hJ
  refine BIf.dec (fun hlt => ?_) (fun hge => ?_)
  · obtain ⟨d, hd⟩ : ∃ d, l[k]? = some d := ⟨_, List.getElem?_eq_getElem (by omega)⟩
    have hcg := cnts_get hd
    have hct := cnts_take hd
    have hmd := markedF_get hm hd
    rw [← hx] at hmd
    have ht0 := ht d (mem_get hd)
    obtain ⟨p, es, hp, he, hc, his⟩ := isD_at (IsD.ext e4 _ _ h) hd
    obtain ⟨x_0, x_1, x_2, x_3, x_4, x_5, x_6, x_7, rfl⟩ := has_Thread ht0
    obtain ⟨rfl, ws_0, ws_1, ws_2, ws_3, ws_4, ws_5, ws_6, ws_7⟩ := cells_Thread his
    simp only [Dat.cnt, Dat.cnts] at hcg hct
    simp only [Marked, MarkedF, Dat.cnt, Dat.cnts] at hmd
    obtain ⟨m_0, m_1, m_2, m_3, m_4, m_5, m_6, m_7, _⟩ := hmd
    try simp (disch := omega) only [w64]
    refine ⟨by omega, by omega, p, hp, _, hc 0 _ rfl, BIf.f (by rw [m_0, w64 (by omega) (by omega)]; first | (simp; done) | (simp; omega)) ?_⟩
    refine ⟨by omega, by omega, p, hp, _, hc 1 _ rfl, BIf.f (by rw [m_1, w64 (by omega) (by omega)]; first | (simp; done) | (simp; omega)) ?_⟩
    refine ⟨by omega, by omega, p, hp, _, hc 2 _ rfl, BIf.f (by rw [m_2, w64 (by omega) (by omega)]; first | (simp; done) | (simp; omega)) ?_⟩
    refine ⟨by omega, by omega, p, hp, _, hc 3 _ rfl, BIf.f (by rw [m_3, w64 (by omega) (by omega)]; first | (simp; done) | (simp; omega)) ?_⟩
    refine ⟨by omega, by omega, p, hp, _, hc 4 _ rfl, BIf.f (by rw [m_4, w64 (by omega) (by omega)]; first | (simp; done) | (simp; omega)) ?_⟩
    refine ⟨by omega, by omega, p, hp, _, hc 5 _ rfl, BIf.f (by rw [m_5, w64 (by omega) (by omega)]; first | (simp; done) | (simp; omega)) ?_⟩
    refine ⟨by omega, by omega, p, hp, _, hc 6 _ rfl, BIf.f (by rw [m_6, w64 (by omega) (by omega)]; first | (simp; done) | (simp; omega)) ?_⟩
    refine ⟨by omega, by omega, p, hp, _, hc 7 _ rfl, BIf.f (by rw [m_7, w64 (by omega) (by omega)]; first | (simp; done) | (simp; omega)) ?_⟩
    exact hJ _ _ _ ⟨k + 1, by omega, by omega, by rw [hct]; omega, e4⟩ (by omega)
  · rw [List.take_of_length_le (by omega)] at hx
    exact ⟨by rw [hx], e4⟩

/- heldLockS -/
theorem c74 {l : List Dat} {a0 : Sl} {k0 : Int} {w : World} (ht : ∀ e, e ∈ l → Has TyLock e) (h : IsD w (.sl 2 l) [.slice a0.a a0.len a0.cap]) (hm : MarkedF TXT l k0) (h0 : 1 ≤ k0) (hk : k0 + Dat.cnts l ≤ 1099511627776) : CallW Try.prog 74 #[.slice a0.a a0.len a0.cap, .int .i64 k0] w (fun v w' => v = .int .i64 (k0 + Dat.cnts l) ∧ Ext w w') := by
  refine go74 ?_
  unfold W74
  obtain ⟨hlen, hmax, _⟩ := isD_sl h
  have hmx : maxLen = 9223372036854775807 := rfl
  rw [hlen]
  refine LoopW.m2 (fun (x i : Int) w' => ∃ k : Nat, i = k ∧ k ≤ l.length ∧ x = k0 + Dat.cnts (l.take k) ∧ Ext w w') (fun _ (i : Int) _ => (l.length - i).toNat) ⟨0, rfl, by omega, by simp [Dat.cnts], Only.refl _ _⟩ ?_
  rintro (kx : Int) (i : Int) w4 ⟨k, rfl, hkl, hx, e4⟩ J hJ
  refine BIf.dec (fun hlt => ?_) (fun hge => ?_)
  · obtain ⟨d, hd⟩ : ∃ d, l[k]? = some d := ⟨_, List.getElem?_eq_getElem (by omega)⟩
    have hcg := cnts_get hd
    have hct := cnts_take hd
    have hmd := markedF_get hm hd
    rw [← hx] at hmd
    have ht0 := ht d (mem_get hd)
    obtain ⟨p, es, hp, he, hc, his⟩ := isD_at (IsD.ext e4 _ _ h) hd
    obtain ⟨x_0, x_1, rfl⟩ := has_Lock ht0
    obtain ⟨rfl, ws_0, ws_1⟩ := cells_Lock his
    simp only [Dat.cnt, Dat.cnts] at hcg hct
    simp only [Marked, MarkedF, Dat.cnt, Dat.cnts] at hmd
    obtain ⟨m_0, m_1, _⟩ := hmd
    try simp (disch := omega) only [w64]
    refine ⟨by omega, by omega, p, hp, _, hc 0 _ rfl, BIf.f (by rw [m_0, w64 (by omega) (by omega)]; first | (simp; done) | (simp; omega)) ?_⟩
    refine ⟨by omega, by omega, p, hp, _, hc 1 _ rfl, BIf.f (by rw [m_1, w64 (by omega) (by omega)]; first | (simp; done) | (simp; omega)) ?_⟩
    exact hJ _ _ _ ⟨k + 1, by omega, by omega, by rw [hct]; omega, e4⟩ (by omega)
  · rw [List.take_of_length_le (by omega)] at hx
    exact ⟨by rw [hx], e4⟩

/- heldSched -/
theorem c28 {d : Dat} {cs : List Value} {k0 : Int} {w : World} (ht : Has TySched d) (h : IsD w d cs) (hm : MarkedT TXT d k0) (h0 : 1 ≤ k0) (hk : k0 + d.cntT ≤ 1099511627776) : CallW Try.prog 28 #[.agg ⟨cs⟩, .int .i64 k0] w (fun v w' => v = .int .i64 (k0 + d.cntT) ∧ Ext w w') := by
 obtain ⟨x_0, x_1, l_2, l_3, rfl, t_2, t_3⟩ := has_Sched ht
 obtain ⟨s_2, s_3, rfl, ws_0, ws_1, is_2, is_3⟩ := cells_Sched h
 simp only [Dat.cntT, Dat.cntTs] at hk
 simp only [MarkedT, MarkedTF, Dat.cntT, Dat.cntTs] at hm
 obtain ⟨_, _, m_2, m_3, _⟩ := hm
 refine go28 ?_
 unfold W28
 refine alloc_step (fun w1 e hb n1 => ?_)
 refine ⟨s_2, hb.cell 2, (c73 (k0 := k0) t_2 (IsD.ext e _ _ is_2) (markedF_at m_2 (by omega)) (by omega) (by omega)).mono ?_⟩
 rintro _ w4 ⟨rfl, e4⟩
 have hb := hb.ext e4
 have e := Only.trans e e4
 refine ⟨_, rfl, BIf.f (decide_eq_false (by omega)) ?_⟩
 refine ⟨s_3, hb.cell 3, (c74 (k0 := k0 + (Dat.cnts l_2 : Nat)) t_3 (IsD.ext e _ _ is_3) (markedF_at m_3 (by omega)) (by omega) (by omega)).mono ?_⟩
 rintro _ w5 ⟨rfl, e5⟩
 have hb := hb.ext e5
 have e := Only.trans e e5
 refine ⟨_, rfl, BIf.f (decide_eq_false (by omega)) ?_⟩
 exact ⟨by congr 1; simp only [Dat.cntT, Dat.cntTs]; omega, e⟩

end Go.Proofs.Yteigefjiifihpaa

/- The scheduler: both sides as the laws ask for them. Conditions: none. -/
set_option linter.unusedVariables false
set_option linter.unusedSimpArgs false
namespace Go.Proofs.Yteigefjiifihpaa
open Go Go.Den
/-! ## Bounds -/
theorem lockF_rng {d : DSched} {i : Nat} {t : DThread} {n : Int} : (0 ≤ (lockF d i t n).2.1 ∧ (lockF d i t n).2.1 ≤ 21) ∧ (0 ≤ (lockF d i t n).2.2 ∧ (lockF d i t n).2.2 ≤ 1) := by
  have e : ∀ (c m : Int), 0 ≤ c → c ≤ 21 → 0 ≤ m → m ≤ 1 → (0 ≤ c ∧ c ≤ 21) ∧ (0 ≤ m ∧ m ≤ 1) := fun c m h1 h2 h3 h4 => ⟨⟨h1, h2⟩, h3, h4⟩
  unfold lockF
  split
  · exact e 0 0 (by decide) (by decide) (by decide) (by decide)
  · split
    · exact e 4 0 (by decide) (by decide) (by decide) (by decide)
    · split
      · exact e 17 0 (by decide) (by decide) (by decide) (by decide)
      · exact e 0 1 (by decide) (by decide) (by decide) (by decide)
theorem thrF_rng {d : DSched} {i : Nat} {t : DThread} {kind id n : Int} : (0 ≤ (thrF d i t kind id n).2.1 ∧ (thrF d i t kind id n).2.1 ≤ 21) ∧ (0 ≤ (thrF d i t kind id n).2.2 ∧ (thrF d i t kind id n).2.2 ≤ 1) := by
  have z : ((0 : Int) ≤ 0 ∧ (0 : Int) ≤ 21) ∧ ((0 : Int) ≤ 0 ∧ (0 : Int) ≤ 1) := by decide
  have e : ∀ c : Int, 0 ≤ c → c ≤ 21 → ((0 : Int) ≤ c ∧ c ≤ 21) ∧ ((0 : Int) ≤ 0 ∧ (0 : Int) ≤ 1) := fun c h1 h2 => ⟨⟨h1, h2⟩, by decide⟩
  unfold thrF
  split
  · exact z
  · split
    · split
      · exact e 1 (by decide) (by decide)
      · split
        · exact e 21 (by decide) (by decide)
        · split
          · exact lockF_rng
          · split
            · exact e 2 (by decide) (by decide)
            · split
              · exact e 2 (by decide) (by decide)
              · exact z
    · split
      · split
        · exact e 1 (by decide) (by decide)
        · split
          · exact e 21 (by decide) (by decide)
          · exact z
      · split
        · split
          · exact e 21 (by decide) (by decide)
          · exact z
        · split
          · exact e 1 (by decide) (by decide)
          · exact z
theorem tickF_rng {d : DSched} (h : Inv0 d) : -1 ≤ (tickF d).2 ∧ (tickF d).2 ≤ 32 := by
  have hw : Inv0 (wakeF d 0 d.Threads.length) := Inv.wake _ _ h
  rw [tickF_M]
  show -1 ≤ (tickM _).2 ∧ (tickM _).2 ≤ 32
  generalize wakeF d 0 d.Threads.length = e at *
  unfold tickM
  split
  · show (-1 : Int) ≤ -1 ∧ (-1 : Int) ≤ 32; decide
  · split
    · show (-1 : Int) ≤ -1 ∧ (-1 : Int) ≤ 32; decide
    · rename_i t ht
      have := (hw.tok t (List.mem_of_getElem? ht)).id
      show -1 ≤ t.Id ∧ t.Id ≤ 32
      omega
theorem stepF_rng {d : DSched} (h : Inv0 d) (kind id n : Int) : (0 ≤ (stepF d kind id n).2.1 ∧ (stepF d kind id n).2.1 ≤ 21) ∧ (-1 ≤ (stepF d kind id n).2.2 ∧ (stepF d kind id n).2.2 ≤ 32) := by
  have e : ∀ c : Int, 0 ≤ c → c ≤ 21 → ((0 : Int) ≤ c ∧ c ≤ 21) ∧ ((-1 : Int) ≤ 0 ∧ (0 : Int) ≤ 32) := fun c h1 h2 => ⟨⟨h1, h2⟩, by decide⟩
  unfold stepF
  split
  · split
    · exact e 1 (by decide) (by decide)
    · split
      · exact e 18 (by decide) (by decide)
      · obtain ⟨g1, _, _⟩ := gap_spec h
        have := h.few.1
        refine ⟨by show (0 : Int) ≤ 0 ∧ (0 : Int) ≤ 21; decide, ?_⟩
        show (-1 : Int) ≤ ((gapL d.Threads 0 : Nat) : Int) ∧ ((gapL d.Threads 0 : Nat) : Int) ≤ 32
        omega
  · split
    · exact ⟨by show (0 : Int) ≤ 0 ∧ (0 : Int) ≤ 21; decide, tickF_rng h⟩
    · split
      · exact e 1 (by decide) (by decide)
      · split
        · exact e 3 (by decide) (by decide)
        · split
          · exact e 3 (by decide) (by decide)
          · rename_i t _ _
            have := thrF_rng (d := d) (i := (idT d id).toNat) (t := t) (kind := kind) (id := id) (n := n)
            omega
/-! ## SchedRun -/
/-! ## SchedStep -/
noncomputable def stepD (x : DSched) (op : DSchedOp) : DSched := (stepR x op.Kind op.Id op.N).1
noncomputable def stepA (x : DSched) (op : DSchedOp) : DSchedRes := ⟨(stepR x op.Kind op.Id op.N).2.1, (stepR x op.Kind op.Id op.N).2.2⟩
end Go.Proofs.Yteigefjiifihpaa

/- The scheduler: SchedStep as the law asks for it. Conditions: none. -/
set_option linter.unusedVariables false
set_option linter.unusedSimpArgs false
namespace Go.Proofs.Yteigefjiifihpaa
open Go Go.Den
/-- Till when they sleep. -/
def Ub (M : Int) (d : DSched) : Prop := ∀ t, t ∈ d.Threads → t.Until ≤ M
theorem ub_set {M : Int} {l : List DThread} (h : ∀ t, t ∈ l → t.Until ≤ M) {y : DThread} (hy : y.Until ≤ M) (i : Nat) : ∀ t, t ∈ l.set i y → t.Until ≤ M := fun t ht => by
  rcases List.mem_or_eq_of_mem_set ht with h1 | rfl
  · exact h t h1
  · exact hy
theorem Ub.stand {M : Int} {d : DSched} (h : Ub M d) (hM : 0 ≤ M) (i : Nat) (s : Int) : Ub M (standF d i s) := by
  unfold standF
  split
  · exact ub_set h hM i
  · exact h
theorem Ub.hand {M : Int} {d : DSched} (h : Ub M d) (hM : 0 ≤ M) (id : Int) : Ub M (handF d id) := by
  unfold handF
  split
  · exact h
  · split
    · rename_i w _
      exact Ub.stand (d := ⟨d.Now, d.Seq, d.Threads, d.Locks.set (idL d id).toNat ⟨id, w.Id⟩⟩) h hM _ _
    · exact h
theorem Ub.exitL {M : Int} (hM : 0 ≤ M) {id : Int} : ∀ (l : List DLock) {d : DSched}, Ub M d → Ub M (exitL id l d)
  | [], d, h => h
  | k :: r, d, h => by
    unfold Proofs.Yteigefjiifihpaa.exitL
    split
    · exact Ub.exitL hM r (h.hand hM _)
    · exact Ub.exitL hM r h
theorem Ub.wake {M : Int} (hM : 0 ≤ M) : ∀ (n i : Nat) {d : DSched}, Ub M d → Ub M (wakeF d i n)
  | 0, i, d, h => h
  | n + 1, i, d, h => by
    unfold wakeF
    refine Ub.wake hM n (i + 1) ?_
    split
    · split
      · exact h.stand hM _ _
      · exact h
    · exact h
theorem Ub.step {M : Int} {d : DSched} (h : Ub M d) (h0 : 0 ≤ M) (hM : d.Now + 1000 ≤ M) (kind id n : Int) : Ub M (stepF d kind id n).1 := by
  unfold stepF
  split
  · split
    · exact h
    · split
      · exact h
      · intro t ht
        rcases mem_ins.1 ht with rfl | ht
        · exact h0
        · exact h t ht
  · split
    · have hw : Ub M (wakeF d 0 d.Threads.length) := Ub.wake h0 _ _ h
      rw [tickF_M]
      show Ub M (laterF (tickM _).1)
      generalize wakeF d 0 d.Threads.length = e at *
      unfold tickM
      split
      · exact hw
      · split
        · exact hw
        · rename_i t ht
          simp only
          split
          · exact hw.stand h0 _ _
          · exact ub_set (y := ⟨t.Id, t.Base, t.State, t.Line, t.Left - 1, e.Now + 1, t.Until, t.Wait⟩) hw (hw t (List.mem_of_getElem? ht)) _
    · split
      · exact h
      · split
        · exact h
        · rename_i t ht
          have htu := h t (List.mem_of_getElem? ht)
          split
          · exact h
          · unfold thrF
            split
            · exact Ub.exitL h0 _ (fun t ht => h t (List.mem_filter.1 ht).1)
            · split
              · split
                · exact h
                · split
                  · exact h
                  · split
                    · unfold lockF
                      split
                      · exact h
                      · split
                        · exact h
                        · split
                          · exact h
                          · exact ub_set (y := ⟨t.Id, t.Base, 2, t.Line, t.Left, t.Since, t.Until, n⟩) h htu _
                    · split
                      · exact h
                      · split
                        · exact h
                        · exact h.hand h0 _
              · split
                · split
                  · exact h
                  · split
                    · exact h
                    · rename_i hr _
                      exact ub_set h (by show d.Now + n ≤ M; omega) _
                · split
                  · split
                    · exact h
                    · exact h.stand h0 _ _
                  · split
                    · exact h
                    · exact ub_set (y := ⟨t.Id, n, t.State, t.Line, t.Left, t.Since, t.Until, t.Wait⟩) h htu _
theorem wf_i64' {n : Int} (h : (Lit.int .i64 n).wf = true) : -9223372036854775808 ≤ n ∧ n ≤ 9223372036854775807 := by
  simp [Lit.wf, IntKind.min, IntKind.max, IntKind.signed, IntKind.bits] at h
  omega
/-- A state that can be, as a tree. -/
theorem inv_fit {d : DSched} (h : Inv0 d) (hn : d.Now ≤ 2199023255552) (hq : d.Seq ≤ 2199023255552) {M : Int} (hu : Ub M d) (hM : M ≤ 9223372036854775807) : d.dat.fit := by
  have hf := h.few
  have h0 := h.now
  have hm : maxLen = 9223372036854775807 := rfl
  simp only [DSched.dat, Dat.fit, Dat.fits, List.length_map, fits_iff, List.mem_map]
  refine ⟨wf_i64 (by omega) (by omega), wf_i64 (by omega) (by omega), ⟨by omega, ?_⟩, ⟨by omega, ?_⟩, trivial⟩
  · rintro e ⟨t, ht, rfl⟩
    have htk := h.tok t ht
    have h1 := htk.id
    have h2 := htk.base
    have h3 := htk.line
    have h4 := htk.left
    have h5 := htk.since
    have h6 := hu t ht
    have h7 : (1 ≤ t.State ∧ t.State ≤ 3) ∧ (-1 ≤ t.Wait ∧ t.Wait ≤ 16) ∧ 0 ≤ t.Until := by
      rcases htk.st with h8 | ⟨h8, h9, k, hk, he⟩ | h8
      · omega
      · have := h.lok k hk; omega
      · omega
    simp only [DThread.dat, Dat.fit, Dat.fits]
    exact ⟨wf_i64 (by omega) (by omega), wf_i64 (by omega) (by omega), wf_i64 (by omega) (by omega), wf_i64 (by omega) (by omega), wf_i64 (by omega) (by omega), wf_i64 (by omega) (by omega), wf_i64 (by omega) (by omega), wf_i64 (by omega) (by omega), trivial⟩
  · rintro e ⟨k, hk, rfl⟩
    have h1 := h.lok k hk
    have h2 := h.own0 k hk
    have h3 : k.Owner < 32 := by
      rcases h.own k hk with h4 | ⟨t, ht, he⟩
      · exact h4.elim
      · have := (h.tok t ht).id; omega
    simp only [DLock.dat, Dat.fit, Dat.fits]
    exact ⟨wf_i64 (by omega) (by omega), wf_i64 (by omega) (by omega), trivial⟩
theorem thr_ceE (l : List DThread) : Dat.ceE (l.map DThread.dat) = recs DThread.cells l := by
  rw [ceE_map]; unfold recs
  refine List.map_congr_left (fun x _ => ?_)
  simp [DThread.dat, DThread.cells, Dat.ce, Dat.ces]
theorem lck_ceE (l : List DLock) : Dat.ceE (l.map DLock.dat) = recs DLock.cells l := by
  rw [ceE_map]; unfold recs
  refine List.map_congr_left (fun x _ => ?_)
  simp [DLock.dat, DLock.cells, Dat.ce, Dat.ces]
theorem sched_fr {d : DSched} {t l : Sl} {w w' : World} (h : SH w w' [RT t d.Threads, RL l d.Locks]) (hf : d.dat.fit) : Fr w.heap.size w'.heap.size w' d.dat (sCells d.Now d.Seq t l) := by
  have h1 := (SH.v0 h).p2
  have h2 : SH w w' (RL l d.Locks :: aV [] [] :: RT t d.Threads :: []) := h1
  have h3 := (h2.vr).p1.vr
  have h4 := (h3.vx (.int .i64 d.Seq)).vx (.int .i64 d.Now)
  refine SH.fr (F := []) ?_ hf
  have hce : d.dat.ce = [.v (.int .i64 d.Now), .v (.int .i64 d.Seq), .sl 8 (recs DThread.cells d.Threads), .sl 2 (recs DLock.cells d.Locks)] := by
    simp [DSched.dat, Dat.ce, Dat.ces, thr_ceE, lck_ceE]
  rw [hce]
  exact h4
theorem stepD_ok {x : DSched} {op : DSchedOp} (hok : SOk x) (hu : ∀ t, t ∈ x.Threads → (Lit.int .i64 t.Until).wf = true) : Inv0 (stepD x op) ∧ (stepD x op).dat.fit := by
  obtain ⟨hi, hn, hq⟩ := sok_iff.1 hok
  have he : stepD x op = (stepF x op.Kind op.Id op.N).1 := by unfold stepD stepR; rw [if_pos hok]
  obtain ⟨h1, h2, h3⟩ := hi.step hn op.Kind op.Id op.N
  have hu' : Ub 9223372036854775807 x := fun t ht => (wf_i64' (hu t ht)).2
  rw [he]
  exact ⟨h1, inv_fit h1 (by omega) (by omega) (hu'.step (by decide) (by omega) _ _ _) (by decide)⟩
theorem stepD_no {x : DSched} {op : DSchedOp} (hno : ¬ SOk x) : stepD x op = ⟨0, 0, [], []⟩ := by unfold stepD stepR; rw [if_neg hno]
theorem stepA_rng (x : DSched) (op : DSchedOp) : (0 ≤ (stepA x op).Code ∧ (stepA x op).Code ≤ 21) ∧ (-1 ≤ (stepA x op).N ∧ (stepA x op).N ≤ 32) := by
  unfold stepA stepR
  by_cases hok : SOk x
  · rw [if_pos hok]; exact stepF_rng (sok_iff.1 hok).1 _ _ _
  · rw [if_neg hok]; show ((0 : Int) ≤ 0 ∧ (0 : Int) ≤ 21) ∧ ((-1 : Int) ≤ 0 ∧ (0 : Int) ≤ 32); decide
theorem stepA_is (x : DSched) (op : DSchedOp) : ∀ w, IsD w (stepA x op).dat [.int .i64 (stepA x op).Code, .int .i64 (stepA x op).N] := fun w => by
  have h := stepA_rng x op
  exact isD_mkSt (isF_mk (isD_mkInt ⟨rfl, wf_i64 (by omega) (by omega)⟩) (isF_mk (isD_mkInt ⟨rfl, wf_i64 (by omega) (by omega)⟩) (isF_mk0 rfl)))
theorem step_fr {x : DSched} {op : DSchedOp} {w w' : World} {v : Value} (hu : ∀ t, t ∈ x.Threads → (Lit.int .i64 t.Until).wf = true) (h : KR w [] (stepR x op.Kind op.Id op.N) v w') : ∃ y, v = .tuple #[.agg ⟨y⟩, .agg #[.int .i64 (stepA x op).Code, .int .i64 (stepA x op).N]] ∧ Fr w.heap.size w'.heap.size w' (stepD x op).dat y ∧ Ext w w' := by
  obtain ⟨t, l, rfl, h⟩ := h
  refine ⟨sCells (stepD x op).Now (stepD x op).Seq t l, rfl, sched_fr h ?_, h.ext⟩
  by_cases hok : SOk x
  · exact (stepD_ok hok hu).2
  · rw [stepD_no hok]
    simp only [DSched.dat, Dat.fit, Dat.fits, List.map_nil, List.length_nil]
    exact ⟨wf_i64 (by omega) (by omega), wf_i64 (by omega) (by omega), ⟨Nat.zero_le _, trivial⟩, ⟨Nat.zero_le _, trivial⟩, trivial⟩
theorem sAt_of {x : DSched} {w : World} {cs : List Value} (h : IsD w x.dat cs) (hs : x.dat.sz ≤ 1048576) : (∃ t l : Sl, cs = [.int .i64 x.Now, .int .i64 x.Seq, .slice t.a t.len t.cap, .slice l.a l.len l.cap] ∧ SAt w t l x) ∧ ∀ t, t ∈ x.Threads → (Lit.int .i64 t.Until).wf = true := by
  have q := isD_st h
  obtain ⟨_, _, rfl, i0, q⟩ := isF_cons q
  obtain ⟨_, _, rfl, i1, q⟩ := isF_cons q
  obtain ⟨_, _, rfl, i2, q⟩ := isF_cons q
  obtain ⟨_, _, rfl, i3, q⟩ := isF_cons q
  obtain rfl := isF_nil q
  obtain ⟨rfl, _⟩ := isD_int i0
  obtain ⟨rfl, _⟩ := isD_int i1
  obtain ⟨t, rfl⟩ := isD_sl_s i2
  obtain ⟨l, rfl⟩ := isD_sl_s i3
  have hs2 : x.dat.sz = 0 + (0 + ((x.Threads.map DThread.dat).length + Dat.szs (x.Threads.map DThread.dat) + ((x.Locks.map DLock.dat).length + Dat.szs (x.Locks.map DLock.dat) + 0))) := rfl
  rw [List.length_map, List.length_map] at hs2
  refine ⟨⟨t, l, rfl, (isD_len i2).1, isD_row i2 (fun _ => rfl) (fun es y hy => DThread.is_cells hy), (isD_len i3).1, isD_row i3 (fun _ => rfl) (fun es y hy => DLock.is_cells hy), by omega⟩, fun y hy => ?_⟩
  obtain ⟨k, hk⟩ := List.getElem?_of_mem hy
  obtain ⟨p, es, _, _, _, he⟩ := isD_elem i2 hk
  have q := isD_st he
  obtain ⟨_, _, _, _, q⟩ := isF_cons q
  obtain ⟨_, _, _, _, q⟩ := isF_cons q
  obtain ⟨_, _, _, _, q⟩ := isF_cons q
  obtain ⟨_, _, _, _, q⟩ := isF_cons q
  obtain ⟨_, _, _, _, q⟩ := isF_cons q
  obtain ⟨_, _, _, _, q⟩ := isF_cons q
  obtain ⟨_, _, _, j, q⟩ := isF_cons q
  exact (isD_int j).2
theorem specSchedStep {x : DSched} {op : DSchedOp} {w : World} {cs co : List Value} (h : IsD w x.dat cs) (hs : x.dat.sz ≤ 1048576) (ho : IsD w op.dat co) : CallW Try.prog 21 #[.agg ⟨cs⟩, .agg ⟨co⟩] w (fun v w' => ∃ y, v = .tuple #[.agg ⟨y⟩, .agg #[.int .i64 (stepA x op).Code, .int .i64 (stepA x op).N]] ∧ Fr w.heap.size w'.heap.size w' (stepD x op).dat y ∧ Ext w w') := by
  obtain rfl := DSchedOp.is_cells ho
  obtain ⟨⟨t, l, rfl, hat⟩, hu⟩ := sAt_of h hs
  exact (s21 hat).mono (fun _ _ hv => step_fr hu hv)
theorem implSchedStep {x : DSched} {op : DSchedOp} {w : World} {cs co : List Value} (h : IsD w x.dat cs) (hs : x.dat.sz ≤ 1048576) (ho : IsD w op.dat co) : CallW Try.prog 24 #[.agg ⟨cs⟩, .agg ⟨co⟩] w (fun v w' => ∃ y, v = .tuple #[.agg ⟨y⟩, .agg #[.int .i64 (stepA x op).Code, .int .i64 (stepA x op).N]] ∧ Fr w.heap.size w'.heap.size w' (stepD x op).dat y ∧ Ext w w') := by
  obtain rfl := DSchedOp.is_cells ho
  obtain ⟨⟨t, l, rfl, hat⟩, hu⟩ := sAt_of h hs
  exact (s24 hat).mono (fun _ _ hv => step_fr hu hv)
theorem stepD_cnt (x : DSched) (op : DSchedOp) : (stepD x op).dat.cntT ≤ 4096 := by
  have hc : ∀ d : DSched, d.dat.cntT = 8 * d.Threads.length + 2 * d.Locks.length := fun d => by
    have h1 : ∀ l : List DThread, Dat.cnts (l.map DThread.dat) = 8 * l.length := fun l => by
      induction l with
      | nil => rfl
      | cons a r ih => simp only [List.map_cons, DThread.dat, Dat.cnts, Dat.cnt, List.length_cons] at ih ⊢; omega
    have h2 : ∀ l : List DLock, Dat.cnts (l.map DLock.dat) = 2 * l.length := fun l => by
      induction l with
      | nil => rfl
      | cons a r ih => simp only [List.map_cons, DLock.dat, Dat.cnts, Dat.cnt, List.length_cons] at ih ⊢; omega
    simp only [DSched.dat, Dat.cntT, Dat.cntTs, h1, h2]
    omega
  rw [hc]
  by_cases hok : SOk x
  · obtain ⟨hi, hn, hq⟩ := sok_iff.1 hok
    have he : stepD x op = (stepF x op.Kind op.Id op.N).1 := by unfold stepD stepR; rw [if_pos hok]
    have := (hi.step hn op.Kind op.Id op.N).1.few
    rw [he]; omega
  · rw [stepD_no hok]; decide
theorem sched_cnt {x : DSched} (hs : x.dat.sz ≤ 1048576) : x.dat.cntT ≤ 16777216 := by
  have hs2 : x.dat.sz = 0 + (0 + ((x.Threads.map DThread.dat).length + Dat.szs (x.Threads.map DThread.dat) + ((x.Locks.map DLock.dat).length + Dat.szs (x.Locks.map DLock.dat) + 0))) := rfl
  rw [List.length_map, List.length_map] at hs2
  have h1 : ∀ l : List DThread, Dat.cnts (l.map DThread.dat) = 8 * l.length := fun l => by
    induction l with
    | nil => rfl
    | cons a r ih => simp only [List.map_cons, DThread.dat, Dat.cnts, Dat.cnt, List.length_cons] at ih ⊢; omega
  have h2 : ∀ l : List DLock, Dat.cnts (l.map DLock.dat) = 2 * l.length := fun l => by
    induction l with
    | nil => rfl
    | cons a r ih => simp only [List.map_cons, DLock.dat, Dat.cnts, Dat.cnt, List.length_cons] at ih ⊢; omega
  simp only [DSched.dat, Dat.cntT, Dat.cntTs, h1, h2]
  omega
theorem op_sz (e : DSchedOp) : e.dat.sz ≤ 4194304 := by
  show (_ : Nat) ≤ _
  simp only [DSchedOp.dat, Dat.sz, Dat.szs]
  omega
end Go.Proofs.Yteigefjiifihpaa
