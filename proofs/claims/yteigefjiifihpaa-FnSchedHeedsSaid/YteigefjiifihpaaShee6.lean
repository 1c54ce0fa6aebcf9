/- Part 6 of 6: plain readings of code, rules for them, and a proof over them, joined by a program. Conditions: none. -/
import Derived.Test.YteigefjiifihpaaShee5
import Derived.Test.YteigefjiifihpaaRows
import Derived.WalkKit
import Derived.ProofKit
import Derived.OpenShut
import Derived.ShutString
import Derived.ChangeOld
import Derived.Below
import Derived.Carry
import Derived.SizedLaws
/- FnSchedFree: who is needed in the end; the bytes of a draw. Conditions: none. -/
set_option linter.unusedVariables false
set_option linter.unusedSimpArgs false
namespace Go.Proofs.Yteigefjiifihpaa
open Go Go.Den
/-- How many are of less rank. -/
def below_ (r : Int → Nat) (d : DSched) (a : Int) : Nat := (d.Threads.filter (fun y => decide (r y.Id < r a))).length
def waitIn (l : List DThread) (id : Int) : Int := match l.find? (fun t => t.Id == id) with
  | some t => t.Wait
  | none => -1
theorem waitIn_step {l : List DThread} (hs : Srt DThread.Id l) {m : Nat} {x : DThread} (hx : l[m]? = some x) (id : Int) : waitIn (l.take (m + 1)) id = if x.Id = id then x.Wait else waitIn (l.take m) id := by
  unfold waitIn
  rw [List.take_add_one, hx, List.find?_append]
  by_cases h : x.Id = id
  · rw [if_pos h]
    have hn : (l.take m).find? (fun t => t.Id == id) = none := by
      refine List.find?_eq_none.2 (fun y hy => ?_)
      obtain ⟨j, hj⟩ := List.getElem?_of_mem hy
      have hjm : j < m := by have := (List.getElem?_eq_some_iff.1 hj).1; rw [List.length_take] at this; omega
      rw [List.getElem?_take_of_lt hjm] at hj
      have := hs.lt hj hx hjm
      simp; omega
    rw [hn]
    simp [h]
  · rw [if_neg h]
    rcases hf : (l.take m).find? (fun t => t.Id == id) with _ | y
    · simp [h]
    · rw [hf]; rfl
theorem waitIn_at {l : List DThread} (hs : Srt DThread.Id l) {x : DThread} (hx : x ∈ l) : waitIn l x.Id = x.Wait := by
  unfold waitIn
  rw [hs.find hx]
def ownIn (l : List DLock) (id o : Int) : Int := match l.find? (fun t => t.Id == id) with
  | some t => t.Owner
  | none => o
theorem ownIn_step {l : List DLock} (hs : Srt DLock.Id l) {m : Nat} {x : DLock} (hx : l[m]? = some x) (id o : Int) : ownIn (l.take (m + 1)) id o = if x.Id = id then x.Owner else ownIn (l.take m) id o := by
  unfold ownIn
  rw [List.take_add_one, hx, List.find?_append]
  by_cases h : x.Id = id
  · rw [if_pos h]
    have hn : (l.take m).find? (fun t => t.Id == id) = none := by
      refine List.find?_eq_none.2 (fun y hy => ?_)
      obtain ⟨j, hj⟩ := List.getElem?_of_mem hy
      have hjm : j < m := by have := (List.getElem?_eq_some_iff.1 hj).1; rw [List.length_take] at this; omega
      rw [List.getElem?_take_of_lt hjm] at hj
      have := hs.lt hj hx hjm
      simp; omega
    rw [hn]
    simp [h]
  · rw [if_neg h]
    rcases hf : (l.take m).find? (fun t => t.Id == id) with _ | y
    · simp [h]
    · rw [hf]; rfl
/-- One step in a way of waiting. -/
theorem wait_next {d : DSched} (h : Inv0 d) {x : DThread} (hx : x ∈ d.Threads) (hw : ¬ x.Wait < 0) : ∃ k z, k ∈ d.Locks ∧ k.Id = x.Wait ∧ z ∈ d.Threads ∧ k.Owner = z.Id ∧ x.State = 2 := by
  have hs : x.State = 2 ∧ ∃ k, k ∈ d.Locks ∧ k.Id = x.Wait := by
    rcases (h.tok x hx).st with g | ⟨g1, _, g2⟩ | g
    · omega
    · exact ⟨g1, g2⟩
    · omega
  obtain ⟨hs, k, hk, hkw⟩ := hs
  rcases h.own k hk with hf | ⟨z, hz, hzo⟩
  · exact hf.elim
  · exact ⟨k, z, hk, hkw, hz, hzo.symm, hs⟩
/-- Who is needed in the end: one who does not wait. -/
theorem c32 {t l : Sl} {d : DSched} {x : DThread} {w : World} (hs : SAt w t l d) (hi : Inv0 d) (hx : x ∈ d.Threads) : CallW Try.prog 32 #[sAgg d.Now d.Seq t l, .int .i64 x.Id] w (fun v w' => (∃ y, y ∈ d.Threads ∧ v = .int .i64 y.Id ∧ y.Wait < 0 ∧ y.State ≠ 2 ∧ (∀ R : DThread → Prop, R x → (∀ a b k, a ∈ d.Threads → b ∈ d.Threads → k ∈ d.Locks → a.State = 2 → k.Id = a.Wait → k.Owner = b.Id → R a → R b) → R y)) ∧ Ext w w') := by
  refine go32 ?_
  unfold W32
  have htl := hs.tl
  have hll := hs.ll
  have hfew := hi.few
  have h := SH.start w
  refine h.alloc (fun w1 h e1 n1 => ?_)
  have hs := hs.ext h.ext
  obtain ⟨r, hr⟩ := hi.rank
  have hm0 : below_ r d x.Id ≤ 31 := by
    have := filter_lt (p := fun y : DThread => decide (r y.Id < r x.Id)) (q := fun _ => true) d.Threads (fun _ _ _ => rfl) ⟨x, hx, decide_eq_false (by omega), rfl⟩
    rw [List.filter_eq_self.2 (fun _ _ => rfl)] at this
    unfold below_; omega
  refine LoopW.m2 (fun (a i : Int) w' => ∃ (m : Nat) (z : DThread), i = m ∧ z ∈ d.Threads ∧ a = z.Id ∧ m + below_ r d z.Id ≤ 31 ∧ (∀ R : DThread → Prop, R x → (∀ a b k, a ∈ d.Threads → b ∈ d.Threads → k ∈ d.Locks → a.State = 2 → k.Id = a.Wait → k.Owner = b.Id → R a → R b) → R z) ∧ w' = w1) (fun _ (i : Int) _ => (40 - i).toNat) ⟨0, x, rfl, hx, rfl, by omega, fun R h1 _ => h1, rfl⟩ ?_
  rintro (a : Int) (i : Int) w5 ⟨m, z, rfl, hz, rfl, hm, hR, rfl⟩ J hJ
  refine BIf.dec (fun hle => ?_) (fun hgt => absurd (by omega) hgt)
  refine LoopW.m2 (fun (u i : Int) w' => ∃ k : Nat, i = k ∧ k ≤ d.Threads.length ∧ u = waitIn (d.Threads.take k) z.Id ∧ w' = w5) (fun _ (i : Int) _ => (d.Threads.length - i).toNat) ⟨0, rfl, by omega, rfl, rfl⟩ ?_
  rintro (u : Int) (i : Int) w9 ⟨k, rfl, hk, rfl, rfl⟩ J2 hJ2
  refine ⟨t, h.cell 0 rfl rfl, BIf.dec (fun hlt => ?_) (fun hge => ?_)⟩
  · have hget : d.Threads[k]? = some d.Threads[k] := List.getElem?_eq_getElem (by omega)
    have hst := waitIn_step hi.ts hget z.Id
    generalize d.Threads[k] = y at *
    obtain ⟨p, hp, hc⟩ := hs.thr hget
    simp only [Int.toNat_natCast]
    rw [w64 (n := (k : Int) + 1) (by omega) (by omega)]
    refine ⟨t, h.cell 0 rfl rfl, by omega, by omega, p, hp, _, hc 0 _ rfl, BIf.eq (fun he => ?_) (fun he => ?_)⟩
    · rw [if_pos he] at hst
      exact ⟨t, h.cell 0 rfl rfl, by omega, by omega, p, hp, _, hc 7 _ rfl, hJ2 _ _ _ ⟨k + 1, by omega, by omega, hst.symm, rfl⟩ (by omega)⟩
    · rw [if_neg he] at hst
      exact hJ2 _ _ _ ⟨k + 1, by omega, by omega, hst.symm, rfl⟩ (by omega)
  · rw [show k = d.Threads.length by omega, List.take_length, waitIn_at hi.ts hz]
    clear hJ2 J2
    refine BIf.dec (fun hneg => ?_) (fun hpos => ?_)
    · refine ⟨⟨z, hz, rfl, hneg, fun e => ?_, hR⟩, h.ext⟩
      rcases (hi.tok z hz).st with g | ⟨g1, _, q, hq, hqw⟩ | g
      · omega
      · have := hi.lok q hq; omega
      · omega
    · obtain ⟨q, z', hq, hqw, hz', hqo, hst2⟩ := wait_next hi hz hpos
      refine LoopW.m2 (fun (u i : Int) w' => ∃ k : Nat, i = k ∧ k ≤ d.Locks.length ∧ u = ownIn (d.Locks.take k) z.Wait z.Id ∧ w' = w9) (fun _ (i : Int) _ => (d.Locks.length - i).toNat) ⟨0, rfl, by omega, rfl, rfl⟩ ?_
      rintro (u : Int) (i : Int) w20 ⟨k2, rfl, hk2, rfl, rfl⟩ J3 hJ3
      refine ⟨l, h.cell 0 rfl rfl, BIf.dec (fun hlt => ?_) (fun hge => ?_)⟩
      · have hget : d.Locks[k2]? = some d.Locks[k2] := List.getElem?_eq_getElem (by omega)
        have hst := ownIn_step hi.ls hget z.Wait z.Id
        generalize d.Locks[k2] = y at *
        obtain ⟨p, hp, hc⟩ := hs.lck hget
        simp only [Int.toNat_natCast]
        rw [w64 (n := (k2 : Int) + 1) (by omega) (by omega)]
        refine ⟨l, h.cell 0 rfl rfl, by omega, by omega, p, hp, _, hc 0 _ rfl, BIf.eq (fun he => ?_) (fun he => ?_)⟩
        · rw [if_pos he] at hst
          exact ⟨l, h.cell 0 rfl rfl, by omega, by omega, p, hp, _, hc 1 _ rfl, hJ3 _ _ _ ⟨k2 + 1, by omega, by omega, hst.symm, rfl⟩ (by omega)⟩
        · rw [if_neg he] at hst
          exact hJ3 _ _ _ ⟨k2 + 1, by omega, by omega, hst.symm, rfl⟩ (by omega)
      · have ho : ownIn (d.Locks.take k2) z.Wait z.Id = z'.Id := by
          rw [show k2 = d.Locks.length by omega, List.take_length]
          unfold ownIn
          rw [← hqw, hi.ls.find hq]
          exact hqo
        rw [ho, w64 (by omega) (by omega)]
        have hrk := hr z hz hst2 q hq hqw
        rw [hqo] at hrk
        have hlt2 : below_ r d z'.Id < below_ r d z.Id := by
          unfold below_
          exact filter_lt _ (fun y hy hyq => by have := of_decide_eq_true hyq; exact decide_eq_true (by omega)) ⟨z', hz', decide_eq_false (by omega), decide_eq_true hrk⟩
        exact hJ _ _ _ ⟨m + 1, z', by omega, hz', rfl, by omega, fun R h1 h2 => h2 z z' q hz hz' hq hst2 hqw hqo (hR R h1 h2), rfl⟩ (by omega)
theorem c33 {t l : Sl} {d : DSched} {x : DThread} {w : World} (hs : SAt w t l d) (hi : Inv0 d) (hx : x ∈ d.Threads) : CallW Try.prog 33 #[sAgg d.Now d.Seq t l, .int .i64 x.Id] w (fun v w' => v = .int .i64 x.State ∧ Ext w w') := by
  refine go33 ?_
  unfold W33
  have htl := hs.tl
  have hfew := hi.few
  have h := SH.start w
  refine h.alloc (fun w1 h e1 n1 => ?_)
  have hs := hs.ext h.ext
  refine LoopW.m1 (fun (i : Int) w' => ∃ k : Nat, i = k ∧ k ≤ d.Threads.length ∧ (∀ y, y ∈ d.Threads.take k → y.Id ≠ x.Id) ∧ w' = w1) (fun (i : Int) _ => (d.Threads.length - i).toNat) ⟨0, rfl, by omega, (fun y hy => by simp at hy), rfl⟩ ?_
  rintro (i : Int) w4 ⟨k, rfl, hk, hno, rfl⟩ J hJ
  refine ⟨t, h.cell 0 rfl rfl, BIf.dec (fun hlt => ?_) (fun hge => ?_)⟩
  · have hget : d.Threads[k]? = some d.Threads[k] := List.getElem?_eq_getElem (by omega)
    have hmem : ∀ y, y ∈ d.Threads.take (k + 1) → y ∈ d.Threads.take k ∨ y = d.Threads[k] := fun y hy => by
      rw [List.take_add_one, hget] at hy
      rcases List.mem_append.1 hy with hy | hy
      · exact .inl hy
      · exact .inr (by simpa using hy)
    generalize d.Threads[k] = y at *
    obtain ⟨p, hp, hc⟩ := hs.thr hget
    simp only [Int.toNat_natCast]
    rw [w64 (n := (k : Int) + 1) (by omega) (by omega)]
    refine ⟨t, h.cell 0 rfl rfl, by omega, by omega, p, hp, _, hc 0 _ rfl, BIf.eq (fun he => ?_) (fun he => ?_)⟩
    · have := hi.ts.uniq (List.mem_of_getElem? hget) hx he
      subst this
      exact ⟨t, h.cell 0 rfl rfl, by omega, by omega, p, hp, _, hc 2 _ rfl, rfl, h.ext⟩
    · refine hJ _ _ ⟨k + 1, by omega, by omega, fun z hz => ?_, rfl⟩ (by omega)
      rcases hmem z hz with hz | rfl
      · exact hno z hz
      · exact he
  · rw [show k = d.Threads.length by omega, List.take_length] at hno
    exact absurd rfl (hno x hx)
end Go.Proofs.Yteigefjiifihpaa

/- Draws: a state of the scheduler that may be spoilt; a step. Conditions: none. -/
set_option linter.unusedVariables false
set_option linter.unusedSimpArgs false
namespace Go.Proofs.Yteigefjiifihpaa
open Go Go.Den
theorem s123 {w0 w : World} {F : List Asr} {cb : Nat} {s t l : Sl} {ths : List DThread} {lks : List DLock} {a b : Int} (h : SH w0 w (aC cb s :: RT t ths :: RL l lks :: F)) (hb : CurB w0 s) (hp : 0 < ths.length) (hf : ths.length ≤ 1048576 ∧ lks.length ≤ 1048576) :
    CallW Try.prog 123 #[.pointer (some ⟨cb, 0, none⟩), sAgg a b t l] w (fun v w' => v = .tuple #[] ∧ ∃ ths' lks', ths'.length = ths.length ∧ lks'.length = lks.length ∧ SH w0 w' (aC cb s :: RT t ths' :: RL l lks' :: F)) := by
  refine go123 ?_
  unfold W123
  have htl := h.len 1 rfl
  rw [recs_len] at htl
  have hll := h.len 2 rfl
  rw [recs_len] at hll
  refine h.alloc (fun w1 h e1 n1 => ?_)
  have h := h.drew
  refine ⟨t, h.cell 0 rfl rfl, t, h.cell 0 rfl rfl, (s77 h 1 rfl hb).mono ?_⟩
  rintro _ w5 ⟨n6, rfl, ⟨pa, pb⟩, h⟩
  obtain ⟨k6, rfl⟩ := Int.eq_ofNat_of_zero_le pa
  have hget : ths[k6]? = some ths[k6] := List.getElem?_eq_getElem (by omega)
  generalize ths[k6] = x at *
  obtain ⟨q, hqa⟩ := h.rowQ 2 rfl hget
  have hk6 : k6 < ths.length := by omega
  refine ⟨_, rfl, ⟨t, h.cell 0 rfl rfl, (by first | rfl | trivial)⟩, by omega, by omega, q, hqa, ?_⟩
  simp only [Int.toNat_natCast]
  refine h.alloc (fun w9 h e9 n9 => ?_)
  have h : SH w0 w9 (aI w5.heap.size 4 (fun _ => True) :: aB w.heap.size ((sCells a b t l).map Ce.v) :: aC cb s :: RT t ths :: RL l lks :: F) := h.toI 0 [1, -1, 8, 100] rfl rfl (fun _ _ => trivial)
  refine (s77 h 2 rfl hb).mono ?_
  rintro _ w11 ⟨n12, rfl, ⟨qa, qb⟩, h⟩
  obtain ⟨k12, rfl⟩ := Int.eq_ofNat_of_zero_le qa
  refine ⟨_, rfl, by omega, by omega, _, rfl, ?_⟩
  simp only [Int.toNat_natCast]
  refine h.rIx 0 rfl (by omega) (fun n14 _ => ?_)
  refine (s77 h 2 rfl hb).mono ?_
  rintro _ w16 ⟨n17, rfl, ⟨ra, rb⟩, h⟩
  have h : SH w0 w16 (aB w.heap.size ((sCells a b t l).map Ce.v) :: aC cb s :: RT t (ths.set k6 x) :: RL l lks :: F) := by rw [← set_at hget]; exact h.drop
  have hx : (ths.set k6 x)[k6]? = some x := List.getElem?_set_self hk6
  refine ⟨n17, rfl, ?_⟩
  refine BIf.of (fun _ => ⟨_, rfl, _, h.rdR 2 rfl hqa hx rfl, _, rfl, ?_⟩) (fun _ => ?_)
  · exact h.setR 2 (⟨IntKind.wrap .i64 (x.Id + n14), x.Base, x.State, x.Line, x.Left, x.Since, x.Until, x.Wait⟩ : DThread) rfl hqa hk6 (by show 0 < 8; omega) rfl (fun w21 h n21 => ⟨(by first | rfl | trivial), _, lks, List.length_set .., rfl, h.drop⟩)
  refine BIf.of (fun _ => ⟨_, rfl, _, h.rdR 2 rfl hqa hx rfl, _, rfl, ?_⟩) (fun _ => ?_)
  · exact h.setR 2 (⟨x.Id, IntKind.wrap .i64 (x.Base + n14), x.State, x.Line, x.Left, x.Since, x.Until, x.Wait⟩ : DThread) rfl hqa hk6 (by show 1 < 8; omega) rfl (fun w21 h n21 => ⟨(by first | rfl | trivial), _, lks, List.length_set .., rfl, h.drop⟩)
  refine BIf.of (fun _ => ⟨_, rfl, _, h.rdR 2 rfl hqa hx rfl, _, rfl, ?_⟩) (fun _ => ?_)
  · exact h.setR 2 (⟨x.Id, x.Base, IntKind.wrap .i64 (x.State + n14), x.Line, x.Left, x.Since, x.Until, x.Wait⟩ : DThread) rfl hqa hk6 (by show 2 < 8; omega) rfl (fun w21 h n21 => ⟨(by first | rfl | trivial), _, lks, List.length_set .., rfl, h.drop⟩)
  refine BIf.of (fun _ => ⟨_, rfl, _, h.rdR 2 rfl hqa hx rfl, _, rfl, ?_⟩) (fun _ => ?_)
  · exact h.setR 2 (⟨x.Id, x.Base, x.State, IntKind.wrap .i64 (x.Line + n14), x.Left, x.Since, x.Until, x.Wait⟩ : DThread) rfl hqa hk6 (by show 3 < 8; omega) rfl (fun w21 h n21 => ⟨(by first | rfl | trivial), _, lks, List.length_set .., rfl, h.drop⟩)
  refine BIf.of (fun _ => ⟨_, rfl, _, h.rdR 2 rfl hqa hx rfl, _, rfl, ?_⟩) (fun _ => ?_)
  · exact h.setR 2 (⟨x.Id, x.Base, x.State, x.Line, IntKind.wrap .i64 (x.Left + n14), x.Since, x.Until, x.Wait⟩ : DThread) rfl hqa hk6 (by show 4 < 8; omega) rfl (fun w21 h n21 => ⟨(by first | rfl | trivial), _, lks, List.length_set .., rfl, h.drop⟩)
  refine BIf.of (fun _ => ⟨_, rfl, _, h.rdR 2 rfl hqa hx rfl, _, rfl, ?_⟩) (fun _ => ?_)
  · exact h.setR 2 (⟨x.Id, x.Base, x.State, x.Line, x.Left, IntKind.wrap .i64 (x.Since + n14), x.Until, x.Wait⟩ : DThread) rfl hqa hk6 (by show 5 < 8; omega) rfl (fun w21 h n21 => ⟨(by first | rfl | trivial), _, lks, List.length_set .., rfl, h.drop⟩)
  refine BIf.of (fun _ => ⟨_, rfl, _, h.rdR 2 rfl hqa hx rfl, _, rfl, ?_⟩) (fun _ => ?_)
  · exact h.setR 2 (⟨x.Id, x.Base, x.State, x.Line, x.Left, x.Since, IntKind.wrap .i64 (x.Until + n14), x.Wait⟩ : DThread) rfl hqa hk6 (by show 6 < 8; omega) rfl (fun w21 h n21 => ⟨(by first | rfl | trivial), _, lks, List.length_set .., rfl, h.drop⟩)
  refine BIf.of (fun _ => ⟨_, rfl, _, h.rdR 2 rfl hqa hx rfl, _, rfl, ?_⟩) (fun _ => ?_)
  · exact h.setR 2 (⟨x.Id, x.Base, x.State, x.Line, x.Left, x.Since, x.Until, IntKind.wrap .i64 (x.Wait + n14)⟩ : DThread) rfl hqa hk6 (by show 7 < 8; omega) rfl (fun w21 h n21 => ⟨(by first | rfl | trivial), _, lks, List.length_set .., rfl, h.drop⟩)
  rw [← set_at hget] at h hx
  refine JoinW.cut1 (fun (c : Bool) w' => w' = w16) (BIf.of (fun _ => rfl) (fun _ => rfl)) ?_
  rintro (c : Bool) w52 rfl
  have fin : ∀ {w' : World} {lks' : List DLock}, lks'.length = lks.length → SH w0 w' (aB w.heap.size ((sCells a b t l).map Ce.v) :: aC cb s :: RT t ths :: RL l lks' :: F) → Value.tuple #[] = Value.tuple #[] ∧ ∃ ths' lks', ths'.length = ths.length ∧ lks'.length = lks.length ∧ SH w0 w' (aC cb s :: RT t ths' :: RL l lks' :: F) := fun hl h => ⟨rfl, ths, _, rfl, hl, h.drop⟩
  refine BIf.of (fun _ => ?_) (fun _ => by simpa using fin rfl h)
  refine ⟨l, h.cell 0 rfl rfl, BIf.dec (fun hlp => ?_) (fun _ => by simpa using fin rfl h)⟩
  refine ⟨l, h.cell 0 rfl rfl, (s77 h 1 rfl hb).mono ?_⟩
  rintro _ w56 ⟨n57, rfl, ⟨ua, ub⟩, h⟩
  obtain ⟨k57, rfl⟩ := Int.eq_ofNat_of_zero_le ua
  have hgl : lks[k57]? = some lks[k57] := List.getElem?_eq_getElem (by omega)
  generalize lks[k57] = z at *
  have hkl : k57 < lks.length := by omega
  obtain ⟨ql, hql⟩ := h.rowQ 3 rfl hgl
  have h := h.drew
  try simp only [Int.toNat_natCast]
  refine ⟨_, rfl, l, h.cell 0 rfl rfl, _, rfl, _, h.rdR 2 rfl hqa hx rfl, by omega, by omega, ql, hql, ?_⟩
  rw [set_at hgl] at h
  refine h.setR 3 (⟨z.Id, x.Id⟩ : DLock) rfl hql hkl (by show 1 < 2; omega) rfl (fun w62 h n62 => ?_)
  refine (s78 h 1 rfl hb).mono ?_
  rintro _ w64 ⟨b65, rfl, h⟩
  refine ⟨b65, rfl, BIf.of (fun _ => ?_) (fun _ => by simpa using fin (List.length_set ..) h)⟩
  have h := h.drew
  have hz2 : (lks.set k57 (⟨z.Id, x.Id⟩ : DLock))[k57]? = some ⟨z.Id, x.Id⟩ := List.getElem?_set_self hkl
  refine ⟨l, h.cell 0 rfl rfl, l, h.cell 0 rfl rfl, by omega, by omega, ql, hql, _, h.rdR 3 rfl hql hz2 rfl, by omega, by omega, ql, hql, ?_⟩
  exact h.setR 3 (⟨IntKind.wrap .i64 (z.Id + n14), x.Id⟩ : DLock) rfl hql hkl (by show 0 < 2; omega) rfl (fun w71 h n71 => by simpa using fin (List.length_set ..) h)
end Go.Proofs.Yteigefjiifihpaa

/- Draws: a state and an operation of the scheduler. Conditions: none. -/
set_option linter.unusedVariables false
set_option linter.unusedSimpArgs false
namespace Go.Proofs.Yteigefjiifihpaa
open Go Go.Den
theorem s86 {w0 w : World} {F : List Asr} {cb : Nat} {s : Sl} (h : SH w0 w (aC cb s :: F)) (hb : CurB w0 s) :
    CallW Try.prog 86 #[.pointer (some ⟨cb, 0, none⟩)] w (fun v w' => ∃ (d : DSched) (t l : Sl), v = sAgg d.Now d.Seq t l ∧ d.Threads.length ≤ 32 ∧ d.Locks.length ≤ 16 ∧ SH w0 w' (aC cb s :: RT t d.Threads :: RL l d.Locks :: F)) := by
  refine go86 ?_
  unfold W86
  refine h.alloc (fun w1 h e1 n1 => ?_)
  refine (s77 h 1 rfl hb).mono ?_
  rintro _ w3 ⟨n4, rfl, ⟨pa, pb⟩, h⟩
  refine ⟨n4, rfl, (s76 (F := aB w.heap.size (ZS.map Ce.v) :: F) (h.front (n := 1) rfl) hb ⟨by omega, by omega⟩).mono ?_⟩
  rintro _ w6 ⟨e, t, l, o, ops, rfl, hway, hops, h⟩
  have hf := hway.inv.few
  refine ⟨_, _, t, l, o, rfl, ?_⟩
  refine h.alloc (fun w12 h e12 n12 => ?_)
  refine h.put 0 rfl rfl rfl (fun w13 h n13 => ?_)
  have h : SH w0 w13 (aC cb s :: RT t e.Threads :: RL l e.Locks :: BSt w6.heap.size e t l :: aB w.heap.size (ZS.map Ce.v) :: F) := (((h.dropAt 1).front (n := 3) rfl).front (n := 3) rfl).front (n := 3) rfl
  refine JoinW.cut0 (fun w' => ∃ (ths : List DThread) (lks : List DLock), ths.length = e.Threads.length ∧ lks.length = e.Locks.length ∧ SH w0 w' (aC cb s :: RT t ths :: RL l lks :: BSt w6.heap.size e t l :: aB w.heap.size (ZS.map Ce.v) :: F)) ?_ ?_
  · refine (s78 h 0 rfl hb).mono ?_
    rintro _ w38 ⟨b39, rfl, h⟩
    have htl := h.len 1 rfl
    rw [recs_len] at htl
    refine ⟨b39, rfl, JoinW.cut1 (fun (c : Bool) w' => (c = true → 0 < e.Threads.length) ∧ w' = w38) ?_ ?_⟩
    · refine BIf.of (fun _ => ⟨t, h.cell 3 rfl rfl, fun hc => ?_, rfl⟩) (fun _ => ⟨(fun hc => nomatch hc), rfl⟩)
      have := of_decide_eq_true hc
      omega
    rintro (c : Bool) w42 ⟨hc, rfl⟩
    refine BIf.of (fun hc1 => ?_) (fun _ => ⟨_, _, rfl, rfl, h⟩)
    refine ⟨_, h.cell 3 rfl rfl, _, h.cell 3 rfl rfl, t, h.cell 3 rfl rfl, l, h.cell 3 rfl rfl, (s123 h hb (hc hc1) ⟨by omega, by omega⟩).mono ?_⟩
    rintro _ w48 ⟨rfl, ths, lks, g1, g2, h⟩
    exact ⟨rfl, ths, lks, g1, g2, h⟩
  clear h
  rintro w15 ⟨ths, lks, g1, g2, h⟩
  refine JoinW.cut0 (fun w' => ∃ now : Int, SH w0 w' (aC cb s :: RT t ths :: RL l lks :: aB w6.heap.size ((sCells now e.Seq t l).map Ce.v) :: aB w.heap.size (ZS.map Ce.v) :: F)) ?_ ?_
  · refine (s78 h 0 rfl hb).mono ?_
    rintro _ w28 ⟨b29, rfl, h⟩
    refine ⟨b29, rfl, BIf.of (fun _ => ?_) (fun _ => ⟨_, h⟩)⟩
    refine h.alloc (fun w30 h e30 n30 => ?_)
    have h : SH w0 w30 (aI w28.heap.size 3 (fun _ => True) :: aC cb s :: RT t ths :: RL l lks :: BSt w6.heap.size e t l :: aB w.heap.size (ZS.map Ce.v) :: F) := h.toI 0 [-1, 1099511627776, 1099511627777] rfl rfl (fun _ _ => trivial)
    refine (s77 h 1 rfl hb).mono ?_
    rintro _ w32 ⟨n33, rfl, ⟨qa, qb⟩, h⟩
    obtain ⟨k33, rfl⟩ := Int.eq_ofNat_of_zero_le qa
    refine ⟨_, rfl, by omega, by omega, _, rfl, ?_⟩
    try simp only [Int.toNat_natCast]
    refine h.rIx 0 rfl (by omega) (fun n35 _ => ?_)
    refine h.setV 4 rfl rfl (fun w36 h n36 => ⟨n35, h.drop⟩)
  clear h
  rintro w17 ⟨now, h⟩
  refine ⟨_, h.cell 3 rfl rfl, _, h.cell 3 rfl rfl, t, h.cell 3 rfl rfl, l, h.cell 3 rfl rfl, ?_⟩
  refine h.put 4 rfl rfl rfl (fun w22 h n22 => ?_)
  refine ⟨_, h.cell 4 rfl rfl, _, h.cell 4 rfl rfl, t, h.cell 4 rfl rfl, l, h.cell 4 rfl rfl, ?_⟩
  exact ⟨⟨now, e.Seq, ths, lks⟩, t, l, rfl, by show ths.length ≤ 32; omega, by show lks.length ≤ 16; omega, ((h.dropAt 4).dropAt 3)⟩
theorem s35 {w0 w : World} {F : List Asr} {s : Sl} (h : SH w0 w F) (hb : CurB w0 s) :
    CallW Try.prog 35 #[.slice s.a s.len s.cap] w (fun v w' => ∃ (d : DSched) (t l : Sl) (x y z : Int), v = .tuple #[sAgg d.Now d.Seq t l, .agg #[.int .i64 x, .int .i64 y, .int .i64 z]] ∧ d.Threads.length ≤ 32 ∧ d.Locks.length ≤ 16 ∧ SH w0 w' (RT t d.Threads :: RL l d.Locks :: F)) := by
  refine go35 ?_
  unfold W35
  refine h.alloc (fun w1 h e1 n1 => ?_)
  refine h.alloc (fun w2 h e2 n2 => ?_)
  refine (s75 h hb).mono ?_
  rintro _ w4 ⟨cb, rfl, h⟩
  refine ⟨_, rfl, (s86 h hb).mono ?_⟩
  rintro _ w7 ⟨d, t, l, rfl, f1, f2, h⟩
  refine ⟨_, _, t, l, rfl, ?_⟩
  refine h.alloc (fun w12 h e12 n12 => ?_)
  refine h.put 0 rfl rfl rfl (fun w13 h n13 => ?_)
  refine ⟨_, h.cell 0 rfl rfl, _, h.cell 0 rfl rfl, t, h.cell 0 rfl rfl, l, h.cell 0 rfl rfl, ?_⟩
  refine (s87 (((h.front (n := 3) rfl).front (n := 3) rfl).front (n := 3) rfl) hb ⟨by omega, by omega⟩).mono ?_
  rintro _ w19 ⟨x, y, z, rfl, h⟩
  refine ⟨x, y, z, rfl, ?_⟩
  refine h.alloc (fun w23 h e23 n23 => ?_)
  refine h.put 0 rfl rfl rfl (fun w24 h n24 => ?_)
  have h := h.drew
  refine ⟨_, h.cell 4 rfl rfl, _, h.cell 4 rfl rfl, t, h.cell 4 rfl rfl, l, h.cell 4 rfl rfl, _, h.cell 0 rfl rfl, _, h.cell 0 rfl rfl, _, h.cell 0 rfl rfl, ?_⟩
  refine h.put 6 rfl rfl rfl (fun w32 h n32 => ⟨⟨_, h.cell 0 rfl rfl, _, h.cell 0 rfl rfl, _, h.cell 0 rfl rfl, rfl⟩, ?_⟩)
  refine h.put 5 rfl rfl rfl (fun w36 h n36 => ?_)
  refine ⟨_, h.cell 6 rfl rfl, _, h.cell 6 rfl rfl, t, h.cell 6 rfl rfl, l, h.cell 6 rfl rfl, _, h.cell 5 rfl rfl, _, h.cell 5 rfl rfl, _, h.cell 5 rfl rfl, ?_⟩
  exact ⟨d, t, l, x, y, z, rfl, f1, f2, (((((h.dropAt 6).dropAt 5).dropAt 4).dropAt 1).dropAt 0)⟩
end Go.Proofs.Yteigefjiifihpaa

/- FnSchedHeeds: priorities along what is needed; who runs; a tick. Conditions: none. -/
set_option linter.unusedVariables false
set_option linter.unusedSimpArgs false
namespace Go.Proofs.Yteigefjiifihpaa
open Go Go.Den
/-- Whoever is waited for has at least the priority of the one who waits. -/
theorem prio_next {d : DSched} {a b : DThread} (h0 : 0 ≤ b.Id) (ha : a ∈ d.Threads) (hn : nxt d a.Id = b.Id) : prio d a ≤ prio d b := by
  obtain ⟨p1, p2, p3⟩ := prioL_char d b.Id d.Threads (own d b)
  obtain ⟨q1, q2, q3⟩ := prioL_char d a.Id d.Threads (own d a)
  rcases q3 with q3 | ⟨y, hy, hyw, q3⟩
  · rw [show prio d a = own d a from q3]
    exact p2 a ha (waits_last.2 (.inl ⟨h0, hn⟩))
  · rw [show prio d a = own d y from q3]
    exact p2 y hy (waits_last.2 (.inr ⟨a.Id, hyw, h0, hn⟩))
theorem firstL_max {d : DSched} (ok : DThread → Bool) : ∀ (l : List DThread) (i : Nat) (b m : Int), (∀ j x, l[j]? = some x → d.Threads[i + j]? = some x) → (firstL d ok l i b m = b ∧ ∀ y, y ∈ l → ok y = true → prio d y ≤ m) ∨ ∃ (j : Nat) (z : DThread), firstL d ok l i b m = (j : Int) ∧ d.Threads[j]? = some z ∧ m ≤ prio d z ∧ ∀ y, y ∈ l → ok y = true → prio d y ≤ prio d z
  | [], i, b, m, _ => .inl ⟨rfl, fun y hy => by cases hy⟩
  | x :: r, i, b, m, hl => by
    have hx : d.Threads[i]? = some x := hl 0 x rfl
    have hr : ∀ j y, r[j]? = some y → d.Threads[i + 1 + j]? = some y := fun j y hy => by
      rw [show i + 1 + j = i + (j + 1) by omega]; exact hl (j + 1) y (by simpa using hy)
    unfold firstL
    by_cases hok : ok x = true
    · rw [if_pos hok]
      by_cases hc : prio d x > m ∨ (prio d x = m ∧ x.Line < lineAt d b)
      · rw [if_pos hc]
        rcases firstL_max ok r (i + 1) (i : Int) (prio d x) hr with ⟨h1, h2⟩ | ⟨j, z, h1, h2, h3, h4⟩
        · refine .inr ⟨i, x, h1, hx, by omega, fun y hy hyo => ?_⟩
          rcases List.mem_cons.1 hy with rfl | hy
          · exact Int.le_refl _
          · exact h2 y hy hyo
        · refine .inr ⟨j, z, h1, h2, by omega, fun y hy hyo => ?_⟩
          rcases List.mem_cons.1 hy with rfl | hy
          · exact h3
          · exact h4 y hy hyo
      · rw [if_neg hc]
        rcases firstL_max ok r (i + 1) b m hr with ⟨h1, h2⟩ | ⟨j, z, h1, h2, h3, h4⟩
        · refine .inl ⟨h1, fun y hy hyo => ?_⟩
          rcases List.mem_cons.1 hy with rfl | hy
          · omega
          · exact h2 y hy hyo
        · refine .inr ⟨j, z, h1, h2, h3, fun y hy hyo => ?_⟩
          rcases List.mem_cons.1 hy with rfl | hy
          · omega
          · exact h4 y hy hyo
    · rw [if_neg hok]
      rcases firstL_max ok r (i + 1) b m hr with ⟨h1, h2⟩ | ⟨j, z, h1, h2, h3, h4⟩
      · refine .inl ⟨h1, fun y hy hyo => ?_⟩
        rcases List.mem_cons.1 hy with rfl | hy
        · exact absurd hyo hok
        · exact h2 y hy hyo
      · refine .inr ⟨j, z, h1, h2, h3, fun y hy hyo => ?_⟩
        rcases List.mem_cons.1 hy with rfl | hy
        · exact absurd hyo hok
        · exact h4 y hy hyo
/-- Where one is Ready, the one that is picked has the greatest priority of those. -/
theorem pick_max {d : DSched} (hm : Mid d) {y : DThread} (hy : y ∈ d.Threads) (hr : y.State = 1) : ∃ x, x ∈ d.Threads ∧ pickS d = x.Id ∧ prio d y ≤ prio d x := by
  have hyr : isReady y = true := by unfold isReady; simpa using hr
  have hp := prio_ge (hm.num y hy)
  rcases firstL_max (d := d) isReady d.Threads 0 (-1) (-1) (fun j x hx => by rw [Nat.zero_add]; exact hx) with ⟨_, h2⟩ | ⟨j, z, h1, h2, _, h4⟩
  · have := h2 y hy hyr; omega
  · rcases pickS_best hm with ⟨g1, _⟩ | ⟨j', x, g1, g2, g3⟩
    · have : bestF d isReady = (j : Int) := h1
      omega
    · have hb : bestF d isReady = (j : Int) := h1
      have hjj : j = j' := by omega
      subst hjj
      rw [h2] at g1; cases g1
      exact ⟨z, List.mem_of_getElem? h2, g3, h4 y hy hyr⟩
theorem tick_is (d : DSched) : (stepF d 3 0 0).2.1 = 0 ∧ (stepF d 3 0 0).1.Now = d.Now + 1 := by
  have hs : stepF d 3 0 0 = (laterF (tickM (wakeF d 0 d.Threads.length)).1, 0, (tickM (wakeF d 0 d.Threads.length)).2) := by
    unfold stepF
    rw [if_neg (by decide), if_pos rfl, tickF_M]
  rw [hs]
  refine ⟨rfl, ?_⟩
  have hw := (wakeF_now d.Threads.length 0 d).1
  show (tickM _).1.Now + 1 = _
  generalize wakeF d 0 d.Threads.length = e at *
  have : (tickM e).1.Now = e.Now := by
    unfold tickM
    split
    · rfl
    · split
      · rfl
      · dsimp only
        split
        · exact (standF_now _ _ _).1
        · rfl
  omega
theorem c36 {t l : Sl} {d : DSched} {x : DThread} {w : World} (hs : SAt w t l d) (hok : SOk d) (hx : x ∈ d.Threads) : CallW Try.prog 36 #[sAgg d.Now d.Seq t l, .int .i64 x.Id] w (fun v w' => v = .int .i64 (prio d x) ∧ Ext w w') := by
  obtain ⟨hi, hn, hq⟩ := sok_iff.1 hok
  have hm := hi.mid hn
  refine go36 ?_
  unfold W36
  have h := SH.start w
  refine h.alloc (fun w1 h e1 n1 => ?_)
  have h : SH w w1 [BSt w.heap.size d t l] := h
  refine ⟨_, h.cell 0 rfl rfl, _, h.cell 0 rfl rfl, t, h.cell 0 rfl rfl, l, h.cell 0 rfl rfl, (c34 (hs.ext h.ext)).mono ?_⟩
  rintro _ w7 ⟨b, rfl, hb, e7⟩
  have h := h.to e7
  have hbt : b = true := hb.2 hok
  have hs7 := hs.ext h.ext
  refine ⟨_, rfl, BIf.f (by rw [hbt]; rfl) ((c84 (patOf h 0 rfl) hs7).mono ?_)⟩
  rintro _ w10 ⟨rfl, rfl⟩
  obtain ⟨i, hi2⟩ := List.getElem?_of_mem hx
  have hidx : idT d x.Id = (i : Int) := hi.ts.idx hi2
  obtain ⟨p, hp, _⟩ := hs7.thr hi2
  rw [hidx, ptr_some hp]
  refine ⟨_, rfl, BIf.f rfl ((c88 hm _ i x p _ rfl hi2 hp (patOf h 0 rfl) hs7).mono ?_)⟩
  rintro _ w13 ⟨rfl, e13⟩
  exact ⟨_, rfl, rfl, Only.trans h.ext e13⟩
theorem goc6 {a0 : Sl} {w : World} {K : Value → World → Prop} (h : W6 a0 w K) : Calls Try.prog 6 #[.slice a0.a a0.len a0.cap] w (fun e w' => ∃ v, e = .returned v ∧ K v w') :=
  denFn_sound tt_ok mix Try.func6 (by kernel_rfl) (eq6 a0 w K ▸ h)
/-- A state on the way from a drawn one. -/
structure Far (k : Nat) (e : DSched) : Prop where
  inv : Inv0 e
  now : e.Now ≤ 549755813888 + k
  seq : e.Seq ≤ 549755813888 + 33 * k
theorem Far.step {k : Nat} {e : DSched} (h : Far k e) (hk : k ≤ 1000000) (a b c : Int) : Far (k + 1) (stepF e a b c).1 := by
  have h1 := h.now
  have h2 := h.seq
  obtain ⟨g1, g2, g3⟩ := h.inv.step (by omega) a b c
  exact ⟨g1, by omega, by omega⟩
theorem Far.ok {k : Nat} {e : DSched} (h : Far k e) (hk : k ≤ 1000000) : SOk e := by
  have := h.now
  have := h.seq
  exact sok_iff.2 ⟨h.inv, by omega, by omega⟩
set_option maxHeartbeats 1000000 in
theorem walk6 {w : World} {bs : List Int} {p0 : Sl} (h0 : IsD w (.sl 1 (bs.map (Dat.int .u8))) [.slice p0.a p0.len p0.cap]) : Calls Try.prog 6 #[.slice p0.a p0.len p0.cap] w (fun e w' => ∃ v, e = .returned v ∧ (v = .bool true ∧ Ext w w')) := by
  refine goc6 ?_
  unfold W6
  refine c29.mono ?_
  rintro _ w2 ⟨rfl, rfl⟩
  refine ⟨_, rfl, BIf.dec (fun _ => ⟨rfl, Only.refl _ _⟩) (fun hbig => ?_)⟩
  have hb := curb_of h0 (by omega)
  have hz : SOk zeroS := sok_iff.2 ⟨zero_inv, by decide, by decide⟩
  have hn := SH.nil (SH.nil (SH.start w2) none 2) none 8
  refine (c34 (d := zeroS) (t := ⟨none, 0, 0⟩) (l := ⟨none, 0, 0⟩) (satOf2 (d := zeroS) hn 0 1 rfl rfl zero_inv)).mono ?_
  rintro _ w5 ⟨b6, rfl, hb6, e5⟩
  have h := (SH.start w2).to e5
  have hb6t : b6 = true := hb6.2 hz
  refine ⟨_, rfl, BIf.f (by rw [hb6t]; rfl) ((s35 h hb).mono ?_)⟩
  rintro _ w8 ⟨d, t, l, x, y, z, rfl, f1, f2, h⟩
  refine ⟨_, _, t, l, x, y, z, rfl, ?_⟩
  refine h.alloc (fun w16 h e16 n16 => ?_)
  refine h.alloc (fun w17 h e17 n17 => ?_)
  refine h.put 1 rfl rfl rfl (fun w18 h n18 => ?_)
  refine h.put 0 rfl rfl rfl (fun w19 h n19 => ?_)
  have h : SH w2 w19 [RT t d.Threads, RL l d.Locks, BSt w8.heap.size d t l, aB w16.heap.size ([Value.int .i64 x, .int .i64 y, .int .i64 z].map Ce.v)] := ((h.front (n := 1) rfl).front (n := 3) rfl).front (n := 3) rfl
  refine ⟨_, h.cell 2 rfl rfl, _, h.cell 2 rfl rfl, t, h.cell 2 rfl rfl, l, h.cell 2 rfl rfl, (c31 (satOf h 0 1 rfl rfl ⟨by omega, by omega⟩)).mono ?_⟩
  rintro _ w25 ⟨b26, rfl, hb26, e25⟩
  have h := h.to e25
  refine ⟨_, rfl, ?_⟩
  refine join_or_ex _ (h.cell 2 rfl rfl) ?_
  refine join_or_ex _ (h.cell 2 rfl rfl) ?_
  refine BIf.of (fun _ => ⟨rfl, h.ext⟩) (fun hc => ?_)
  simp only [Bool.or_eq_false_iff, Bool.not_eq_false', decide_eq_false_iff_not] at hc
  obtain ⟨hi, hnow, hseq⟩ := sok_iff.1 (hb26.1 hc.1.1)
  have hfar0 : Far 0 d := ⟨hi, by omega, by omega⟩
  have hfar1 := hfar0.step (by omega) x y z
  refine ⟨_, h.cell 2 rfl rfl, _, h.cell 2 rfl rfl, t, h.cell 2 rfl rfl, l, h.cell 2 rfl rfl, _, h.cell 3 rfl rfl, _, h.cell 3 rfl rfl, _, h.cell 3 rfl rfl, (s24 (satOf2 h 0 1 rfl rfl hi)).mono ?_⟩
  rintro _ w41 ⟨t1, l1, rfl, g⟩
  rw [stepR_inv hi hnow hseq] at g ⊢
  have h := h.seq g
  refine ⟨_, _, t1, l1, _, _, rfl, ?_⟩
  generalize (stepF d x y z) = r at *
  refine h.alloc (fun w48 h e48 n48 => ?_)
  refine h.alloc (fun w49 h e49 n49 => ?_)
  refine h.put 1 rfl rfl rfl (fun w50 h n50 => ?_)
  refine h.put 0 rfl rfl rfl (fun w51 h n51 => ?_)
  refine ⟨_, h.cell 1 rfl rfl, _, h.cell 1 rfl rfl, t1, h.cell 1 rfl rfl, l1, h.cell 1 rfl rfl, ?_⟩
  refine h.put 6 rfl rfl rfl (fun w56 h n56 => ?_)
  have h : SH w2 w56 [RT t1 r.1.Threads, RL l1 r.1.Locks, BSt w8.heap.size r.1 t1 l1] := (((((h.dropAt 7).dropAt 5).dropAt 4).dropAt 1).dropAt 0)
  refine LoopW.m1 (fun (i : Int) w' => ∃ (k : Nat) (e : DSched) (t l : Sl), i = k ∧ k ≤ 40 ∧ Far (k + 1) e ∧ SH w2 w' [RT t e.Threads, RL l e.Locks, BSt w8.heap.size e t l]) (fun (i : Int) _ => (40 - i).toNat) ⟨0, r.1, t1, l1, rfl, by omega, hfar1, h⟩ ?_
  clear h hb26
  rintro (i : Int) w59 ⟨k, e, t, l, rfl, hk, hfar, h⟩ J hJ
  have hok := hfar.ok (by omega)
  have hm := hfar.inv.mid (by have := hfar.now; omega)
  have hfew := hfar.inv.few
  refine BIf.dec (fun hlt => ?_) (fun _ => ⟨rfl, h.ext⟩)
  refine LoopW.m1 (fun (i : Int) w' => ∃ m : Nat, i = m ∧ m ≤ e.Threads.length ∧ SH w2 w' [RT t e.Threads, RL l e.Locks, BSt w8.heap.size e t l]) (fun (i : Int) _ => (e.Threads.length - i).toNat) ⟨0, rfl, by omega, h⟩ ?_
  clear h
  rintro (i : Int) w62 ⟨m, rfl, hml, h⟩ J2 hJ2
  have htl := h.len 0 rfl
  rw [recs_len] at htl
  refine ⟨t, h.cell 2 rfl rfl, BIf.dec (fun hlt2 => ?_) (fun hge2 => ?_)⟩
  · have hgt : e.Threads[m]? = some e.Threads[m] := List.getElem?_eq_getElem (by omega)
    generalize e.Threads[m] = x at *
    obtain ⟨q2, hq2⟩ := h.rowQ 0 rfl hgt
    have hxm := List.mem_of_getElem? hgt
    simp only [Int.toNat_natCast]
    rw [w64 (n := (m : Int) + 1) (by omega) (by omega)]
    refine ⟨t, h.cell 2 rfl rfl, by omega, by omega, q2, hq2, _, h.rdR 0 rfl hq2 hgt rfl, _, h.cell 2 rfl rfl, _, h.cell 2 rfl rfl, t, h.cell 2 rfl rfl, l, h.cell 2 rfl rfl, ?_⟩
    refine (c32 (satOf2 h 0 1 rfl rfl hfar.inv) hfar.inv hxm).mono ?_
    rintro _ w72 ⟨⟨y, hy, rfl, hyw, hys, hR⟩, e72⟩
    have h := (h.to e72).drew
    have hyid := (hfar.inv.tok y hy).id
    have hxy : prio e x ≤ prio e y := hR (fun z => prio e x ≤ prio e z) (Int.le_refl _) (fun a b q ha hb' hq hst hqw hqo hle => by
      have hn : nxt e a.Id = b.Id := by rw [hfar.inv.nxt ha hst hq hqw]; exact hqo
      exact Int.le_trans hle (prio_next (hfar.inv.tok b hb').id.1 ha hn))
    refine ⟨_, rfl, JoinW.cut1 (fun (c : Bool) w' => c = false ∧ SH w2 w' [RT t e.Threads, RL l e.Locks, BSt w8.heap.size e t l]) ?_ ?_⟩
    · refine BIf.f (decide_eq_false (by omega)) ⟨_, h.cell 2 rfl rfl, _, h.cell 2 rfl rfl, t, h.cell 2 rfl rfl, l, h.cell 2 rfl rfl, _, h.cell 2 rfl rfl, _, h.cell 2 rfl rfl, t, h.cell 2 rfl rfl, l, h.cell 2 rfl rfl, (c36 (satOf2 h 0 1 rfl rfl hfar.inv) hok hy).mono ?_⟩
      rintro _ w121 ⟨rfl, e121⟩
      have h := h.to e121
      refine ⟨_, rfl, ⟨_, h.cell 2 rfl rfl, _, h.cell 2 rfl rfl, t, h.cell 2 rfl rfl, l, h.cell 2 rfl rfl, rfl⟩, (c36 (satOf2 h 0 1 rfl rfl hfar.inv) hok hxm).mono ?_⟩
      rintro _ w128 ⟨rfl, e128⟩
      exact ⟨_, rfl, decide_eq_false (by omega), h.to e128⟩
    clear h
    rintro (c : Bool) w76 ⟨rfl, h⟩
    refine BIf.f rfl ⟨_, h.cell 2 rfl rfl, _, h.cell 2 rfl rfl, t, h.cell 2 rfl rfl, l, h.cell 2 rfl rfl, (c33 (satOf2 h 0 1 rfl rfl hfar.inv) hfar.inv hy).mono ?_⟩
    rintro _ w82 ⟨rfl, e82⟩
    have h := h.to e82
    refine ⟨_, rfl, BIf.eq (fun hr1 => ?_) (fun _ => hJ2 _ _ ⟨m + 1, by omega, by omega, h⟩ (by omega))⟩
    obtain ⟨p, hp, hpk, hpy⟩ := pick_max hm hy hr1
    have hpid := (hfar.inv.tok p hp).id
    refine ⟨_, h.cell 2 rfl rfl, _, h.cell 2 rfl rfl, t, h.cell 2 rfl rfl, l, h.cell 2 rfl rfl, (c37 (satOf2 h 0 1 rfl rfl hfar.inv)).mono ?_⟩
    rintro _ w89 ⟨n, rfl, hn1, _, e89⟩
    have h := (h.to e89).drew
    have hnp : n = p.Id := by rw [hn1 hok, hpk]
    subst hnp
    refine ⟨_, rfl, JoinW.cut1 (fun (c : Bool) w' => c = false ∧ SH w2 w' [RT t e.Threads, RL l e.Locks, BSt w8.heap.size e t l]) ?_ ?_⟩
    · refine BIf.f (decide_eq_false (by omega)) ⟨_, h.cell 2 rfl rfl, _, h.cell 2 rfl rfl, t, h.cell 2 rfl rfl, l, h.cell 2 rfl rfl, _, h.cell 2 rfl rfl, _, h.cell 2 rfl rfl, t, h.cell 2 rfl rfl, l, h.cell 2 rfl rfl, (c36 (satOf2 h 0 1 rfl rfl hfar.inv) hok hp).mono ?_⟩
      rintro _ w103 ⟨rfl, e103⟩
      have h := h.to e103
      refine ⟨_, rfl, ⟨_, h.cell 2 rfl rfl, _, h.cell 2 rfl rfl, t, h.cell 2 rfl rfl, l, h.cell 2 rfl rfl, rfl⟩, (c36 (satOf2 h 0 1 rfl rfl hfar.inv) hok hxm).mono ?_⟩
      rintro _ w110 ⟨rfl, e110⟩
      exact ⟨_, rfl, decide_eq_false (by omega), h.to e110⟩
    clear h
    rintro (c : Bool) w93 ⟨rfl, h⟩
    exact BIf.f rfl (hJ2 _ _ ⟨m + 1, by omega, by omega, h⟩ (by omega))
  · clear hJ2 J2
    have hfar2 := hfar.step (by omega) 3 0 0
    obtain ⟨tk1, tk2⟩ := tick_is e
    have hen := hfar.now
    have he0 := hfar.inv.now
    refine ⟨_, h.cell 2 rfl rfl, _, h.cell 2 rfl rfl, t, h.cell 2 rfl rfl, l, h.cell 2 rfl rfl, (s24 (satOf2 h 0 1 rfl rfl hfar.inv)).mono ?_⟩
    rintro _ w135 ⟨t3, l3, rfl, g⟩
    rw [stepR_inv hfar.inv (by omega) (by have := hfar.seq; omega)] at g ⊢
    have h := h.seq g
    refine ⟨_, _, t3, l3, _, _, rfl, ?_⟩
    generalize stepF e 3 0 0 = r3 at *
    refine h.alloc (fun w142 h e142 n142 => ?_)
    refine h.alloc (fun w143 h e143 n143 => ?_)
    refine h.put 1 rfl rfl rfl (fun w144 h n144 => ?_)
    refine h.put 0 rfl rfl rfl (fun w145 h n145 => ?_)
    refine ⟨_, h.cell 0 rfl rfl, JoinW.cut1 (fun (c : Bool) w' => c = false ∧ w' = w145) ?_ ?_⟩
    · refine BIf.ne (fun hne => absurd tk1 hne) (fun _ => ⟨_, h.cell 1 rfl rfl, _, h.cell 6 rfl rfl, ?_, rfl⟩)
      rw [bne_eq_false_iff_eq, w64 (by omega) (by omega)]; exact tk2
    rintro (c : Bool) w149 ⟨rfl, rfl⟩
    refine JoinW.cut1 (fun (c : Bool) w' => c = false ∧ Ext w149 w') ?_ ?_
    · refine BIf.f rfl ⟨_, h.cell 1 rfl rfl, _, h.cell 1 rfl rfl, t3, h.cell 1 rfl rfl, l3, h.cell 1 rfl rfl, (c31 (satOf2 h 2 3 rfl rfl hfar2.inv)).mono ?_⟩
      rintro _ w163 ⟨b, rfl, hb1, e163⟩
      have hbt : b = true := hb1.2 (hfar2.ok (by omega))
      exact ⟨_, rfl, by rw [hbt]; rfl, e163⟩
    rintro (c : Bool) w152 ⟨rfl, e152⟩
    have h := h.to e152
    refine BIf.f rfl ⟨_, h.cell 1 rfl rfl, _, h.cell 1 rfl rfl, t3, h.cell 1 rfl rfl, l3, h.cell 1 rfl rfl, ?_⟩
    refine h.put 6 rfl rfl rfl (fun w157 h n157 => ?_)
    rw [w64 (n := (k : Int) + 1) (by omega) (by omega)]
    exact hJ _ _ ⟨k + 1, r3.1, t3, l3, by omega, by omega, hfar2, ((((h.dropAt 5).dropAt 4).dropAt 1).dropAt 0)⟩ (by omega)
open Go.RowKit in
theorem law_calls6 {w : World} {a0 : Option Addr} {len0 cap0 : Nat} {bs : List Int} (h0 : (cSlice (cInt .u8)).is w [.slice a0 len0 cap0] bs) : Calls Try.prog 6 #[.slice a0 len0 cap0] w (fun e w' => e = .returned (.bool true) ∧ Below w.heap.size w w') :=
  (walk6 (p0 := ⟨a0, len0, cap0⟩) (isD_mkSl (f := Dat.int .u8) h0 (fun es x hx => isD_mkInt hx))).mono (by rintro e w' ⟨v, rfl, rfl, he⟩; exact ⟨rfl, he.below⟩)
end Go.Proofs.Yteigefjiifihpaa

/- The row of the law FnSchedHeeds: what its walk shows is what the statement says. Conditions: none. -/
namespace Go.Proofs.Yteigefjiifihpaa.fnSchedHeeds
open Go.ChangeShapes Go.WideShapes Go.ChangeAt Go.RowKit
open Go.ChangeMaps (open_string shut_string)
set_option linter.unusedVariables false
theorem own : ownKnob Try.prog.godebug = none := by kernel_rfl
theorem laidOut : laidOutB Try.prog = true := by kernel_rfl
set_option maxRecDepth 100000 in
theorem lifted (os : Os) (started : os.Started) (H : Type) (enc : TypeId × Value → H) :
    ReturnsInHanded {} Try.checked os 6 .any (Rows.fnSchedHeedsSpec.pre6 enc Try.prog Try.f6 Rows.fnSchedHeedsRow.domain false) (Rows.fnSchedHeedsSpec.post enc Try.prog Try.f6 false true false false) := by
  refine returnsInHanded_of_change_sized (C := Try.checked) own started (by kernel_rfl) Try.func6
    (ChangeSpec.witness6 (enc := enc) (C := Try.checked) false ⟨#[], #[.slice none 0 0], []⟩ 8 (by kernel_rfl) (by kernel_rfl) (by kernel_rfl) (by kernel_rfl)) ?_
  intro W base args ds gs before hval0 hW hcnd hsz0 _
  have hsz : (DataW.weightsEach Try.prog (Try.f6.params.toList ++ Rows.fnSchedHeedsSpec.plain.varTypes Try.prog) (ds ++ gs)).all (· ≤ reachBytes) = true := hsz0
  have hval : ∀ (j : Nat) t v, Try.f6.params[j]? = some t → args[j]? = some v → Value.okWide Try.prog W .any base t v := hval0
  have hW' := hW
  obtain ⟨p, q, hA0, hV, rfl, hfz, hnd⟩ := hW
  have hA : DataW.TrodAll enc Try.prog W 0 (fun _ => true) true Try.f6.params.toList args.toList ds p := hA0
  rw [Try.params6] at hA hval hsz
  obtain ⟨v0, vs0, d0, ds0, p0, q0, hargs, rfl, rfl, h0, r0⟩ := trodAll_cons hA
  obtain ⟨rfl, rfl, rfl⟩ := trodAll_nil r0
  obtain rfl : args = #[v0] := by cases args; simp_all
  obtain ⟨rfl, rfl⟩ := trodVars_none hV
  have k0 := h0
  have lt0 : ∀ x ∈ p0, x.block < W.heap.size := by obtain ⟨m, hm⟩ := k0; exact DataW.trod_lt m _ _ _ hm
  obtain ⟨a0, len0, cap0, rfl⟩ := okWide_slice Try.underlying55 (hval 0 55 v0 rfl rfl)
  obtain ⟨x0, w0⟩ : ∃ x, (Go.Den.cSlice (Go.Den.cInt .u8)).is W [.slice a0 len0 cap0] x := by obtain ⟨fuel, hf⟩ := h0; exact ((o55).at_ enc W fuel _ _ hf).2
  clear hA0 hval0 hsz0 hsz
  refine (law_calls6 w0).mono fun e W' ⟨he, bel⟩ => ?_
  subst he
  exact ⟨_, rfl, _, _, _, [], _, [], hW', trodAll_mk1 (shut_bool Try.underlying4 _), (trodAll_cons_mk (Below.trod laidOut (by kernel_rfl) (of_decide_eq_true (by kernel_rfl)) k0 bel lt0) trodAll_mk0), rfl, bel.frame _, fun h => by cases h⟩
theorem over : Rows.fnSchedHeedsRow.holds Try.pinned (OpenSpec.ofChange Rows.fnSchedHeedsSpec) :=
  OpenClaim.holds_of_wide 6 Try.f6 rfl rfl rfl rfl rfl rfl rfl ⟨rfl, rfl, rfl, rfl, rfl⟩ rfl rfl rfl rfl rfl (by kernel_rfl) Try.func6 (by kernel_rfl)
    (of_decide_eq_true (by kernel_rfl)) (by unfold Func.isWrapper; first | (rw [if_pos (by decide +kernel)]; kernel_rfl) | (rw [if_neg (by decide +kernel)]; exact ⟨rfl, rfl⟩))
    (fun os started H enc _ => lifted os started H enc)
theorem proved : Rows.FnSchedHeedsSaid := over
#print axioms proved
end Go.Proofs.Yteigefjiifihpaa.fnSchedHeeds
namespace Go.Proofs.Yteigefjiifihpaa
/-- The row, under a short name, for the claim. -/
theorem fnSchedHeeds_holds : Rows.FnSchedHeedsSaid := fnSchedHeeds.proved
end Go.Proofs.Yteigefjiifihpaa
