/- Part 5 of 6: plain readings of code, rules for them, and a proof over them, joined by a program. Conditions: none. -/
import Derived.Test.YteigefjiifihpaaShee4
/- The scheduler, plain law: a state stays one that can be, through every operation. Conditions: none. -/
set_option linter.unusedVariables false
set_option linter.unusedSimpArgs false
namespace Go.Proofs.Yteigefjiifihpaa
open Go Go.Den
theorem standF_now (d : DSched) (i : Nat) (since : Int) : (standF d i since).Now = d.Now ∧ (standF d i since).Seq ≤ d.Seq + 1 ∧ d.Seq ≤ (standF d i since).Seq ∧ (standF d i since).Locks = d.Locks ∧ (standF d i since).Threads.length = d.Threads.length := by
  unfold standF
  split
  · exact ⟨rfl, Int.le_refl _, by show d.Seq ≤ d.Seq + 1; omega, rfl, by simp⟩
  · exact ⟨rfl, by omega, Int.le_refl _, rfl, rfl⟩
theorem handF_now (d : DSched) (id : Int) : (handF d id).Now = d.Now ∧ (handF d id).Seq ≤ d.Seq + 1 ∧ d.Seq ≤ (handF d id).Seq := by
  unfold handF
  split
  · exact ⟨rfl, by show d.Seq ≤ _; omega, Int.le_refl _⟩
  · split
    · have := standF_now ⟨d.Now, d.Seq, d.Threads, d.Locks.set (idL d id).toNat ⟨id, (by assumption : DThread).Id⟩⟩ (bestF d (waitsFor id)).toNat d.Now
      rename_i w _
      have := standF_now ⟨d.Now, d.Seq, d.Threads, d.Locks.set (idL d id).toNat ⟨id, w.Id⟩⟩ (bestF d (waitsFor id)).toNat d.Now
      exact ⟨this.1, this.2.1, this.2.2.1⟩
    · exact ⟨rfl, by omega, Int.le_refl _⟩
/-- The locks behind a hand-on: but the one that was handed on, all are as they were. -/
theorem hand_locks {g : Int → Prop} {d : DSched} (h : Inv g d) (hn : d.Now ≤ 1099511627776) {k : DLock} (hk : k ∈ d.Locks) : (∀ x, x ∈ (handF d k.Id).Locks → (x ∈ d.Locks ∧ x.Id ≠ k.Id) ∨ (x.Id = k.Id ∧ ∃ t, t ∈ d.Threads ∧ t.Id = x.Owner)) ∧ (∀ x, x ∈ d.Locks → x.Id ≠ k.Id → x ∈ (handF d k.Id).Locks) ∧ ∀ a, (∃ t, t ∈ (handF d k.Id).Threads ∧ t.Id = a) ↔ ∃ t, t ∈ d.Threads ∧ t.Id = a := by
  unfold handF
  rcases bestF_cases (h.mid hn) (waitsFor k.Id) with ⟨h1, h2⟩ | ⟨j, w, h1, h2, h3⟩
  · rw [h1, if_pos (by omega)]
    refine ⟨fun x hx => ?_, fun x hx hne => List.mem_filter.2 ⟨hx, by simpa using hne⟩, fun a => Iff.rfl⟩
    obtain ⟨h3, h4⟩ := List.mem_filter.1 hx
    exact .inl ⟨h3, by simpa using h4⟩
  · rw [h3, if_neg (by omega), Int.toNat_natCast]
    simp only [h1]
    obtain ⟨i, hi⟩ := List.getElem?_of_mem hk
    have hidx : idL d k.Id = (i : Int) := h.ls.idx hi
    rw [hidx, Int.toNat_natCast]
    have hwm := List.mem_of_getElem? h1
    have hlm := fun z => Srt.mem_set h.ls (y := (⟨k.Id, w.Id⟩ : DLock)) hi z
    unfold standF
    simp only [h1]
    refine ⟨fun x hx => ?_, fun x hx hne => (hlm x).2 (.inr ⟨hx, hne⟩), fun a => ?_⟩
    · rcases (hlm x).1 hx with rfl | ⟨hx, hne⟩
      · exact .inr ⟨rfl, w, hwm, rfl⟩
      · exact .inl ⟨hx, hne⟩
    · have hm := fun z => Srt.mem_set h.ts (y := standT ⟨d.Now, d.Seq, d.Threads, d.Locks.set i ⟨k.Id, w.Id⟩⟩ d.Now w) h1 z
      constructor
      · rintro ⟨t, ht, he⟩
        rcases (hm t).1 ht with rfl | ⟨ht, _⟩
        · exact ⟨w, hwm, he⟩
        · exact ⟨t, ht, he⟩
      · rintro ⟨t, ht, he⟩
        by_cases htw : t.Id = w.Id
        · exact ⟨_, (hm _).2 (.inl rfl), by rw [← he]; exact htw.symm⟩
        · exact ⟨t, (hm t).2 (.inr ⟨ht, htw⟩), he⟩
/-- A thread that has gone: its locks are handed on, one behind the other. -/
theorem Inv.exitL {id : Int} : ∀ (l : List DLock) {d : DSched}, Inv (fun o => o = id) d → d.Now ≤ 1099511627776 → (∀ t, t ∈ d.Threads → t.Id ≠ id) → Srt DLock.Id l → (∀ k, k ∈ l → k ∈ d.Locks) → (∀ k, k ∈ d.Locks → k.Owner = id → k ∈ l) → Inv0 (exitL id l d)
  | [], d, h, hn, hg, hs, hl, ho => by
    unfold Proofs.Yteigefjiifihpaa.exitL
    refine ⟨h.now, h.ts, h.ls, h.tok, h.lok, fun k hk => ?_, h.own0, h.lines, h.rank⟩
    rcases h.own k hk with h1 | h1
    · cases ho k hk h1
    · exact .inr h1
  | k :: r, d, h, hn, hg, hs, hl, ho => by
    unfold Proofs.Yteigefjiifihpaa.exitL
    obtain ⟨hs1, hs2⟩ := List.pairwise_cons.1 hs
    have hk := hl k (by simp)
    by_cases hko : k.Owner = id
    · rw [if_pos hko]
      obtain ⟨l1, l2, l3⟩ := hand_locks h hn hk
      refine Inv.exitL r (h.hand hn hk) (by rw [(handF_now d k.Id).1]; exact hn) (fun t ht he => ?_) hs2 (fun x hx => l2 x (hl x (by simp [hx])) (by have := hs1 x hx; omega)) (fun x hx hxo => ?_)
      · obtain ⟨u, hu, hue⟩ := (l3 t.Id).1 ⟨t, ht, rfl⟩
        exact hg u hu (by omega)
      · rcases l1 x hx with ⟨h1, h2⟩ | ⟨h1, t, ht, hte⟩
        · rcases List.mem_cons.1 (ho x h1 hxo) with rfl | h3
          · exact absurd rfl h2
          · exact h3
        · exact absurd (hte.trans hxo) (hg t ht)
    · rw [if_neg hko]
      refine Inv.exitL r h hn hg hs2 (fun x hx => hl x (by simp [hx])) (fun x hx hxo => ?_)
      rcases List.mem_cons.1 (ho x hx hxo) with rfl | h3
      · exact absurd hxo hko
      · exact h3
theorem Inv.gone {d : DSched} (h : Inv0 d) (id : Int) : Inv (fun o => o = id) ⟨d.Now, d.Seq, d.Threads.filter (fun t => t.Id != id), d.Locks⟩ := by
  refine ⟨h.now, h.ts.filter _, h.ls, fun t ht => ?_, h.lok, fun k hk => ?_, h.own0, h.lines.filter _, ?_⟩
  · have := h.tok t (List.mem_filter.1 ht).1
    exact ⟨this.id, this.base, this.line, this.left, this.since, this.st⟩
  · rcases h.own k hk with h1 | ⟨t, ht, he⟩
    · exact h1.elim
    · by_cases hki : k.Owner = id
      · exact .inl hki
      · exact .inr ⟨t, List.mem_filter.2 ⟨ht, by simp; omega⟩, he⟩
  · obtain ⟨r, hr⟩ := h.rank
    exact ⟨r, fun t ht => hr t (List.mem_filter.1 ht).1⟩
theorem Inv.exit {d : DSched} (h : Inv0 d) (hn : d.Now ≤ 1099511627776) (id : Int) : Inv0 (exitF d id) :=
  Inv.exitL d.Locks (h.gone id) hn (fun t ht he => by have := (List.mem_filter.1 ht).2; simp [he] at this) h.ls (fun k hk => hk) (fun k hk _ => hk)
theorem Inv.exitM {id : Int} : ∀ (l : List DLock) {d : DSched}, Inv (fun o => o = id) d → d.Now ≤ 1099511627776 → (∀ t, t ∈ d.Threads → t.Id ≠ id) → Srt DLock.Id l → (∀ k, k ∈ l → k ∈ d.Locks) → (∀ k, k ∈ d.Locks → k.Owner = id → k ∈ l) → (Proofs.Yteigefjiifihpaa.exitL id l d).Now = d.Now ∧ (Proofs.Yteigefjiifihpaa.exitL id l d).Seq ≤ d.Seq + l.length
  | [], d, h, hn, hg, hs, hl, ho => by unfold Proofs.Yteigefjiifihpaa.exitL; exact ⟨rfl, by simp⟩
  | k :: r, d, h, hn, hg, hs, hl, ho => by
    unfold Proofs.Yteigefjiifihpaa.exitL
    obtain ⟨hs1, hs2⟩ := List.pairwise_cons.1 hs
    have hk := hl k (by simp)
    have hlen : (k :: r).length = r.length + 1 := rfl
    by_cases hko : k.Owner = id
    · rw [if_pos hko]
      obtain ⟨l1, l2, l3⟩ := hand_locks h hn hk
      have hq := handF_now d k.Id
      have := Inv.exitM r (h.hand hn hk) (by rw [hq.1]; exact hn) (fun t ht he => by
        obtain ⟨u, hu, hue⟩ := (l3 t.Id).1 ⟨t, ht, rfl⟩
        exact hg u hu (by omega)) hs2 (fun x hx => l2 x (hl x (by simp [hx])) (by have := hs1 x hx; omega)) (fun x hx hxo => by
        rcases l1 x hx with ⟨h1, h2⟩ | ⟨h1, t, ht, hte⟩
        · rcases List.mem_cons.1 (ho x h1 hxo) with rfl | h3
          · exact absurd rfl h2
          · exact h3
        · exact absurd (hte.trans hxo) (hg t ht))
      omega
    · rw [if_neg hko]
      have := Inv.exitM r h hn hg hs2 (fun x hx => hl x (by simp [hx])) (fun x hx hxo => by
        rcases List.mem_cons.1 (ho x hx hxo) with rfl | h3
        · exact absurd hxo hko
        · exact h3)
      omega
theorem exitF_now {d : DSched} (h : Inv0 d) (hn : d.Now ≤ 1099511627776) (id : Int) : (exitF d id).Now = d.Now ∧ (exitF d id).Seq ≤ d.Seq + 16 := by
  have := Inv.exitM d.Locks (h.gone id) hn (fun t ht he => by have := (List.mem_filter.1 ht).2; simp [he] at this) h.ls (fun k hk => hk) (fun k hk _ => hk)
  have hf := h.few.2
  unfold exitF
  exact ⟨this.1, by have := this.2; dsimp only at this; omega⟩
theorem gapL_spec : ∀ (l : List DThread) (i : Nat), Srt DThread.Id l → (∀ x, x ∈ l → (i : Int) ≤ x.Id) → ∃ j, gapL l i = i + j ∧ j ≤ l.length ∧ (∀ m x, m < j → l[m]? = some x → x.Id = ((i + m : Nat) : Int)) ∧ ∀ x, l[j]? = some x → x.Id ≠ ((i + j : Nat) : Int)
  | [], i, _, _ => ⟨0, rfl, Nat.le_refl _, (fun m x hm _ => absurd hm (Nat.not_lt_zero _)), (fun x hx => by simp at hx)⟩
  | y :: r, i, hs, hi => by
    obtain ⟨hs1, hs2⟩ := List.pairwise_cons.1 hs
    unfold gapL
    by_cases hy : y.Id = (i : Int)
    · rw [if_pos hy]
      obtain ⟨j, h1, h2, h3, h4⟩ := gapL_spec r (i + 1) hs2 (fun x hx => by have := hs1 x hx; omega)
      refine ⟨j + 1, by omega, by simp; omega, fun m x hm hx => ?_, fun x hx => ?_⟩
      · cases m with
        | zero => simp at hx; subst hx; simpa using hy
        | succ m => rw [h3 m x (by omega) (by simpa using hx)]; congr 1; omega
      · have := h4 x (by simpa using hx)
        rw [show i + (j + 1) = i + 1 + j by omega]; exact this
    · rw [if_neg hy]
      exact ⟨0, rfl, Nat.zero_le _, (fun m x hm _ => absurd hm (Nat.not_lt_zero _)), (fun x hx => by simp at hx; subst hx; simpa using hy)⟩
/-- The first number that is free. -/
theorem gap_spec {g : Int → Prop} {d : DSched} (h : Inv g d) : gapL d.Threads 0 ≤ d.Threads.length ∧ (∀ (m : Nat) x, m < gapL d.Threads 0 → d.Threads[m]? = some x → x.Id = (m : Int)) ∧ (∀ (m : Nat) x, gapL d.Threads 0 ≤ m → d.Threads[m]? = some x → ((gapL d.Threads 0 : Nat) : Int) < x.Id) := by
  obtain ⟨j, h1, h2, h3, h4⟩ := gapL_spec d.Threads 0 h.ts (fun x hx => (h.tok x hx).id.1)
  rw [Nat.zero_add] at h1
  rw [h1]
  refine ⟨h2, fun m x hm hx => by rw [h3 m x hm hx, Nat.zero_add], fun m x hm hx => ?_⟩
  have hml := (List.getElem?_eq_some_iff.1 hx).1
  have hg : d.Threads[j]? = some d.Threads[j] := List.getElem?_eq_getElem (by omega)
  have h5 := h4 _ hg
  rw [Nat.zero_add] at h5
  have h6 := h.ts.fill (fun x hx => (h.tok x hx).id.1) j _ hg
  by_cases hmj : m = j
  · subst hmj; rw [hg] at hx; cases hx; omega
  · have := h.ts.lt hg hx (by omega)
    omega
theorem Inv.spawn {d : DSched} (h : Inv0 d) {base : Int} (hb : 0 ≤ base ∧ base ≤ 7) (hl : d.Threads.length < 32) : Inv0 (spawnF d base) := by
  obtain ⟨g1, g2, g3⟩ := gap_spec h
  have hq := h.now
  unfold spawnF
  have hm := fun z => mem_ins (l := d.Threads) (i := gapL d.Threads 0) (x := (⟨(gapL d.Threads 0 : Nat), base, 1, d.Seq + 1, 4, d.Now, 0, -1⟩ : DThread)) (z := z)
  refine ⟨⟨hq.1, by show 0 ≤ d.Seq + 1; omega⟩, h.ts.ins (fun y hy => ?_) (fun y hy => ?_), h.ls, fun t ht => ?_, h.lok, fun k hk => ?_, h.own0, ?_, ?_⟩
  · obtain ⟨m, hm⟩ := List.getElem?_of_mem hy
    have hml := (List.getElem?_eq_some_iff.1 hm).1
    rw [List.length_take] at hml
    rw [List.getElem?_take_of_lt (by omega)] at hm
    have := g2 m y (by omega) hm
    show y.Id < ((gapL d.Threads 0 : Nat) : Int); omega
  · obtain ⟨m, hm⟩ := List.getElem?_of_mem hy
    rw [List.getElem?_drop] at hm
    exact g3 _ y (by omega) hm
  · rcases (hm t).1 ht with rfl | ht
    · exact ⟨⟨by show (0 : Int) ≤ ((gapL d.Threads 0 : Nat) : Int); omega, by show ((gapL d.Threads 0 : Nat) : Int) < 32; omega⟩, hb, ⟨by show 1 ≤ d.Seq + 1; omega, Int.le_refl _⟩, ⟨by show (1 : Int) ≤ 4; omega, by show (4 : Int) ≤ 4; omega⟩, ⟨hq.1, Int.le_refl _⟩, .inl ⟨rfl, rfl, rfl⟩⟩
    · have := h.tok t ht
      exact ⟨this.id, this.base, ⟨this.line.1, by have := this.line.2; show t.Line ≤ d.Seq + 1; omega⟩, this.left, this.since, this.st⟩
  · rcases h.own k hk with h1 | ⟨t, ht, he⟩
    · exact h1.elim
    · exact .inr ⟨t, (hm t).2 (.inr ht), he⟩
  · have hl := h.lines
    rw [List.pairwise_append]
    refine ⟨List.Pairwise.sublist (List.take_sublist _ _) hl, List.pairwise_cons.2 ⟨fun x hx he => h.fresh (List.mem_of_mem_drop hx) he.symm, List.Pairwise.sublist (List.drop_sublist _ _) hl⟩, fun a ha b hb => ?_⟩
    rcases List.mem_cons.1 hb with rfl | hb
    · exact h.fresh (List.mem_of_mem_take ha)
    · have := hl
      rw [← List.take_append_drop (gapL d.Threads 0) d.Threads, List.pairwise_append] at this
      exact this.2.2 a ha b hb
  · obtain ⟨r, hr⟩ := h.rank
    refine ⟨r, fun t ht hs k hk hw => ?_⟩
    rcases (hm t).1 ht with rfl | ht
    · exact absurd hs (by show ¬ (1 : Int) = 2; omega)
    · exact hr t ht hs k hk hw
theorem Inv.wake {g : Int → Prop} : ∀ (n i : Nat) {d : DSched}, Inv g d → Inv g (wakeF d i n)
  | 0, i, d, h => h
  | n + 1, i, d, h => by
    unfold wakeF
    refine Inv.wake n (i + 1) ?_
    split
    · rename_i t ht
      split
      · exact h.stand ht
      · exact h
    · exact h
theorem wakeF_now : ∀ (n i : Nat) (d : DSched), (wakeF d i n).Now = d.Now ∧ d.Seq ≤ (wakeF d i n).Seq ∧ (wakeF d i n).Seq ≤ d.Seq + n ∧ (wakeF d i n).Threads.length = d.Threads.length ∧ (wakeF d i n).Locks = d.Locks
  | 0, i, d => ⟨rfl, Int.le_refl _, by unfold wakeF; omega, rfl, rfl⟩
  | n + 1, i, d => by
    unfold wakeF
    split
    · split
      · have h1 := wakeF_now n (i + 1) (standF d i d.Now)
        obtain ⟨s1, s2, s3, s4, s5⟩ := standF_now d i d.Now
        exact ⟨by rw [h1.1, s1], by omega, by omega, by rw [h1.2.2.2.1, s5], by rw [h1.2.2.2.2, s4]⟩
      · have h1 := wakeF_now n (i + 1) d
        exact ⟨h1.1, h1.2.1, by omega, h1.2.2.2⟩
    · have h1 := wakeF_now n (i + 1) d
      exact ⟨h1.1, h1.2.1, by omega, h1.2.2.2⟩
theorem Inv.later {g : Int → Prop} {d : DSched} (h : Inv g d) {now : Int} (hn : d.Now ≤ now) : Inv g ⟨now, d.Seq, d.Threads, d.Locks⟩ := by
  have h0 := h.now
  refine ⟨⟨by show 0 ≤ now; omega, h0.2⟩, h.ts, h.ls, fun t ht => ?_, h.lok, h.own, h.own0, h.lines, h.rank⟩
  have := h.tok t ht
  exact ⟨this.id, this.base, this.line, this.left, ⟨this.since.1, by have := this.since.2; show t.Since ≤ now; omega⟩, this.st⟩
theorem Inv.tick {d : DSched} (h : Inv0 d) (hn : d.Now ≤ 1099511627776) : Inv0 (tickF d).1 ∧ (tickF d).1.Now = d.Now + 1 ∧ (tickF d).1.Seq ≤ d.Seq + 33 := by
  have hw := wakeF_now d.Threads.length 0 d
  have h1 : Inv0 (wakeF d 0 d.Threads.length) := Inv.wake _ _ h
  have hf := h.few.1
  unfold tickF
  dsimp only
  generalize wakeF d 0 d.Threads.length = d1 at *
  have h2 : Inv0 ⟨d1.Now + 1, d1.Seq, d1.Threads, d1.Locks⟩ := h1.later (by omega)
  have h0 := h1.now
  split
  · exact ⟨h2, by show d1.Now + 1 = _; omega, by show d1.Seq ≤ _; omega⟩
  · split
    · exact ⟨h2, by show d1.Now + 1 = _; omega, by show d1.Seq ≤ _; omega⟩
    · rename_i t ht
      split
      · refine ⟨h1.standN ht (by omega) (by omega) (Int.le_refl _), ?_, ?_⟩
        · rw [(standF_now _ _ _).1]; show d1.Now + 1 = _; omega
        · have := (standF_now ⟨d1.Now + 1, d1.Seq, d1.Threads, d1.Locks⟩ (bestF d1 isReady).toNat (d1.Now + 1)).2.1
          have h3 : (⟨d1.Now + 1, d1.Seq, d1.Threads, d1.Locks⟩ : DSched).Seq = d1.Seq := rfl
          show (standF ⟨d1.Now + 1, d1.Seq, d1.Threads, d1.Locks⟩ (bestF d1 isReady).toNat (d1.Now + 1)).Seq ≤ _
          omega
      · rename_i hl
        have htm := List.mem_of_getElem? ht
        have htk := h1.tok t htm
        have hleft := htk.left
        refine ⟨h1.setT (u := ⟨t.Id, t.Base, t.State, t.Line, t.Left - 1, d1.Now + 1, t.Until, t.Wait⟩) ht rfl (by omega) (Int.le_refl _) ⟨htk.id, htk.base, htk.line, ⟨by show 1 ≤ t.Left - 1; omega, by show t.Left - 1 ≤ 4; omega⟩, ⟨by show 0 ≤ d1.Now + 1; omega, Int.le_refl _⟩, htk.st⟩ h1.ls h1.lok (fun k hk => ⟨k, hk, rfl⟩) h1.own h1.own0 (.inl rfl) ?_, by show d1.Now + 1 = _; omega, by show d1.Seq ≤ _; omega⟩
        obtain ⟨r, hr⟩ := h1.rank
        exact ⟨r, fun hs => hr t htm hs, fun z hz _ => hr z hz⟩
theorem lockPl_spec : ∀ (l : List DLock) (n : Int) (i : Nat), Srt DLock.Id l → (∀ x, x ∈ l → x.Id ≠ n) → ∃ j, lockPl l n i = i + j ∧ j ≤ l.length ∧ (∀ m x, m < j → l[m]? = some x → x.Id < n) ∧ ∀ m x, j ≤ m → l[m]? = some x → n < x.Id
  | [], n, i, _, _ => ⟨0, rfl, Nat.le_refl _, (fun m x hm _ => absurd hm (Nat.not_lt_zero _)), (fun m x _ hx => by simp at hx)⟩
  | y :: r, n, i, hs, hne => by
    obtain ⟨hs1, hs2⟩ := List.pairwise_cons.1 hs
    unfold lockPl
    by_cases hy : y.Id < n
    · rw [if_pos hy]
      obtain ⟨j, h1, h2, h3, h4⟩ := lockPl_spec r n (i + 1) hs2 (fun x hx => hne x (by simp [hx]))
      refine ⟨j + 1, by omega, by simp; omega, fun m x hm hx => ?_, fun m x hm hx => ?_⟩
      · cases m with
        | zero => simp at hx; subst hx; exact hy
        | succ m => exact h3 m x (by omega) (by simpa using hx)
      · cases m with
        | zero => omega
        | succ m => exact h4 m x (by omega) (by simpa using hx)
    · rw [if_neg hy]
      refine ⟨0, rfl, Nat.zero_le _, (fun m x hm _ => absurd hm (Nat.not_lt_zero _)), fun m x _ hx => ?_⟩
      have hyn := hne y (by simp)
      rcases List.mem_cons.1 (List.mem_of_getElem? hx) with rfl | hx
      · omega
      · have := hs1 x hx; omega
theorem lckOf_none {d : DSched} {n : Int} (h : lckOf d n = none) : ∀ x, x ∈ d.Locks → x.Id ≠ n := fun x hx he => by
  unfold lckOf at h
  have := List.find?_eq_none.1 h x hx
  simp [he] at this
theorem lckOf_some {d : DSched} {n : Int} {k : DLock} (h : lckOf d n = some k) : k ∈ d.Locks ∧ k.Id = n := by
  unfold lckOf at h
  exact ⟨List.mem_of_find?_eq_some h, by simpa using List.find?_some h⟩
theorem Inv.lock {d : DSched} (h : Inv0 d) {i : Nat} {t : DThread} (ht : d.Threads[i]? = some t) (hst : t.State = 1) {n : Int} (hn : 0 ≤ n ∧ n < 16) : Inv0 (lockF d i t n).1 ∧ (lockF d i t n).1.Now = d.Now ∧ (lockF d i t n).1.Seq = d.Seq := by
  have htm := List.mem_of_getElem? ht
  have htk := h.tok t htm
  unfold lockF
  rcases hl : lckOf d n with _ | k
  · have hno := lckOf_none hl
    obtain ⟨j, h1, h2, h3, h4⟩ := lockPl_spec d.Locks n 0 h.ls hno
    rw [Nat.zero_add] at h1
    have hm := fun z => mem_ins (l := d.Locks) (i := lockPl d.Locks n 0) (x := (⟨n, t.Id⟩ : DLock)) (z := z)
    refine ⟨⟨h.now, h.ts, h.ls.ins (fun y hy => ?_) (fun y hy => ?_), fun z hz => ?_, fun k hk => ?_, fun k hk => ?_, fun k hk => ?_, h.lines, ?_⟩, rfl, rfl⟩
    · obtain ⟨m, hm⟩ := List.getElem?_of_mem hy
      have hml := (List.getElem?_eq_some_iff.1 hm).1
      rw [List.length_take] at hml
      rw [List.getElem?_take_of_lt (by omega)] at hm
      exact h3 m y (by omega) hm
    · obtain ⟨m, hm⟩ := List.getElem?_of_mem hy
      rw [List.getElem?_drop] at hm
      exact h4 _ y (by omega) hm
    · have := h.tok z hz
      refine ⟨this.id, this.base, this.line, this.left, this.since, ?_⟩
      rcases this.st with h5 | ⟨h5, h6, x, hx, he⟩ | h5
      · exact .inl h5
      · exact .inr (.inl ⟨h5, h6, x, (hm x).2 (.inr hx), he⟩)
      · exact .inr (.inr h5)
    · rcases (hm k).1 hk with rfl | hk
      · exact hn
      · exact h.lok k hk
    · rcases (hm k).1 hk with rfl | hk
      · exact .inr ⟨t, htm, rfl⟩
      · exact h.own k hk
    · rcases (hm k).1 hk with rfl | hk
      · exact htk.id.1
      · exact h.own0 k hk
    · obtain ⟨r, hr⟩ := h.rank
      refine ⟨r, fun z hz hs k hk hw => ?_⟩
      rcases (hm k).1 hk with rfl | hk
      · rcases (h.tok z hz).st with h5 | ⟨_, _, x, hx, he⟩ | h5
        · omega
        · exact absurd (by rw [he]; exact hw.symm) (hno x hx)
        · omega
      · exact hr z hz hs k hk hw
  · obtain ⟨hk, hkn⟩ := lckOf_some hl
    simp only
    split
    · exact ⟨h, rfl, rfl⟩
    · rename_i hko
      split
      · exact ⟨h, rfl, rfl⟩
      · rename_i hw
        refine ⟨h.setT (u := ⟨t.Id, t.Base, 2, t.Line, t.Left, t.Since, t.Until, n⟩) ht rfl (Int.le_refl _) (Int.le_refl _) ⟨htk.id, htk.base, htk.line, htk.left, htk.since, .inr (.inl ⟨rfl, ?_, k, hk, hkn⟩)⟩ h.ls h.lok (fun k hk => ⟨k, hk, rfl⟩) h.own h.own0 (.inl rfl) ?_, rfl, rfl⟩
        · rcases htk.st with h5 | h5 | h5
          · exact h5.2.2
          · omega
          · omega
        · obtain ⟨r, hr⟩ := h.rank
          have hid0 := htk.id.1
          refine ⟨fun a => if waits d a t.Id = true ∨ a = t.Id then r a + r k.Owner + 1 else r a, fun _ x hx hxw => ?_, fun z hz hne hs x hx hxw => ?_⟩
          · have hxk : x = k := h.ls.uniq hx hk (by rw [hkn]; exact hxw)
            subst hxk
            show (if waits d x.Owner t.Id = true ∨ x.Owner = t.Id then r x.Owner + r x.Owner + 1 else r x.Owner) < (if waits d t.Id t.Id = true ∨ t.Id = t.Id then r t.Id + r x.Owner + 1 else r t.Id)
            rw [if_neg (by rintro (h6 | h6); exact hw h6; exact hko h6), if_pos (.inr rfl)]
            omega
          · have h5 := hr z hz hs x hx hxw
            have h6 := h.nxt hz hs hx hxw
            show (if waits d x.Owner t.Id = true ∨ x.Owner = t.Id then r x.Owner + r k.Owner + 1 else r x.Owner) < (if waits d z.Id t.Id = true ∨ z.Id = t.Id then r z.Id + r k.Owner + 1 else r z.Id)
            by_cases hp : waits d x.Owner t.Id = true ∨ x.Owner = t.Id
            · have hpz : waits d z.Id t.Id = true := by
                rcases hp with hp | hp
                · exact waits_step (by rw [h6]; exact h.own0 x hx) (by rw [h6]; exact hp)
                · exact waits_last.2 (.inl ⟨hid0, by rw [h6, hp]⟩)
              rw [if_pos hp, if_pos (.inl hpz)]; omega
            · rw [if_neg hp]
              split <;> omega
theorem Inv.thr {d : DSched} (h : Inv0 d) (hn : d.Now ≤ 1099511627776) {i : Nat} {t : DThread} (ht : d.Threads[i]? = some t) (kind id n : Int) : Inv0 (thrF d i t kind id n).1 ∧ (thrF d i t kind id n).1.Now ≤ d.Now + 1 ∧ (thrF d i t kind id n).1.Seq ≤ d.Seq + 33 := by
  have same : Inv0 d ∧ d.Now ≤ d.Now + 1 ∧ d.Seq ≤ d.Seq + 33 := ⟨h, by omega, by omega⟩
  have htm := List.mem_of_getElem? ht
  have htk := h.tok t htm
  have h0 := h.now
  unfold thrF
  split
  · have := exitF_now h hn id
    exact ⟨h.exit hn id, by show (exitF d id).Now ≤ _; omega, by show (exitF d id).Seq ≤ _; omega⟩
  · split
    · split
      · exact same
      · rename_i hr
        split
        · exact same
        · rename_i hs
          split
          · obtain ⟨h1, h2, h3⟩ := h.lock ht (by omega) (n := n) (by omega)
            exact ⟨h1, by omega, by omega⟩
          · rcases hl : lckOf d n with _ | k
            · exact same
            · obtain ⟨hk, hkn⟩ := lckOf_some hl
              simp only
              split
              · exact same
              · have := handF_now d n
                subst hkn
                exact ⟨h.hand hn hk, by show (handF d k.Id).Now ≤ _; omega, by show (handF d k.Id).Seq ≤ _; omega⟩
    · split
      · split
        · exact same
        · split
          · exact same
          · rename_i hr hs
            refine ⟨h.setT (u := ⟨t.Id, t.Base, 3, t.Line, t.Left, t.Since, d.Now + n, t.Wait⟩) ht rfl (Int.le_refl _) (Int.le_refl _) ⟨htk.id, htk.base, htk.line, htk.left, htk.since, .inr (.inr ⟨rfl, ?_, by show 0 < d.Now + n; omega⟩)⟩ h.ls h.lok (fun k hk => ⟨k, hk, rfl⟩) h.own h.own0 (.inl rfl) (h.rankOld (by show (3 : Int) ≠ 2; omega)), by show d.Now ≤ _; omega, by show d.Seq ≤ _; omega⟩
            rcases htk.st with h5 | h5 | h5
            · exact h5.2.1
            · omega
            · omega
      · split
        · split
          · exact same
          · have := standF_now d i d.Now
            exact ⟨h.stand ht, by show (standF d i d.Now).Now ≤ _; omega, by show (standF d i d.Now).Seq ≤ _; omega⟩
        · split
          · exact same
          · rename_i hr
            refine ⟨h.setT (u := ⟨t.Id, n, t.State, t.Line, t.Left, t.Since, t.Until, t.Wait⟩) ht rfl (Int.le_refl _) (Int.le_refl _) ⟨htk.id, ⟨by show 0 ≤ n; omega, by show n ≤ 7; omega⟩, htk.line, htk.left, htk.since, htk.st⟩ h.ls h.lok (fun k hk => ⟨k, hk, rfl⟩) h.own h.own0 (.inl rfl) ?_, by show d.Now ≤ _; omega, by show d.Seq ≤ _; omega⟩
            obtain ⟨r, hr⟩ := h.rank
            exact ⟨r, fun hs => hr t htm hs, fun z hz _ => hr z hz⟩
/-- A state stays one that can be. -/
theorem Inv.step {d : DSched} (h : Inv0 d) (hn : d.Now ≤ 1099511627776) (kind id n : Int) : Inv0 (stepF d kind id n).1 ∧ (stepF d kind id n).1.Now ≤ d.Now + 1 ∧ (stepF d kind id n).1.Seq ≤ d.Seq + 33 := by
  have same : Inv0 d ∧ d.Now ≤ d.Now + 1 ∧ d.Seq ≤ d.Seq + 33 := ⟨h, by omega, by omega⟩
  have hf := h.few.1
  unfold stepF
  split
  · split
    · exact same
    · split
      · exact same
      · exact ⟨h.spawn (by omega) (by omega), by show d.Now ≤ _; omega, by show d.Seq + 1 ≤ _; omega⟩
  · split
    · obtain ⟨h1, h2, h3⟩ := h.tick hn
      exact ⟨h1, by show (tickF d).1.Now ≤ _; omega, h3⟩
    · split
      · exact same
      · split
        · exact same
        · rename_i t ht
          split
          · exact same
          · exact h.thr hn ht kind id n
end Go.Proofs.Yteigefjiifihpaa

/- FnExactPick: the measure of the program's priority. Conditions: none. -/
set_option linter.unusedVariables false
set_option linter.unusedSimpArgs false
namespace Go.Proofs.Yteigefjiifihpaa
open Go Go.Den
/-- How many wait for one. -/
def waiters (d : DSched) (id : Int) : Nat := (d.Threads.filter (fun y => waits d y.Id id)).length
/-- Fewer wait for one who waits. -/
theorem waiters_lt {d : DSched} (hs : Mid d) {w x : DThread} (hw : w ∈ d.Threads) (h0 : 0 ≤ x.Id) (hn : nxt d w.Id = x.Id) : waiters d w.Id < waiters d x.Id := by
  unfold waiters
  refine filter_lt _ (fun y hy hyw => waits_last.2 (.inr ⟨w.Id, hyw, h0, hn⟩)) ⟨w, hw, ?_, waits_last.2 (.inl ⟨h0, hn⟩)⟩
  exact hs.acyc w hw
/-- Who waits at once: by which lock. -/
theorem Mid.direct {d : DSched} (h : Mid d) {w : DThread} (hw : w ∈ d.Threads) {id : Int} (h0 : 0 ≤ id) : nxt d w.Id = id ↔ w.State = 2 ∧ ∃ (j : Nat) (k : DLock), d.Locks[j]? = some k ∧ k.Id = w.Wait ∧ k.Owner = id := by
  unfold nxt
  rw [h.find w hw]
  simp only
  constructor
  · intro hn
    by_cases hs : w.State = 2
    · rw [if_pos hs] at hn
      rcases idL_find d w.Wait with ⟨_, hf⟩ | ⟨j, k, _, hk, hf⟩
      · rw [hf] at hn; simp only at hn; omega
      · rw [hf] at hn
        exact ⟨hs, j, k, hk, by unfold lckOf at hf; simpa using List.find?_some hf, hn⟩
    · rw [if_neg hs] at hn; omega
  · rintro ⟨hs, j, k, hk, hid, ho⟩
    rw [if_pos hs, ← hid, h.findL _ (List.mem_of_getElem? hk)]
    exact ho
end Go.Proofs.Yteigefjiifihpaa

/- FnExactPick: a thread's priority, on the program's side. Conditions: none. -/
set_option linter.unusedVariables false
set_option linter.unusedSimpArgs false
namespace Go.Proofs.Yteigefjiifihpaa
open Go Go.Den
theorem c125 {p : Addr} {x : DThread} {w : World} (hc : ∀ j v, x.cells[j]? = some v → w.cell? (p.add j) = some v) : CallW Try.prog 125 #[.pointer (some p)] w (fun v w' => v = .bool (x.State == 1) ∧ w' = w) := by
  refine go125 ?_
  unfold W125
  exact ⟨p, rfl, _, hc 2 _ rfl, rfl, rfl⟩
/-- What the folding over locks 0 .. j-1 (and the threads 0 .. m-1 of lock j) has seen. -/
def Seen (d : DSched) (x : DThread) (j m : Nat) (r : Int) : Prop :=
  own d x ≤ r ∧ (∀ a k b y, d.Locks[a]? = some k → d.Threads[b]? = some y → k.Owner = x.Id → y.State = 2 → y.Wait = k.Id → (a < j ∨ (a = j ∧ b < m)) → prio d y ≤ r) ∧
  (r = own d x ∨ ∃ y, y ∈ d.Threads ∧ nxt d y.Id = x.Id ∧ r = prio d y)
theorem seen_end {d : DSched} (hs : Mid d) {x : DThread} (h0 : 0 ≤ x.Id) {r : Int} (h : Seen d x d.Locks.length 0 r) : r = prio d x := by
  refine prio_fold h0 h.1 (fun w hw hn => ?_) h.2.2
  obtain ⟨h2, j, k, hk, hid, ho⟩ := (hs.direct hw h0).1 hn
  obtain ⟨b, hb, he⟩ := List.getElem_of_mem hw
  exact h.2.1 j k b w hk (by rw [List.getElem?_eq_getElem hb, he]) ho h2 hid.symm (.inl (List.getElem?_eq_some_iff.1 hk).1)
theorem c88 {s : Addr} {t l : Sl} {d : DSched} (hs : Mid d) : ∀ (n : Nat) (i : Nat) (x : DThread) (p : Addr) (w : World), waiters d x.Id = n → d.Threads[i]? = some x → t.a = some p → PAt w s d.Now d.Seq t l → SAt w t l d →
    CallW Try.prog 88 #[.pointer (some s), .pointer (some (p.add (i * 8)))] w (fun v w' => v = .int .i64 (prio d x) ∧ Ext w w') := by
  intro n
  induction n using Nat.strongRecOn with
  | _ n ih =>
  intro i x p w hn hx hp hpat h
  have hmem := List.mem_of_getElem? hx
  have h0 := hs.id0 x hmem
  obtain ⟨n0, n1, n2, n3, n4⟩ := hs.num x hmem
  have hll := h.ll
  have htl := h.tl
  have hfew := h.few
  have pat : ∀ {w'}, Ext w w' → PAt w' s d.Now d.Seq t l := fun e j v hj => e.cell (hpat j v hj)
  have xat : ∀ {w'}, Ext w w' → ∀ j v, x.cells[j]? = some v → w'.cell? ((p.add (i * 8)).add j) = some v := by
    intro w' e
    obtain ⟨p', hp', hc⟩ := (h.ext e).thr hx
    rw [hp] at hp'; cases hp'
    exact hc
  refine go88 ?_
  unfold W88
  have er : Ext w w := Only.refl _ _
  refine ⟨_, rfl, _, xat er 1 _ rfl, JoinW.cut1 (fun (p : Int) w' => p = own d x ∧ Ext w w') ?_ ?_⟩
  · refine ⟨_, rfl, _, xat er 2 _ rfl, BIf.eq (fun hst => ?_) (fun hst => ?_)⟩
    · refine ⟨s, rfl, _, pat (ext_drew w) 0 _ rfl, _, rfl, _, xat (ext_drew w) 5 _ rfl, by omega, ?_, ext_drew w⟩
      rw [w64 (n := d.Now - x.Since) (by omega) (by omega), Int.tdiv_eq_ediv_of_nonneg (by omega), w64 (n := (d.Now - x.Since) / 16) (by omega) (by omega), w64 (by omega) (by omega)]
      unfold own minI
      rw [if_pos hst]
      split <;> split <;> omega
    · refine ⟨?_, er⟩
      unfold own
      rw [if_neg hst, if_neg (by omega)]
  rintro (p0 : Int) w1 ⟨hp0, e1⟩
  refine ⟨s, rfl, l, pat e1 3 _ rfl, ?_⟩
  refine LoopW.m2 (fun (r j : Int) w' => 0 ≤ j ∧ j ≤ l.len ∧ Ext w w' ∧ Seen d x j.toNat 0 r) (fun _ (j : Int) _ => (l.len - j).toNat) ⟨by omega, by omega, e1, by rw [hp0]; exact Int.le_refl _, (fun a k b y _ _ _ _ _ hab => by have : (Int.toNat 0) = 0 := rfl; omega), .inl hp0⟩ ?_
  rintro (r : Int) (j : Int) w2 ⟨hj0, hj1, e2, hseen⟩ J hJ
  obtain ⟨a, rfl⟩ := Int.eq_ofNat_of_zero_le hj0
  rw [Int.toNat_natCast] at *
  refine BIf.dec (fun hlt => ?_) (fun hge => ?_)
  · have hk : a < d.Locks.length := by omega
    have hget : d.Locks[a]? = some d.Locks[a] := List.getElem?_eq_getElem hk
    obtain ⟨q, hq, hc⟩ := (h.ext e2).lck hget
    generalize d.Locks[a] = y at *
    refine ⟨hj0, hlt, q, hq, _, hc 0 _ rfl, _, hc 1 _ rfl, LetW_iff.2 ?_⟩
    have hz : Blk (w2.alloc (.cells #[.int .i64 0, .int .i64 0] 122)) w2.heap.size _ := blk_alloc w2 _ _
    have ez := ext_alloc w2 (.cells #[.int .i64 0, .int .i64 0] 122)
    refine lck_put hz rfl y (fun w3 o3 hy3 => ?_)
    have e3 := Only.trans e2 (Only.trans (Ext.own ez o3 (by rintro k rfl; exact Nat.le_refl _)) (ext_drew w3))
    have hy := hy3.ext (ext_drew w3)
    generalize w3.drew = w4 at *
    rw [w64 (n := (a : Int) + 1) (by omega) (by omega)]
    refine ⟨_, hy.cell 1, _, rfl, _, xat e3 0 _ rfl, BIf.ne (fun hne => ?_) (fun heq => ⟨s, rfl, t, pat e3 2 _ rfl, ?_⟩)⟩
    · refine hJ _ _ _ ⟨by omega, by omega, e3, hseen.1, fun a' k b z hk' hz' ho h2 hw hab => ?_, hseen.2.2⟩ (by omega)
      have hab : a' < a + 1 := hab.elim (fun h => h) (fun h => absurd h.2 (Nat.not_lt_zero _))
      by_cases ha : a' = a
      · subst ha; rw [hget] at hk'; cases hk'; exact absurd ho hne
      · exact hseen.2.1 a' k b z hk' hz' ho h2 hw (.inl (by omega))
    · refine LoopW.m2 (fun (r j : Int) w' => 0 ≤ j ∧ j ≤ t.len ∧ Ext w4 w' ∧ Seen d x a j.toNat r) (fun _ (j : Int) _ => (t.len - j).toNat) ⟨by omega, by omega, Only.refl _ _, hseen⟩ ?_
      rintro (r : Int) (j : Int) w5 ⟨hj0, hj1, e5, hseen⟩ J2 hJ2
      obtain ⟨m, rfl⟩ := Int.eq_ofNat_of_zero_le hj0
      rw [Int.toNat_natCast] at *
      have e05 := Only.trans e3 e5
      refine BIf.dec (fun hlt => ?_) (fun hge => ?_)
      · have hm : m < d.Threads.length := by omega
        have hgm : d.Threads[m]? = some d.Threads[m] := List.getElem?_eq_getElem hm
        have e6 := Only.trans e05 (ext_drew w5)
        obtain ⟨p', hp', hcz⟩ := (h.ext e6).thr hgm
        rw [hp] at hp'; cases hp'
        have hmm := List.getElem_mem hm
        generalize d.Threads[m] = z at *
        rw [w64 (n := (m : Int) + 1) (by omega) (by omega)]
        refine ⟨s, rfl, t, pat e05 2 _ rfl, hj0, hlt, p, hp, JoinW.cut1 (fun (b : Bool) w' => b = (z.State == 2 && z.Wait == y.Id) ∧ w' = w5.drew) ?_ ?_⟩
        · refine ⟨_, rfl, _, hcz 2 _ rfl, BIf.of (fun hst => ⟨_, rfl, _, hcz 7 _ rfl, _, (hy.ext (Only.trans e5 (ext_drew w5))).cell 0, ?_, rfl⟩) (fun hst => ⟨?_, rfl⟩)⟩
          · rw [hst]; rfl
          · rw [hst]; rfl
        · rintro (b : Bool) w6 ⟨hbb, rfl⟩
          refine BIf.of (fun hb1 => ?_) (fun hb1 => ?_)
          · rw [hb1] at hbb
            have hzz : z.State = 2 ∧ z.Wait = y.Id := by simpa using hbb.symm
            have hdir : nxt d z.Id = x.Id := (hs.direct hmm h0).2 ⟨hzz.1, a, y, hget, hzz.2.symm, heq⟩
            have hlt' := waiters_lt hs hmm h0 hdir
            refine (ih _ (by omega) m z p _ rfl hgm hp (pat e6) (h.ext e6)).mono ?_
            rintro _ w7 ⟨rfl, e7⟩
            refine ⟨_, rfl, ?_⟩
            have hmax : r ≤ maxI r (prio d z) ∧ prio d z ≤ maxI r (prio d z) ∧ (maxI r (prio d z) = r ∨ maxI r (prio d z) = prio d z) := by unfold maxI; split <;> omega
            refine hJ2 _ _ _ ⟨by omega, by omega, Only.trans e5 (Only.trans (ext_drew w5) e7), by have := hseen.1; omega, fun a' k b z' hk' hz' ho h2 hw hab => ?_, ?_⟩ (by omega)
            · by_cases hbm : a' = a ∧ b = m
              · rw [hbm.2, hgm] at hz'; cases hz'; exact hmax.2.1
              · have := hseen.2.1 a' k b z' hk' hz' ho h2 hw (by
                  rcases hab with hab | ⟨hab, hb2⟩
                  · exact .inl hab
                  · have hb2 : b < m + 1 := hb2
                    exact .inr ⟨hab, by omega⟩)
                omega
            · rcases hmax.2.2 with hm1 | hm1
              · rw [hm1]; exact hseen.2.2
              · exact .inr ⟨z, hmm, hdir, hm1⟩
          · rw [hb1] at hbb
            refine hJ2 _ _ _ ⟨by omega, by omega, Only.trans e5 (ext_drew w5), hseen.1, fun a' k b z' hk' hz' ho h2 hw hab => ?_, hseen.2.2⟩ (by omega)
            by_cases hbm : a' = a ∧ b = m
            · rw [hbm.2, hgm] at hz'; cases hz'
              rw [hbm.1, hget] at hk'; cases hk'
              simp [h2, hw] at hbb
            · exact hseen.2.1 a' k b z' hk' hz' ho h2 hw (by
                rcases hab with hab | ⟨hab, hb2⟩
                · exact .inl hab
                · have hb2 : b < m + 1 := hb2
                  exact .inr ⟨hab, by omega⟩)
      · refine hJ _ _ _ ⟨by omega, by omega, e05, hseen.1, fun a' k b z hk' hz' ho h2 hw hab => ?_, hseen.2.2⟩ (by omega)
        have hab : a' < a + 1 := hab.elim (fun h => h) (fun h => absurd h.2 (Nat.not_lt_zero _))
        have hbl := (List.getElem?_eq_some_iff.1 hz').1
        exact hseen.2.1 a' k b z hk' hz' ho h2 hw (by omega)
  · rw [show a = d.Locks.length by omega] at hseen
    exact ⟨by rw [seen_end hs h0 hseen], e2⟩
end Go.Proofs.Yteigefjiifihpaa

/- FnExactPick: who is picked, on the program's side. Conditions: none. -/
set_option linter.unusedVariables false
set_option linter.unusedSimpArgs false
namespace Go.Proofs.Yteigefjiifihpaa
open Go Go.Den
theorem pickL_first (d : DSched) : ∀ (l : List DThread) (i : Nat) (b m : Int), pickL d l i b m = firstL d isReady l i b m
  | [], i, b, m => rfl
  | x :: r, i, b, m => by
    unfold pickL firstL
    by_cases hx : x.State = 1
    · rw [if_pos hx, if_pos (show isReady x = true by unfold isReady; simpa using hx)]
      split
      · exact pickL_first d r _ _ _
      · exact pickL_first d r _ _ _
    · rw [if_neg hx, if_neg (show ¬ isReady x = true by unfold isReady; simpa using hx)]
      exact pickL_first d r _ _ _
abbrev bestI (d : DSched) : Int := bestF d isReady
theorem bestI_pick (d : DSched) : pickL d d.Threads 0 (-1) (-1) = bestI d := pickL_first d _ _ _ _
theorem c124 {s : Addr} {t l : Sl} {d : DSched} {w : World} {f : Nat} {fx fc : List Value} {ok : DThread → Bool} (hs : Mid d) (hpat : PAt w s d.Now d.Seq t l) (h : SAt w t l d)
    (hok : ∀ (x : DThread) (p : Addr) (w' : World), Ext w w' → (∀ j v, x.cells[j]? = some v → w'.cell? (p.add j) = some v) → CallW Try.prog f ⟨fx ++ ([.pointer (some p)] ++ fc)⟩ w' (fun v w2 => v = .bool (ok x) ∧ Ext w' w2)) :
    CallW Try.prog 124 #[.pointer (some s), .func (.func f) ⟨fx⟩ ⟨fc⟩] w (fun v w' => v = .pointer (ptrAt t.a 8 (bestF d ok)) ∧ Ext w w' ∧ (bestF d ok = -1 ∨ (0 ≤ bestF d ok ∧ bestF d ok < d.Threads.length))) := by
  refine go124 ?_
  unfold W124
  have htl := h.tl
  have hfew := h.few
  have pat : ∀ {w'}, Ext w w' → PAt w' s d.Now d.Seq t l := fun e j v hj => e.cell (hpat j v hj)
  refine ⟨s, rfl, t, pat (Only.refl _ _) 2 _ rfl, ?_⟩
  refine LoopW.m3 (fun (p : Option Addr) (m i : Int) w' => 0 ≤ i ∧ i ≤ t.len ∧ Ext w w' ∧ ∃ b m', p = ptrAt t.a 8 b ∧ ((b = -1 ∧ m' = -1) ∨ (0 ≤ b ∧ b < i ∧ m = m')) ∧ firstL d ok (d.Threads.drop i.toNat) i.toNat b m' = bestF d ok) (fun _ _ (i : Int) _ => (t.len - i).toNat) ⟨by omega, by omega, Only.refl _ _, -1, -1, rfl, .inl ⟨rfl, rfl⟩, rfl⟩ ?_
  rintro (p3 : Option Addr) (m : Int) (i : Int) w1 ⟨hi0, hi1, e1, b, m', rfl, hbm, hr⟩ J hJ
  obtain ⟨k, rfl⟩ := Int.eq_ofNat_of_zero_le hi0
  rw [Int.toNat_natCast] at *
  refine BIf.dec (fun hlt => ?_) (fun hge => ?_)
  · have hk : k < d.Threads.length := by omega
    have hget : d.Threads[k]? = some d.Threads[k] := List.getElem?_eq_getElem hk
    have hmem := List.getElem_mem hk
    rw [List.drop_eq_getElem_cons hk, firstL] at hr
    obtain ⟨p, hp, hc⟩ := (h.ext e1).thr hget
    generalize d.Threads[k] = x at *
    rw [w64 (n := (k : Int) + 1) (by omega) (by omega)]
    refine ⟨s, rfl, t, pat e1 2 _ rfl, hi0, hlt, p, hp, (hok x _ _ e1 hc).mono ?_⟩
    rintro _ w2 ⟨rfl, e2⟩
    have e12 := Only.trans e1 e2
    refine ⟨_, rfl, BIf.of (fun hn => ?_) (fun hy => ?_)⟩
    · rw [if_neg (by simpa using hn)] at hr
      exact hJ _ _ _ _ ⟨by omega, by omega, e12, b, m', rfl, by omega, hr⟩ (by omega)
    · rw [if_pos (by simpa using hy)] at hr
      refine (c88 hs _ k x p _ rfl hget hp (pat e12) (h.ext e12)).mono ?_
      rintro _ w3 ⟨rfl, e3⟩
      have e4 := Only.trans e12 (Only.trans e3 (ext_drew w3))
      have hpr := prio_ge (hs.num x hmem)
      have hxk := ptr_some (z := 8) hp k
      refine ⟨_, rfl, JoinW.cut1 (fun (c : Bool) w' => c = decide (prio d x > m' ∨ (prio d x = m' ∧ x.Line < lineAt d b)) ∧ w' = w3.drew) ?_ ?_⟩
      · refine BIf.of (fun hnone => ⟨?_, rfl⟩) (fun hsome => ?_)
        · have hb1 : b = -1 := by
            rcases hbm with hb | hb
            · exact hb.1
            · obtain ⟨nb, rfl⟩ := Int.eq_ofNat_of_zero_le hb.1
              rw [ptr_some hp] at hnone; cases hnone
          exact (decide_eq_true (.inl (by omega))).symm
        · have hb0 : 0 ≤ b ∧ b < k ∧ m = m' := by
            rcases hbm with hb | hb
            · rw [hb.1, ptr_none] at hsome; cases hsome
            · exact hb
          refine BIf.dec (fun h1 => ⟨(decide_eq_true (.inl (by omega))).symm, rfl⟩) (fun h1 => BIf.eq (fun h2 => ?_) (fun h2 => ⟨(decide_eq_false (by rintro (h | h) <;> omega)).symm, rfl⟩))
          obtain ⟨nb, rfl⟩ := Int.eq_ofNat_of_zero_le hb0.1
          have hbl : nb < d.Threads.length := by omega
          have hgb : d.Threads[nb]? = some d.Threads[nb] := List.getElem?_eq_getElem hbl
          obtain ⟨p', hp', hcb⟩ := (h.ext e4).thr hgb
          obtain ⟨p'', hp'', hcx⟩ := (h.ext e4).thr hget
          rw [hp] at hp' hp''; cases hp'; cases hp''
          refine ⟨_, rfl, _, hcx 3 _ rfl, _, ptr_some hp nb, _, hcb 3 _ rfl, ?_, rfl⟩
          have hla : lineAt d (nb : Int) = d.Threads[nb].Line := by unfold lineAt; rw [Int.toNat_natCast, hgb]
          rw [hla]
          apply decide_eq_decide.2
          exact ⟨fun h => .inr ⟨by omega, h⟩, fun h => by rcases h with h | h; omega; exact h.2⟩
      · rintro (c : Bool) w5 ⟨hcc, rfl⟩
        refine BIf.of (fun hc1 => ?_) (fun hc1 => ?_)
        · rw [hc1] at hcc
          rw [if_pos (of_decide_eq_true hcc.symm)] at hr
          exact hJ _ _ _ _ ⟨by omega, by omega, e4, k, prio d x, hxk.symm, .inr ⟨by omega, by omega, rfl⟩, hr⟩ (by omega)
        · rw [hc1] at hcc
          rw [if_neg (of_decide_eq_false hcc.symm)] at hr
          exact hJ _ _ _ _ ⟨by omega, by omega, e4, b, m', rfl, by omega, hr⟩ (by omega)
  · rw [List.drop_eq_nil_of_le (by omega)] at hr
    have hr : b = bestF d ok := hr
    exact ⟨by rw [hr], e1, by omega⟩
theorem c89 {s : Addr} {t l : Sl} {d : DSched} {w : World} (hs : Mid d) (hpat : PAt w s d.Now d.Seq t l) (h : SAt w t l d) : CallW Try.prog 89 #[.pointer (some s)] w (fun v w' => v = .pointer (ptrAt t.a 8 (bestI d)) ∧ Ext w w' ∧ (bestI d = -1 ∨ (0 ≤ bestI d ∧ bestI d < d.Threads.length))) := by
  refine go89 ?_
  unfold W89
  refine (c124 (f := 125) (fx := []) (fc := []) (ok := isReady) hs hpat h (fun x p w' e hc => (c125 hc).mono ?_)).mono ?_
  · rintro _ w2 ⟨rfl, rfl⟩
    exact ⟨rfl, Only.refl _ _⟩
  · rintro _ w2 ⟨rfl, h2⟩
    exact ⟨_, rfl, rfl, h2⟩
theorem c37 {t l : Sl} {d : DSched} {w : World} (h : SAt w t l d) : CallW Try.prog 37 #[sAgg d.Now d.Seq t l] w (KPick d w) := by
  refine go37 ?_
  unfold W37
  refine LetW_iff.2 ?_
  have hb : Blk (w.alloc (.cells #[.int .i64 d.Now, .int .i64 d.Seq, .slice t.a t.len t.cap, .slice l.a l.len l.cap] 43)) w.heap.size (sCells d.Now d.Seq t l) := blk_alloc w _ _
  have e0 := ext_alloc w (.cells #[.int .i64 d.Now, .int .i64 d.Seq, .slice t.a t.len t.cap, .slice l.a l.len l.cap] 43)
  generalize w.alloc (.cells #[.int .i64 d.Now, .int .i64 d.Seq, .slice t.a t.len t.cap, .slice l.a l.len l.cap] 43) = w1 at *
  have h1 := h.ext e0
  refine ⟨_, hb.cell 0, _, hb.cell 1, t, hb.cell 2, l, hb.cell 3, (c34 h1).mono ?_⟩
  rintro _ w2 ⟨b, rfl, hiff, e2⟩
  have hb2 := hb.ext e2
  have e02 := Only.trans e0 e2
  refine ⟨_, rfl, BIf.of (fun hn => ?_) (fun hy => ?_)⟩
  · have hno : ¬ SOk d := fun h => by rw [hiff.2 h] at hn; cases hn
    exact ⟨-1, rfl, fun h => absurd h hno, fun _ => rfl, e02⟩
  · have hs : SOk d := hiff.1 (by simpa using hy)
    refine (c89 (sok_iff.1 hs |>.1.mid (sok_iff.1 hs).2.1) (pat_of hb2) (h1.ext e2)).mono ?_
    · rintro _ w3 ⟨rfl, e3, hbest⟩
      have e03 := Only.trans e02 e3
      refine ⟨_, rfl, ?_⟩
      rcases hbest with hm1 | ⟨h0, hlt⟩
      · rw [hm1, ptr_none]
        refine BIf.f rfl ⟨-1, rfl, fun _ => ?_, fun _ => rfl, e03⟩
        unfold pickS; rw [show pickL d d.Threads 0 (-1) (-1) = -1 from (bestI_pick d).trans hm1]; rfl
      · obtain ⟨nb, hnb⟩ := Int.eq_ofNat_of_zero_le h0
        have hbl : nb < d.Threads.length := by omega
        have hgb : d.Threads[nb]? = some d.Threads[nb] := List.getElem?_eq_getElem hbl
        obtain ⟨p, hp, hc⟩ := (h1.ext (Only.trans e2 e3)).thr hgb
        rw [hnb, ptr_some hp]
        refine BIf.t rfl ⟨_, rfl, _, hc 0 _ rfl, _, rfl, fun _ => ?_, fun hn => absurd hs hn, e03⟩
        unfold pickS; rw [show pickL d d.Threads 0 (-1) (-1) = (nb : Int) from (bestI_pick d).trans hnb, if_neg (by omega), Int.toNat_natCast, hgb]
end Go.Proofs.Yteigefjiifihpaa

/- The scheduler, the reference's side: stand, hand on. Conditions: none. -/
set_option linter.unusedVariables false
set_option linter.unusedSimpArgs false
namespace Go.Proofs.Yteigefjiifihpaa
open Go Go.Den
abbrev RT (t : Sl) (l : List DThread) : Asr := aRow t 8 (recs DThread.cells l)
abbrev RL (s : Sl) (l : List DLock) : Asr := aRow s 2 (recs DLock.cells l)
theorem plain_thr (x : DThread) : ∀ v, v ∈ x.cells → plainB v = true := by intro v hv; simp [DThread.cells] at hv; rcases hv with rfl | rfl | rfl | rfl | rfl | rfl | rfl | rfl <;> rfl
theorem plain_lck (x : DLock) : ∀ v, v ∈ x.cells → plainB v = true := by intro v hv; simp [DLock.cells] at hv; rcases hv with rfl | rfl <;> rfl
/-- What both rows tell. -/
theorem satOf {w0 w : World} {As : List Asr} (h : SH w0 w As) (i j : Nat) {t l : Sl} {d : DSched} (hi : As[i]? = some (RT t d.Threads)) (hj : As[j]? = some (RL l d.Locks)) (hf : d.Threads.length ≤ 1048576 ∧ d.Locks.length ≤ 1048576) : SAt w t l d :=
  ⟨by rw [h.len i hi, recs_len], h.rowR i hi, by rw [h.len j hj, recs_len], h.rowR j hj, hf⟩
/-- A state handed by value. -/
def KS (w0 : World) (F : List Asr) (d : DSched) (v : Value) (w' : World) : Prop := ∃ t l : Sl, v = sAgg d.Now d.Seq t l ∧ SH w0 w' (RT t d.Threads :: RL l d.Locks :: F)
def KR (w0 : World) (F : List Asr) (r : DSched × Int × Int) (v : Value) (w' : World) : Prop := ∃ t l : Sl, v = .tuple #[sAgg r.1.Now r.1.Seq t l, .agg #[.int .i64 r.2.1, .int .i64 r.2.2]] ∧ SH w0 w' (RT t r.1.Threads :: RL l r.1.Locks :: F)
abbrev ZS : List Value := [.int .i64 0, .int .i64 0, .slice none 0 0, .slice none 0 0]
abbrev ZR : List Value := [.int .i64 0, .int .i64 0]
abbrev rsV (x y : Int) : List Value := [.int .i64 x, .int .i64 y]
/-- A state and an answer, laid into their blocks and handed back. -/
theorem retR {w0 w : World} {As : List Asr} (h : SH w0 w As) (i j : Nat) {b c : Nat} {vs us : List Value} (hb : As[i]? = some (aB b (vs.map Ce.v))) (hv : vs.length = 4) {n q : Int} {t l : Sl} {x y : Int} {K : Value → World → Prop}
    (hc : (As.set i (aB b ((sCells n q t l).map Ce.v)))[j]? = some (aB c (us.map Ce.v))) (hu : us.length = 2) (hij : i < As.length ∧ i ≠ j)
    (hk : ∀ w2, SH w0 w2 ((As.set i (aB b ((sCells n q t l).map Ce.v))).set j (aB c ((rsV x y).map Ce.v))) → K (.tuple #[sAgg n q t l, .agg #[.int .i64 x, .int .i64 y]]) w2) :
    MayN w ⟨b, 0, none⟩ 4 ∧ LetW (Den.puts w ⟨b, 0, none⟩ 0 [.int .i64 n, .int .i64 q, .slice t.a t.len t.cap, .slice l.a l.len l.cap]) fun w13 => MayN w13 ⟨c, 0, none⟩ 2 ∧ LetW (Den.puts w13 ⟨c, 0, none⟩ 0 [.int .i64 x, .int .i64 y]) fun w14 =>
      ∃ n15 : Int, w14.cell? ⟨b, 0, none⟩ = some (.int .i64 n15) ∧ ∃ n16 : Int, w14.cell? ⟨b, 1, none⟩ = some (.int .i64 n16) ∧ ∃ l17 : Sl, w14.cell? ⟨b, 2, none⟩ = some (.slice l17.a l17.len l17.cap) ∧ ∃ l18 : Sl, w14.cell? ⟨b, 3, none⟩ = some (.slice l18.a l18.len l18.cap) ∧ ∃ n19 : Int, w14.cell? ⟨c, 0, none⟩ = some (.int .i64 n19) ∧ ∃ n20 : Int, w14.cell? ⟨c, 1, none⟩ = some (.int .i64 n20) ∧
      K (.tuple #[.agg #[.int .i64 n15, .int .i64 n16, .slice l17.a l17.len l17.cap, .slice l18.a l18.len l18.cap], .agg #[.int .i64 n19, .int .i64 n20]]) w14 := by
  refine h.put i hb rfl hv (fun w13 h nw => ?_)
  refine h.put j hc rfl hu (fun w14 h nw => ?_)
  have g1 : ((As.set i (aB b ((sCells n q t l).map Ce.v))).set j (aB c ((rsV x y).map Ce.v)))[i]? = some (aB b ((sCells n q t l).map Ce.v)) := by
    rw [List.getElem?_set_ne (by omega), List.getElem?_set_self hij.1]
  have hj := (List.getElem?_eq_some_iff.1 hc).1
  have g2 : ((As.set i (aB b ((sCells n q t l).map Ce.v))).set j (aB c ((rsV x y).map Ce.v)))[j]? = some (aB c ((rsV x y).map Ce.v)) := List.getElem?_set_self hj
  exact ⟨n, h.cell i g1 rfl, q, h.cell i g1 rfl, t, h.cell i g1 rfl, l, h.cell i g1 rfl, x, h.cell j g2 rfl, y, h.cell j g2 rfl, hk _ h⟩
/-- The state as it came, and an answer. -/
theorem retS {w0 w : World} {As : List Asr} (h : SH w0 w As) (m i j : Nat) {a b c : Nat} {vs us : List Value} {n q : Int} {t l : Sl} (ha : As[m]? = some (aB a ((sCells n q t l).map Ce.v))) (hb : As[i]? = some (aB b (vs.map Ce.v))) (hv : vs.length = 4) {x y : Int} {K : Value → World → Prop}
    (hc : (As.set i (aB b ((sCells n q t l).map Ce.v)))[j]? = some (aB c (us.map Ce.v))) (hu : us.length = 2) (hij : i < As.length ∧ i ≠ j)
    (hk : ∀ w2, SH w0 w2 ((As.set i (aB b ((sCells n q t l).map Ce.v))).set j (aB c ((rsV x y).map Ce.v))) → K (.tuple #[sAgg n q t l, .agg #[.int .i64 x, .int .i64 y]]) w2) :
    ∃ n9 : Int, w.cell? ⟨a, 0, none⟩ = some (.int .i64 n9) ∧ ∃ n10 : Int, w.cell? ⟨a, 1, none⟩ = some (.int .i64 n10) ∧ ∃ l11 : Sl, w.cell? ⟨a, 2, none⟩ = some (.slice l11.a l11.len l11.cap) ∧ ∃ l12 : Sl, w.cell? ⟨a, 3, none⟩ = some (.slice l12.a l12.len l12.cap) ∧
    MayN w ⟨b, 0, none⟩ 4 ∧ LetW (Den.puts w ⟨b, 0, none⟩ 0 [.int .i64 n9, .int .i64 n10, .slice l11.a l11.len l11.cap, .slice l12.a l12.len l12.cap]) fun w13 => MayN w13 ⟨c, 0, none⟩ 2 ∧ LetW (Den.puts w13 ⟨c, 0, none⟩ 0 [.int .i64 x, .int .i64 y]) fun w14 =>
      ∃ n15 : Int, w14.cell? ⟨b, 0, none⟩ = some (.int .i64 n15) ∧ ∃ n16 : Int, w14.cell? ⟨b, 1, none⟩ = some (.int .i64 n16) ∧ ∃ l17 : Sl, w14.cell? ⟨b, 2, none⟩ = some (.slice l17.a l17.len l17.cap) ∧ ∃ l18 : Sl, w14.cell? ⟨b, 3, none⟩ = some (.slice l18.a l18.len l18.cap) ∧ ∃ n19 : Int, w14.cell? ⟨c, 0, none⟩ = some (.int .i64 n19) ∧ ∃ n20 : Int, w14.cell? ⟨c, 1, none⟩ = some (.int .i64 n20) ∧
      K (.tuple #[.agg #[.int .i64 n15, .int .i64 n16, .slice l17.a l17.len l17.cap, .slice l18.a l18.len l18.cap], .agg #[.int .i64 n19, .int .i64 n20]]) w14 :=
  ⟨n, h.cell m ha rfl, q, h.cell m ha rfl, t, h.cell m ha rfl, l, h.cell m ha rfl, retR h i j hb hv hc hu hij hk⟩
theorem standF_at {d : DSched} {i : Nat} {x : DThread} {since : Int} (hx : d.Threads[i]? = some x) : standF d i since = ⟨d.Now, d.Seq + 1, d.Threads.set i (standT d since x), d.Locks⟩ := by unfold standF; rw [hx]
theorem s111 {w0 w : World} {F : List Asr} {t l : Sl} {d : DSched} {i : Nat} {x : DThread} {since : Int} (h : SH w0 w (RT t d.Threads :: RL l d.Locks :: F)) (hx : d.Threads[i]? = some x) (hq : 0 ≤ d.Seq ∧ d.Seq ≤ 4398046511104) (hf : d.Threads.length ≤ 1048576) :
    CallW Try.prog 111 #[sAgg d.Now d.Seq t l, .int .i64 (i : Int), .int .i64 since] w (KS w0 F (standF d i since)) := by
  refine go111 ?_
  unfold W111
  have hil := (List.getElem?_eq_some_iff.1 hx).1
  have htl := h.len 0 rfl
  rw [recs_len] at htl
  obtain ⟨q, hqa⟩ := h.rowQ 0 rfl hx
  simp only [Int.toNat_natCast]
  refine h.alloc (fun w1 h ew1 nw1 => ?_)
  refine h.alloc (fun w2 h ew2 nw2 => ?_)
  refine ⟨_, h.cell 1 rfl rfl, ?_⟩
  refine h.setV 1 rfl rfl (fun w4 h nw4 => ?_)
  refine ⟨t, h.cell 1 rfl rfl, by omega, by omega, q, hqa, ?_⟩
  refine ⟨_, h.rdR 2 rfl hqa hx rfl, _, h.rdR 2 rfl hqa hx rfl, _, h.rdR 2 rfl hqa hx rfl, _, h.rdR 2 rfl hqa hx rfl, _, h.rdR 2 rfl hqa hx rfl, _, h.rdR 2 rfl hqa hx rfl, _, h.rdR 2 rfl hqa hx rfl, _, h.rdR 2 rfl hqa hx rfl, ?_⟩
  refine h.alloc (fun w15 h ew15 nw15 => ?_)
  refine h.put 0 rfl rfl rfl (fun w16 h nw16 => ?_)
  refine ⟨t, h.cell 2 rfl rfl, _, h.cell 0 rfl rfl, _, h.cell 0 rfl rfl, _, h.cell 2 rfl rfl, by omega, by omega, q, hqa, ?_⟩
  refine h.putR 3 (standT d since x) rfl hqa hx rfl rfl (by rw [w64 (by omega) (by omega)]; rfl) (fun w22 h nw22 => ?_)
  refine ⟨_, h.cell 2 rfl rfl, _, h.cell 2 rfl rfl, t, h.cell 2 rfl rfl, l, h.cell 2 rfl rfl, ?_⟩
  refine h.put 1 rfl rfl rfl (fun w27 h nw27 => ?_)
  refine ⟨_, h.cell 1 rfl rfl, _, h.cell 1 rfl rfl, t, h.cell 1 rfl rfl, l, h.cell 1 rfl rfl, ?_⟩
  rw [standF_at hx]
  refine ⟨t, l, ?_, h.drop.drop.drop⟩
  rw [w64 (n := d.Seq + 1) (by omega) (by omega)]; rfl
end Go.Proofs.Yteigefjiifihpaa

/- The scheduler, the reference's side: a lock handed on. Conditions: none. -/
set_option linter.unusedVariables false
set_option linter.unusedSimpArgs false
namespace Go.Proofs.Yteigefjiifihpaa
open Go Go.Den
theorem idL_at {d : DSched} {id : Int} {k : DLock} (hm : ∀ k, k ∈ d.Locks → lckOf d k.Id = some k) (hk : k ∈ d.Locks) (hid : k.Id = id) : ∃ j : Nat, idL d id = (j : Int) ∧ d.Locks[j]? = some k := by
  rcases idL_find d id with ⟨h1, h2⟩ | ⟨j, x, h1, h2, h3⟩
  · have := hm k hk; rw [hid, h2] at this; cases this
  · have := hm k hk; rw [hid, h3] at this; cases this; exact ⟨j, h1, h2⟩
theorem s148 {w0 w : World} {F : List Asr} {t l : Sl} {d : DSched} {id : Int} {k : DLock} (h : SH w0 w (RT t d.Threads :: RL l d.Locks :: F)) (hm : Mid d) (hs : Srt DLock.Id d.Locks) (hk : k ∈ d.Locks) (hid : k.Id = id) (hq : 0 ≤ d.Seq ∧ d.Seq ≤ 4398046511104) (hf : d.Threads.length ≤ 1048576 ∧ d.Locks.length ≤ 1048576) :
    CallW Try.prog 148 #[sAgg d.Now d.Seq t l, .int .i64 id] w (KS w0 F (handF d id)) := by
  refine go148 ?_
  unfold W148
  have htl := h.len 0 rfl
  rw [recs_len] at htl
  have hll := h.len 1 rfl
  rw [recs_len] at hll
  have hlc := h.lenCap 1 rfl
  refine h.alloc (fun w1 h ew1 nw1 => ?_)
  refine h.alloc (fun w2 h ew2 nw2 => ?_)
  refine LoopW.m3 (fun (b m i : Int) w' => 0 ≤ i ∧ i ≤ t.len ∧ ((b = -1 ∧ m = -1) ∨ (0 ≤ b ∧ b < i ∧ 0 ≤ m)) ∧ firstL d (waitsFor id) (d.Threads.drop i.toNat) i.toNat b m = bestF d (waitsFor id) ∧ SH w0 w' (aB w1.heap.size ([.int .i64 0, .int .i64 0, .slice none 0 0, .slice none 0 0].map Ce.v) :: aB w.heap.size ((sCells d.Now d.Seq t l).map Ce.v) :: RT t d.Threads :: RL l d.Locks :: F)) (fun _ _ (i : Int) _ => (t.len - i).toNat) ⟨by omega, by omega, .inl ⟨rfl, rfl⟩, rfl, h⟩ ?_
  clear h
  rintro (b : Int) (m : Int) (i : Int) w7 ⟨hi0, hi1, hbm, hr, h⟩ J hJ
  obtain ⟨n, rfl⟩ := Int.eq_ofNat_of_zero_le hi0
  rw [Int.toNat_natCast] at hr ⊢
  refine ⟨t, h.cell 1 rfl rfl, BIf.dec (fun hlt => ?_) (fun hge => ?_)⟩
  · have hnl : n < d.Threads.length := by omega
    have hget : d.Threads[n]? = some d.Threads[n] := List.getElem?_eq_getElem hnl
    have hmem := List.getElem_mem hnl
    rw [List.drop_eq_getElem_cons hnl, firstL] at hr
    obtain ⟨q, hqa⟩ := h.rowQ 2 rfl hget
    generalize d.Threads[n] = x at *
    refine ⟨t, h.cell 1 rfl rfl, hi0, hlt, q, hqa, ?_⟩
    refine ⟨_, h.rdR 2 rfl hqa hget rfl, _, h.rdR 2 rfl hqa hget rfl, _, h.rdR 2 rfl hqa hget rfl, _, h.rdR 2 rfl hqa hget rfl, _, h.rdR 2 rfl hqa hget rfl, _, h.rdR 2 rfl hqa hget rfl, _, h.rdR 2 rfl hqa hget rfl, _, h.rdR 2 rfl hqa hget rfl, ?_⟩
    have h0 := h
    refine h.alloc (fun w19 h ew19 nw19 => ?_)
    refine h.put 0 rfl rfl rfl (fun w20 h nw20 => ?_)
    refine ⟨_, h.cell 0 rfl rfl, ?_⟩
    refine join_or_ex _ (h.cell 0 rfl rfl) ?_
    rw [w64 (n := (n : Int) + 1) (by omega) (by omega)]
    have hok : ((x.State != 2) || (x.Wait != id)) = !waitsFor id x := by unfold waitsFor; cases hh1 : (x.State == 2) <;> cases hh2 : (x.Wait == id) <;> simp [bne, hh1, hh2]
    rw [hok]
    refine BIf.of (fun hn => ?_) (fun hy => ?_)
    · rw [if_neg (by simpa using hn)] at hr
      exact hJ _ _ _ _ ⟨by omega, by omega, by omega, hr, h.drop⟩ (by omega)
    · rw [if_pos (by simpa using hy)] at hr
      refine ⟨_, h.cell 2 rfl rfl, _, h.cell 2 rfl rfl, t, h.cell 2 rfl rfl, l, h.cell 2 rfl rfl, _, h.cell 0 rfl rfl, ?_⟩
      refine (c155 (satOf h 3 4 rfl rfl hf) (hm.find x hmem) rfl hm.num).mono ?_
      rintro _ w31 ⟨rfl, e31⟩
      have h := (h.to e31).drew
      have hpr := prio_ge (hm.num x hmem)
      refine ⟨_, rfl, JoinW.cut1 (fun (c : Bool) w' => c = decide (prio d x > m ∨ (prio d x = m ∧ x.Line < lineAt d b)) ∧ w' = w31.drew) ?_ ?_⟩
      · refine BIf.dec (fun h1 => ⟨?_, rfl⟩) (fun h1 => BIf.eq (fun h2 => ?_) (fun h2 => ⟨?_, rfl⟩))
        · exact (decide_eq_true (.inl h1)).symm
        · have hbb : 0 ≤ b ∧ b < n := by omega
          have hbl : b.toNat < d.Threads.length := by omega
          have hgb : d.Threads[b.toNat]? = some d.Threads[b.toNat] := List.getElem?_eq_getElem hbl
          refine ⟨_, h.cell 0 rfl rfl, t, h.cell 2 rfl rfl, by omega, by omega, q, hqa, _, h.rdR 3 rfl hqa hgb rfl, ?_, rfl⟩
          have hla : lineAt d b = d.Threads[b.toNat].Line := by unfold lineAt; rw [hgb]
          rw [hla]
          apply decide_eq_decide.2
          exact ⟨fun h => .inr ⟨h2, h⟩, fun h => by rcases h with h | h; exact absurd h h1; exact h.2⟩
        · exact (decide_eq_false (by rintro (h | h); exact h1 h; exact h2 h.1)).symm
      · rintro (c : Bool) w5 ⟨hcc, rfl⟩
        refine BIf.of (fun hc1 => ?_) (fun hc1 => ?_)
        · rw [hc1] at hcc
          rw [if_pos (of_decide_eq_true hcc.symm)] at hr
          exact hJ _ _ _ _ ⟨by omega, by omega, .inr ⟨by omega, by omega, hpr⟩, hr, h.drop⟩ (by omega)
        · rw [hc1] at hcc
          rw [if_neg (of_decide_eq_false hcc.symm)] at hr
          exact hJ _ _ _ _ ⟨by omega, by omega, by omega, hr, h.drop⟩ (by omega)
  · rw [List.drop_eq_nil_of_le (by omega)] at hr
    have hr : b = bestF d (waitsFor id) := hr
    obtain ⟨j, hj, hjk⟩ := idL_at hm.findL hk hid
    have hjl := (List.getElem?_eq_some_iff.1 hjk).1
    refine ⟨_, h.cell 1 rfl rfl, _, h.cell 1 rfl rfl, t, h.cell 1 rfl rfl, l, h.cell 1 rfl rfl, (c121 (satOf h 2 3 rfl rfl hf)).mono ?_⟩
    rintro _ w46 ⟨rfl, e46⟩
    have h := (h.to e46).drew
    rw [hj]
    refine ⟨_, rfl, BIf.dec (fun hneg => ?_) (fun hpos => ?_)⟩
    · have hhand : handF d id = ⟨d.Now, d.Seq, d.Threads, d.Locks.take j ++ d.Locks.drop (j + 1)⟩ := by
        unfold handF
        rw [← hr, if_pos hneg, Srt.erase hs hjk, hid]
      simp only [Int.toNat_natCast]
      rw [w64 (n := (j : Int) + 1) (by omega) (by omega), show ((j : Int) + 1).toNat = j + 1 by omega]
      refine ⟨l, h.cell 1 rfl rfl, by omega, by omega, l, h.cell 1 rfl rfl, by omega, by omega, ?_⟩
      refine h.alloc (fun w50 h ew50 nw50 => ?_)
      refine ⟨⟨l, h.cell 2 rfl rfl, rfl⟩, ⟨l, h.cell 2 rfl rfl, rfl⟩, ?_⟩
      have hrow := h.rowR 4 rfl
      have h := h.drop.nil (some ⟨w46.drew.heap.size, 0, none⟩) 2
      refine SH.appendR (f := DLock.cells) (l := []) (us := d.Locks.take j) h (hrow.pre (fun _ => rfl) (by omega)) (by simp; omega) (fun _ => rfl) rfl rfl (by decide) (by show (_ + _) * 16 ≤ _; simp; omega) plain_lck (fun l53 w54 h hl53 _ => ?_)
      refine ⟨⟨l, h.cell 2 rfl rfl, rfl⟩, ?_⟩
      have hrow := h.rowR 4 rfl
      refine SH.appendR (f := DLock.cells) (us := d.Locks.drop (j + 1)) h (hrow.suf (fun _ => rfl) hll hlc (by omega)) (by simp; omega) (fun _ => rfl) rfl rfl (by decide) (by show (_ + _) * 16 ≤ _; simp; omega) plain_lck (fun l56 w57 h hl56 _ => ?_)
      refine h.setV 2 rfl rfl (fun w58 h nw58 => ?_)
      refine ⟨_, h.cell 2 rfl rfl, _, h.cell 2 rfl rfl, t, h.cell 2 rfl rfl, l56, h.cell 2 rfl rfl, ?_⟩
      refine h.put 1 rfl rfl rfl (fun w63 h nw63 => ?_)
      refine ⟨_, h.cell 1 rfl rfl, _, h.cell 1 rfl rfl, t, h.cell 1 rfl rfl, l56, h.cell 1 rfl rfl, ?_⟩
      rw [hhand]
      exact ⟨t, l56, rfl, (((h.front (n := 3) rfl).dropAt 2).dropAt 2).dropAt 2⟩
    · have hbl : b.toNat < d.Threads.length := by omega
      have hgb : d.Threads[b.toNat]? = some d.Threads[b.toNat] := List.getElem?_eq_getElem hbl
      obtain ⟨q, hqa⟩ := h.rowQ 2 rfl hgb
      obtain ⟨r, hra⟩ := h.rowQ 3 rfl hjk
      have hhand : handF d id = standF ⟨d.Now, d.Seq, d.Threads, d.Locks.set j ⟨id, d.Threads[b.toNat].Id⟩⟩ b.toNat d.Now := by
        unfold handF
        rw [← hr, if_neg hpos, hj, Int.toNat_natCast]
        simp only [hgb]
      generalize d.Threads[b.toNat] = x at *
      simp only [Int.toNat_natCast]
      refine ⟨l, h.cell 1 rfl rfl, t, h.cell 1 rfl rfl, by omega, by omega, q, hqa, _, h.rdR 2 rfl hqa hgb rfl, by omega, by omega, r, hra, ?_⟩
      rw [set_at hjk] at h
      refine h.setR 3 (⟨id, x.Id⟩ : DLock) rfl hra hjl (by show 1 < 2; omega) (by show [Value.int .i64 id, .int .i64 x.Id] = [Value.int .i64 k.Id, .int .i64 x.Id]; rw [hid]) (fun w73 h nw73 => ?_)
      refine ⟨_, h.cell 1 rfl rfl, _, h.cell 1 rfl rfl, t, h.cell 1 rfl rfl, l, h.cell 1 rfl rfl, _, h.cell 1 rfl rfl, ?_⟩
      obtain ⟨bn, rfl⟩ := Int.eq_ofNat_of_zero_le (show 0 ≤ b by omega)
      rw [Int.toNat_natCast] at hgb hhand
      have h2 : SH w0 w73 (RT t d.Threads :: RL l (d.Locks.set j ⟨id, x.Id⟩) :: aB w1.heap.size ([.int .i64 0, .int .i64 0, .slice none 0 0, .slice none 0 0].map Ce.v) :: aB w.heap.size ((sCells d.Now d.Seq t l).map Ce.v) :: F) := ((h.front (n := 3) rfl).front (n := 3) rfl)
      refine (s111 (d := ⟨d.Now, d.Seq, d.Threads, d.Locks.set j ⟨id, x.Id⟩⟩) h2 hgb hq hf.1).mono ?_
      rintro _ w80 ⟨t', l', rfl, h⟩
      refine ⟨_, _, t', l', rfl, ?_⟩
      refine h.put 2 rfl rfl rfl (fun w85 h nw85 => ?_)
      refine ⟨_, h.cell 2 rfl rfl, _, h.cell 2 rfl rfl, t', h.cell 2 rfl rfl, l', h.cell 2 rfl rfl, ?_⟩
      rw [hhand]
      refine ⟨t', l', rfl, ?_⟩
      exact (h.dropAt 2).dropAt 2
end Go.Proofs.Yteigefjiifihpaa

/- The scheduler, the reference's side: spawn, tick. Conditions: none. -/
set_option linter.unusedVariables false
set_option linter.unusedSimpArgs false
namespace Go.Proofs.Yteigefjiifihpaa
open Go Go.Den
theorem Srt.above {α : Type} {key : α → Int} {l : List α} (h : Srt key l) {i : Nat} {x : α} (hx : l[i]? = some x) : ∀ (n : Nat) (y : α), l[i + n]? = some y → key x + n ≤ key y
  | 0, y, hy => by rw [Nat.add_zero, hx] at hy; cases hy; omega
  | n + 1, y, hy => by
    have hl := (List.getElem?_eq_some_iff.1 hy).1
    have hg : l[i + n]? = some l[i + n] := List.getElem?_eq_getElem (by omega)
    have h1 := Srt.above h hx n _ hg
    have h2 := h.lt hg hy (by omega)
    omega
theorem gap_full {g : Int → Prop} {d : DSched} (h : Inv g d) : gapL d.Threads 0 = 32 ↔ d.Threads.length = 32 := by
  obtain ⟨g1, g2, g3⟩ := gap_spec h
  have hf := h.few.1
  refine ⟨fun h1 => by omega, fun h1 => ?_⟩
  refine Nat.le_antisymm (by omega) (Nat.le_of_not_lt fun hlt => ?_)
  have hg : d.Threads[gapL d.Threads 0]? = some d.Threads[gapL d.Threads 0] := List.getElem?_eq_getElem (by omega)
  have hl : d.Threads[gapL d.Threads 0 + (31 - gapL d.Threads 0)]? = some d.Threads[gapL d.Threads 0 + (31 - gapL d.Threads 0)] := List.getElem?_eq_getElem (by omega)
  have h2 := g3 _ _ (Nat.le_refl _) hg
  have h3 := h.ts.above hg _ _ hl
  have h4 := (h.tok _ (List.mem_of_getElem? hl)).id.2
  omega
theorem gap_idT {g : Int → Prop} {d : DSched} (h : Inv g d) {n : Nat} (hn : n ≤ gapL d.Threads 0) : 0 ≤ idT d (n : Int) ↔ n < gapL d.Threads 0 := by
  obtain ⟨g1, g2, g3⟩ := gap_spec h
  rw [idT_mem]
  constructor
  · rintro ⟨t, ht, he⟩
    obtain ⟨m, hm⟩ := List.getElem?_of_mem ht
    by_cases hmg : m < gapL d.Threads 0
    · have := g2 m t hmg hm; omega
    · have := g3 m t (by omega) hm; omega
  · intro hlt
    have hg : d.Threads[n]? = some d.Threads[n] := List.getElem?_eq_getElem (by omega)
    exact ⟨_, List.mem_of_getElem? hg, g2 n _ hlt hg⟩
def spawnR (d : DSched) (base : Int) : DSched × Int × Int := if base < 0 ∨ base > 7 then (d, 1, 0) else if d.Threads.length = 32 then (d, 18, 0) else (spawnF d base, 0, (gapL d.Threads 0 : Nat))
theorem s107 {w0 w : World} {F : List Asr} {t l : Sl} {d : DSched} {base : Int} (h : SH w0 w (RT t d.Threads :: RL l d.Locks :: F)) (hi : Inv0 d) (hq : d.Seq ≤ 4398046511104) :
    CallW Try.prog 107 #[sAgg d.Now d.Seq t l, .int .i64 base] w (KR w0 F (spawnR d base)) := by
  refine go107 ?_
  unfold W107
  have hf := hi.few
  have htl := h.len 0 rfl
  rw [recs_len] at htl
  have htc := h.lenCap 0 rfl
  refine h.alloc (fun w1 h ew1 nw1 => ?_)
  refine h.alloc (fun w2 h ew2 nw2 => ?_)
  refine h.alloc (fun w3 h ew3 nw3 => ?_)
  have h : SH w0 w3 (RT t d.Threads :: RL l d.Locks :: aB w2.heap.size (ZR.map Ce.v) :: aB w1.heap.size (ZS.map Ce.v) :: aB w.heap.size ((sCells d.Now d.Seq t l).map Ce.v) :: F) := (h.front (n := 4) rfl).front (n := 4) rfl
  simp only [join_or]
  refine BIf.of (fun hb => ?_) (fun hb => ?_)
  · simp only [Bool.or_eq_true, decide_eq_true_eq] at hb
    refine retS h 4 3 2 rfl rfl rfl rfl rfl (by simp) (fun w2 h => ?_)
    unfold spawnR
    rw [if_pos hb]
    exact ⟨t, l, rfl, ((h.dropAt 4).dropAt 3).dropAt 2⟩
  simp only [Bool.or_eq_false_iff, decide_eq_false_iff_not] at hb
  have hb' : ¬ (base < 0 ∨ base > 7) := by omega
  have hgf := gap_full hi
  obtain ⟨g1, _, _⟩ := gap_spec hi
  generalize w2.heap.size = rb at *
  generalize w1.heap.size = sb at *
  refine LoopW.m1 (fun (i : Int) w' => ∃ n : Nat, i = n ∧ n ≤ 32 ∧ n ≤ gapL d.Threads 0 ∧ SH w0 w' (RT t d.Threads :: RL l d.Locks :: aB rb (ZR.map Ce.v) :: aB sb (ZS.map Ce.v) :: aB w.heap.size ((sCells d.Now d.Seq t l).map Ce.v) :: F)) (fun (i : Int) _ => (32 - i).toNat) ⟨0, rfl, by omega, Nat.zero_le _, h⟩ ?_
  clear h
  rintro (i : Int) w21 ⟨n, rfl, hn32, hng, h⟩ J hJ
  refine JoinW.cut1 (fun (c : Bool) w' => c = decide (n < 32 ∧ n < gapL d.Threads 0) ∧ SH w0 w' (RT t d.Threads :: RL l d.Locks :: aB rb (ZR.map Ce.v) :: aB sb (ZS.map Ce.v) :: aB w.heap.size ((sCells d.Now d.Seq t l).map Ce.v) :: F)) ?_ ?_
  · refine BIf.dec (fun hlt => ?_) (fun hge => ⟨(decide_eq_false (by omega)).symm, h⟩)
    refine ⟨_, h.cell 4 rfl rfl, _, h.cell 4 rfl rfl, t, h.cell 4 rfl rfl, l, h.cell 4 rfl rfl, (c80 (satOf h 0 1 rfl rfl ⟨by omega, by omega⟩)).mono ?_⟩
    rintro _ w72 ⟨rfl, e⟩
    refine ⟨_, rfl, ?_, h.to e⟩
    rw [decide_eq_decide]
    have := gap_idT hi hng
    omega
  rintro (c : Bool) w24 ⟨rfl, h⟩
  refine BIf.dec (fun hc => ?_) (fun hc => ?_)
  · rw [w64 (by omega) (by omega)]
    exact hJ _ _ ⟨n + 1, by omega, by omega, by omega, h⟩ (by omega)
  refine BIf.eq (fun h32 => ?_) (fun h32 => ?_)
  · refine retS h 4 3 2 rfl rfl rfl rfl rfl (by simp) (fun w2 h => ?_)
    unfold spawnR
    rw [if_neg hb', if_pos (hgf.1 (by omega))]
    exact ⟨t, l, rfl, ((h.dropAt 4).dropAt 3).dropAt 2⟩
  have hlen : ¬ d.Threads.length = 32 := fun hh => by have := hgf.2 hh; omega
  have hres : spawnR d base = (spawnF d base, 0, ((gapL d.Threads 0 : Nat) : Int)) := by unfold spawnR; rw [if_neg hb', if_neg hlen]
  obtain rfl : n = gapL d.Threads 0 := by omega
  generalize hgn : gapL d.Threads 0 = n at *
  simp only [Int.toNat_natCast]
  refine h.alloc (fun w37 h ew37 nw37 => ?_)
  refine ⟨t, h.cell 5 rfl rfl, by omega, by omega, ?_⟩
  have hrow := h.rowR 1 rfl
  have h := h.drop.nil (some ⟨w24.heap.size, 0, none⟩) 8
  refine SH.appendR (f := DThread.cells) (l := []) (us := d.Threads.take n) h (hrow.pre (fun _ => rfl) (by omega)) (by simp; omega) (fun _ => rfl) rfl rfl (by decide) (by show (_ + _) * 64 ≤ _; simp; omega) plain_thr (fun l39 w40 h hl39 _ => ?_)
  refine LetW_iff.2 (SH.appendR1 (f := DThread.cells) (x := ⟨n, base, 0, 0, 0, 0, 0, 0⟩) h rfl rfl rfl (by decide) (by show _ * 64 ≤ _; simp; omega) (plain_thr _) (fun l42 w43 h hl42 _ => ?_))
  refine ⟨t, h.cell 5 rfl rfl, by omega, by omega, ?_⟩
  have hrow := h.rowR 1 rfl
  refine SH.appendR (f := DThread.cells) (us := d.Threads.drop n) h (hrow.suf (fun _ => rfl) htl htc (by omega)) (by simp; omega) (fun _ => rfl) rfl rfl (by decide) (by show (_ + _) * 64 ≤ _; simp; omega) plain_thr (fun l45 w46 h hl45 _ => ?_)
  refine h.setV 5 rfl rfl (fun w47 h nw47 => ?_)
  refine ⟨_, h.cell 5 rfl rfl, _, h.cell 5 rfl rfl, l45, h.cell 5 rfl rfl, l, h.cell 5 rfl rfl, _, h.cell 5 rfl rfl, ?_⟩
  have hix : ([] ++ d.Threads.take n ++ [(⟨n, base, 0, 0, 0, 0, 0, 0⟩ : DThread)] ++ d.Threads.drop n)[n]? = some ⟨n, base, 0, 0, 0, 0, 0, 0⟩ := by
    rw [List.nil_append, List.append_assoc, List.getElem?_append_right (by simp; omega)]
    simp [Nat.min_eq_left g1]
  refine (s111 (d := ⟨d.Now, d.Seq, [] ++ d.Threads.take n ++ [⟨n, base, 0, 0, 0, 0, 0, 0⟩] ++ d.Threads.drop n, d.Locks⟩) (h.dropAt 1) hix ⟨hi.now.2, hq⟩ (by simp; omega)).mono ?_
  rintro _ w54 ⟨t', l', rfl, h⟩
  refine ⟨_, _, t', l', rfl, ?_⟩
  refine retR h 3 2 rfl rfl rfl rfl (by simp) (fun w2 h => ?_)
  rw [hres]
  have hst : standF ⟨d.Now, d.Seq, [] ++ d.Threads.take n ++ [⟨n, base, 0, 0, 0, 0, 0, 0⟩] ++ d.Threads.drop n, d.Locks⟩ n d.Now = spawnF d base := by
    rw [standF_at hix]
    unfold spawnF
    rw [hgn]
    congr 1
    rw [List.nil_append, List.append_assoc, List.set_append_right _ _ (by rw [List.length_take]; omega)]
    simp [Nat.min_eq_left g1, standT]
  rw [hst] at h ⊢
  exact ⟨t', l', rfl, ((h.dropAt 4).dropAt 3).dropAt 2⟩
end Go.Proofs.Yteigefjiifihpaa

/- The scheduler, the reference's side: tick. Conditions: none. -/
set_option linter.unusedVariables false
set_option linter.unusedSimpArgs false
namespace Go.Proofs.Yteigefjiifihpaa
open Go Go.Den
/-- Who is picked, behind the sleepers' waking, without the clock. -/
def tickM (d1 : DSched) : DSched × Int :=
  if bestF d1 isReady < 0 then (d1, -1) else match d1.Threads[(bestF d1 isReady).toNat]? with
    | none => (d1, -1)
    | some t => (if t.Left - 1 = 0 then standF d1 (bestF d1 isReady).toNat (d1.Now + 1) else ⟨d1.Now, d1.Seq, d1.Threads.set (bestF d1 isReady).toNat ⟨t.Id, t.Base, t.State, t.Line, t.Left - 1, d1.Now + 1, t.Until, t.Wait⟩, d1.Locks⟩, t.Id)
def laterF (d : DSched) : DSched := ⟨d.Now + 1, d.Seq, d.Threads, d.Locks⟩
theorem tickF_M (d : DSched) : tickF d = (laterF (tickM (wakeF d 0 d.Threads.length)).1, (tickM (wakeF d 0 d.Threads.length)).2) := by
  unfold tickF tickM
  dsimp only
  generalize wakeF d 0 d.Threads.length = d1
  by_cases hb : bestF d1 isReady < 0
  · rw [if_pos hb, if_pos hb]; rfl
  · rw [if_neg hb, if_neg hb]
    rcases ht : d1.Threads[(bestF d1 isReady).toNat]? with _ | t
    · rfl
    · by_cases h0 : t.Left - 1 = 0
      · simp only [if_pos h0, standF, ht]
        rfl
      · simp only [if_neg h0]
        rfl
theorem wakeF_step (d : DSched) (i n : Nat) : wakeF d i (n + 1) = wakeF (match d.Threads[i]? with | some t => if t.State = 3 ∧ t.Until ≤ d.Now then standF d i d.Now else d | none => d) (i + 1) n := rfl
theorem pickS_best {d : DSched} (hm : Mid d) : (bestF d isReady = -1 ∧ pickS d = -1) ∨ ∃ (j : Nat) (x : DThread), d.Threads[j]? = some x ∧ bestF d isReady = (j : Int) ∧ pickS d = x.Id := by
  rcases bestF_cases hm isReady with ⟨h1, _⟩ | ⟨j, x, h1, h2, h3⟩
  · refine .inl ⟨h1, ?_⟩
    unfold pickS
    rw [bestI_pick, show bestI d = -1 from h1, if_pos (by omega)]
  · refine .inr ⟨j, x, h1, h3, ?_⟩
    unfold pickS
    rw [bestI_pick, show bestI d = (j : Int) from h3, if_neg (by omega), Int.toNat_natCast, h1]
theorem s108 {w0 w : World} {F : List Asr} {t l : Sl} {d : DSched} (h : SH w0 w (RT t d.Threads :: RL l d.Locks :: F)) (hi : Inv0 d) (hn : d.Now ≤ 1099511627776) (hq : d.Seq ≤ 2199023255552) :
    CallW Try.prog 108 #[sAgg d.Now d.Seq t l] w (KR w0 F ((tickF d).1, 0, (tickF d).2)) := by
  refine go108 ?_
  unfold W108
  have hf := hi.few
  have htl := h.len 0 rfl
  rw [recs_len] at htl
  have hnow := hi.now
  refine h.alloc (fun w1 h ew1 nw1 => ?_)
  refine h.alloc (fun w2 h ew2 nw2 => ?_)
  refine h.alloc (fun w3 h ew3 nw3 => ?_)
  have h : SH w0 w3 (RT t d.Threads :: RL l d.Locks :: aB w2.heap.size (ZR.map Ce.v) :: aB w1.heap.size (ZS.map Ce.v) :: aB w.heap.size ((sCells d.Now d.Seq t l).map Ce.v) :: F) := (h.front (n := 4) rfl).front (n := 4) rfl
  generalize w2.heap.size = rb at *
  generalize w1.heap.size = sb at *
  refine LoopW.m1 (fun (i : Int) w' => ∃ (n : Nat) (e : DSched) (t l : Sl), i = n ∧ n ≤ d.Threads.length ∧ wakeF e n (d.Threads.length - n) = wakeF d 0 d.Threads.length ∧ Inv0 e ∧ e.Now = d.Now ∧ e.Seq ≤ d.Seq + n ∧ e.Threads.length = d.Threads.length ∧ e.Locks.length = d.Locks.length ∧ SH w0 w' (RT t e.Threads :: RL l e.Locks :: aB rb (ZR.map Ce.v) :: aB sb (ZS.map Ce.v) :: aB w.heap.size ((sCells e.Now e.Seq t l).map Ce.v) :: F)) (fun (i : Int) _ => (d.Threads.length - i).toNat) ⟨0, d, t, l, rfl, Nat.zero_le _, rfl, hi, rfl, by omega, rfl, rfl, h⟩ ?_
  clear h
  rintro (i : Int) w6 ⟨n, e, t, l, rfl, hnl, hw, hie, hen, hes, hel, helk, h⟩ J hJ
  have htl := h.len 0 rfl
  rw [recs_len] at htl
  refine ⟨t, h.cell 4 rfl rfl, BIf.dec (fun hlt => ?_) (fun hge => ?_)⟩
  · have hk : n < e.Threads.length := by omega
    have hget : e.Threads[n]? = some e.Threads[n] := List.getElem?_eq_getElem hk
    rw [show d.Threads.length - n = (d.Threads.length - (n + 1)) + 1 by omega, wakeF_step, hget] at hw
    obtain ⟨q, hqa⟩ := h.rowQ 0 rfl hget
    generalize e.Threads[n] = x at *
    have h := h.drew
    simp only [Int.toNat_natCast]
    rw [w64 (n := (n : Int) + 1) (by omega) (by omega)]
    refine JoinW.cut1 (fun (c : Bool) w' => c = decide (x.State = 3 ∧ x.Until ≤ e.Now) ∧ SH w0 w' (RT t e.Threads :: RL l e.Locks :: aB rb (ZR.map Ce.v) :: aB sb (ZS.map Ce.v) :: aB w.heap.size ((sCells e.Now e.Seq t l).map Ce.v) :: F)) ?_ ?_
    · refine ⟨t, h.cell 4 rfl rfl, by omega, by omega, q, hqa, _, h.rdR 0 rfl hqa hget rfl, BIf.eq (fun h3 => ?_) (fun h3 => ⟨(decide_eq_false (by rintro ⟨hh, _⟩; exact h3 hh)).symm, h⟩)⟩
      refine ⟨t, h.cell 4 rfl rfl, by omega, by omega, q, hqa, _, h.rdR 0 rfl hqa hget rfl, _, h.cell 4 rfl rfl, ?_, h⟩
      rw [decide_eq_decide]
      exact ⟨fun hh => ⟨h3, hh⟩, fun hh => hh.2⟩
    rintro (c : Bool) w10 ⟨rfl, h⟩
    simp only at hw
    refine BIf.dec (fun hc => ?_) (fun hc => ?_)
    · rw [if_pos hc] at hw
      refine ⟨_, h.cell 4 rfl rfl, _, h.cell 4 rfl rfl, t, h.cell 4 rfl rfl, l, h.cell 4 rfl rfl, _, h.cell 4 rfl rfl, ?_⟩
      refine (s111 h hget ⟨hie.now.2, by omega⟩ (by omega)).mono ?_
      rintro _ w17 ⟨t', l', rfl, h⟩
      refine ⟨_, _, t', l', rfl, ?_⟩
      refine h.put 4 rfl rfl rfl (fun w22 h nw22 => ?_)
      obtain ⟨s1, s2, s3, s4, s5⟩ := standF_now e n e.Now
      exact hJ _ _ ⟨n + 1, _, t', l', by omega, by omega, hw, hie.stand hget, by omega, by omega, by omega, by rw [s4]; omega, h⟩ (by omega)
    · rw [if_neg hc] at hw
      exact hJ _ _ ⟨n + 1, _, t, l, by omega, by omega, hw, hie, hen, by omega, hel, helk, h⟩ (by omega)
  · have hwd : wakeF d 0 d.Threads.length = e := by rw [← hw, show d.Threads.length - n = 0 by omega]; rfl
    have htk := tickF_M d
    rw [hwd] at htk
    have hm := hie.mid (by omega)
    refine ⟨_, h.cell 4 rfl rfl, _, h.cell 4 rfl rfl, t, h.cell 4 rfl rfl, l, h.cell 4 rfl rfl, ?_⟩
    refine (c147 (satOf h 0 1 rfl rfl ⟨by omega, by omega⟩) hm.find hm.num).mono ?_
    rintro _ w35 ⟨rfl, e35⟩
    have h := h.to e35
    refine ⟨_, rfl, ?_⟩
    rw [htk]
    refine JoinW.cut0 (fun w' => ∃ t' l' : Sl, (tickM e).2 = pickS e ∧ (tickM e).1.Now = d.Now ∧ SH w0 w' (RT t' (tickM e).1.Threads :: RL l' (tickM e).1.Locks :: aB rb (ZR.map Ce.v) :: aB sb (ZS.map Ce.v) :: aB w.heap.size ((sCells (tickM e).1.Now (tickM e).1.Seq t' l').map Ce.v) :: F)) ?_ ?_
    · rcases pickS_best hm with ⟨p1, p2⟩ | ⟨j, x, p1, p2, p3⟩
      · have htm : tickM e = (e, -1) := by unfold tickM; rw [p1, if_pos (by omega)]
        rw [p2, htm]
        refine BIf.f rfl ⟨t, l, rfl, hen, h⟩
      · have hxm := List.mem_of_getElem? p1
        have hx0 := hm.id0 x hxm
        have hxl := (hie.tok x hxm).left
        have hjl := (List.getElem?_eq_some_iff.1 p1).1
        have hid : idT e x.Id = (j : Int) := hie.ts.idx p1
        rw [p3]
        refine BIf.t (decide_eq_true (by omega)) ?_
        refine ⟨_, h.cell 4 rfl rfl, _, h.cell 4 rfl rfl, t, h.cell 4 rfl rfl, l, h.cell 4 rfl rfl, (c80 (satOf h 0 1 rfl rfl ⟨by omega, by omega⟩)).mono ?_⟩
        rintro _ w58 ⟨rfl, e58⟩
        have h := (h.to e58).drew
        refine ⟨_, rfl, ?_⟩
        rw [hid]
        simp only [Int.toNat_natCast]
        obtain ⟨q, hqa⟩ := h.rowQ 0 rfl p1
        refine ⟨t, h.cell 4 rfl rfl, t, h.cell 4 rfl rfl, by omega, by omega, q, hqa, _, h.rdR 0 rfl hqa p1 rfl, by omega, by omega, q, hqa, ?_⟩
        rw [w64 (n := x.Left - 1) (by omega) (by omega)]
        have h' := h
        rw [set_at p1] at h
        refine h.setR 0 (⟨x.Id, x.Base, x.State, x.Line, x.Left - 1, x.Since, x.Until, x.Wait⟩ : DThread) rfl hqa hjl (by show 4 < 8; omega) rfl (fun w65 h nw65 => ?_)
        refine ⟨t, h.cell 4 rfl rfl, _, h.cell 4 rfl rfl, by omega, by omega, q, hqa, ?_⟩
        rw [w64 (n := e.Now + 1) (by omega) (by omega)]
        refine h.setR 0 (⟨x.Id, x.Base, x.State, x.Line, x.Left - 1, e.Now + 1, x.Until, x.Wait⟩ : DThread) rfl hqa hjl (by show 5 < 8; omega) rfl (fun w69 h nw69 => ?_)
        have hy : (e.Threads.set j ⟨x.Id, x.Base, x.State, x.Line, x.Left - 1, e.Now + 1, x.Until, x.Wait⟩)[j]? = some ⟨x.Id, x.Base, x.State, x.Line, x.Left - 1, e.Now + 1, x.Until, x.Wait⟩ := List.getElem?_set_self hjl
        have htm : tickM e = (if x.Left - 1 = 0 then standF e j (e.Now + 1) else ⟨e.Now, e.Seq, e.Threads.set j ⟨x.Id, x.Base, x.State, x.Line, x.Left - 1, e.Now + 1, x.Until, x.Wait⟩, e.Locks⟩, x.Id) := by
          unfold tickM
          rw [p2, if_neg (by omega), Int.toNat_natCast]
          simp only [p1]
        refine ⟨t, h.cell 4 rfl rfl, by omega, by omega, q, hqa, _, h.rdR 0 rfl hqa hy rfl, BIf.eq (fun h0 => ?_) (fun h0 => ?_)⟩
        · rw [if_pos h0] at htm
          refine ⟨_, h.cell 4 rfl rfl, _, h.cell 4 rfl rfl, t, h.cell 4 rfl rfl, l, h.cell 4 rfl rfl, _, h.cell 4 rfl rfl, ?_⟩
          rw [w64 (n := e.Now + 1) (by omega) (by omega)]
          refine (s111 (d := ⟨e.Now, e.Seq, e.Threads.set j ⟨x.Id, x.Base, x.State, x.Line, x.Left - 1, e.Now + 1, x.Until, x.Wait⟩, e.Locks⟩) h hy ⟨hie.now.2, by show e.Seq ≤ _; omega⟩ (by simp; omega)).mono ?_
          rintro _ w79 ⟨t', l', rfl, h⟩
          refine ⟨_, _, t', l', rfl, ?_⟩
          refine h.put 4 rfl rfl rfl (fun w84 h nw84 => ?_)
          have hst : standF ⟨e.Now, e.Seq, e.Threads.set j ⟨x.Id, x.Base, x.State, x.Line, x.Left - 1, e.Now + 1, x.Until, x.Wait⟩, e.Locks⟩ j (e.Now + 1) = standF e j (e.Now + 1) := by
            rw [standF_at hy, standF_at p1]
            simp [standT]
          rw [hst] at h
          rw [htm]
          exact ⟨t', l', rfl, by rw [(standF_now _ _ _).1]; exact hen, h⟩
        · rw [if_neg h0] at htm
          rw [htm]
          exact ⟨t, l, rfl, hen, h⟩
    · rintro w38 ⟨t', l', hp, hnw, h⟩
      rw [← hp]
      refine ⟨_, h.cell 4 rfl rfl, ?_⟩
      rw [w64 (n := (tickM e).1.Now + 1) (by omega) (by omega)]
      refine h.setV 4 rfl rfl (fun w40 h nw40 => ?_)
      refine retS h 4 3 2 rfl rfl rfl rfl rfl (by simp) (fun w2 h => ?_)
      exact ⟨t', l', rfl, ((h.dropAt 4).dropAt 3).dropAt 2⟩
end Go.Proofs.Yteigefjiifihpaa

/- The scheduler, the reference's side: a lock taken; exit. Conditions: none. -/
set_option linter.unusedVariables false
set_option linter.unusedSimpArgs false
namespace Go.Proofs.Yteigefjiifihpaa
open Go Go.Den
theorem filter_take_succ {α : Type} (p : α → Bool) {l : List α} {n : Nat} {x : α} (hx : l[n]? = some x) : (l.take (n + 1)).filter p = (l.take n).filter p ++ (if p x = true then [x] else []) := by
  rw [List.take_add_one, hx, List.filter_append]
  simp [List.filter_cons]
theorem lock_pre {d : DSched} {n : Int} (hs : Srt DLock.Id d.Locks) (hne : ∀ x, x ∈ d.Locks → x.Id ≠ n) : d.Locks.filter (fun k => decide (k.Id < n)) = d.Locks.take (lockPl d.Locks n 0) ∧ d.Locks.filter (fun k => decide (k.Id > n)) = d.Locks.drop (lockPl d.Locks n 0) := by
  obtain ⟨j, h1, h2, h3, h4⟩ := lockPl_spec d.Locks n 0 hs hne
  rw [Nat.zero_add] at h1
  rw [h1]
  have a1 : ∀ x, x ∈ d.Locks.take j → x.Id < n := fun x hx => by
    obtain ⟨m, hm⟩ := List.getElem?_of_mem hx
    have hml := (List.getElem?_eq_some_iff.1 hm).1
    rw [List.length_take] at hml
    rw [List.getElem?_take_of_lt (by omega)] at hm
    exact h3 m x (by omega) hm
  have a2 : ∀ x, x ∈ d.Locks.drop j → n < x.Id := fun x hx => by
    obtain ⟨m, hm⟩ := List.getElem?_of_mem hx
    rw [List.getElem?_drop] at hm
    exact h4 _ x (by omega) hm
  have hsplit : d.Locks = d.Locks.take j ++ d.Locks.drop j := (List.take_append_drop j _).symm
  constructor
  · have := congrArg (List.filter (fun k : DLock => decide (k.Id < n))) hsplit
    rw [this, List.filter_append, List.filter_eq_self.2 (fun x hx => decide_eq_true (a1 x hx)), List.filter_eq_nil_iff.2 (fun x hx => by have := a2 x hx; simp; omega), List.append_nil]
  · have := congrArg (List.filter (fun k : DLock => decide (k.Id > n))) hsplit
    rw [this, List.filter_append, List.filter_eq_nil_iff.2 (fun x hx => by have := a1 x hx; simp; omega), List.filter_eq_self.2 (fun x hx => decide_eq_true (a2 x hx)), List.nil_append]
theorem s149 {w0 w : World} {F : List Asr} {t l : Sl} {d : DSched} {i : Nat} {x : DThread} {n : Int} (h : SH w0 w (RT t d.Threads :: RL l d.Locks :: F)) (hi : Inv0 d) (hx : d.Threads[i]? = some x) :
    CallW Try.prog 149 #[sAgg d.Now d.Seq t l, .int .i64 (i : Int), .int .i64 n] w (KR w0 F (lockF d i x n)) := by
  refine go149 ?_
  unfold W149
  have hf := hi.few
  have hil := (List.getElem?_eq_some_iff.1 hx).1
  have htl := h.len 0 rfl
  rw [recs_len] at htl
  have hll := h.len 1 rfl
  rw [recs_len] at hll
  obtain ⟨q, hqa⟩ := h.rowQ 0 rfl hx
  refine h.alloc (fun w1 h ew1 nw1 => ?_)
  refine h.alloc (fun w2 h ew2 nw2 => ?_)
  refine h.alloc (fun w3 h ew3 nw3 => ?_)
  have h : SH w0 w3 (RT t d.Threads :: RL l d.Locks :: aB w2.heap.size (ZR.map Ce.v) :: aB w1.heap.size (ZS.map Ce.v) :: aB w.heap.size ((sCells d.Now d.Seq t l).map Ce.v) :: F) := (h.front (n := 4) rfl).front (n := 4) rfl
  generalize w2.heap.size = rb at *
  generalize w1.heap.size = sb at *
  refine ⟨_, h.cell 4 rfl rfl, _, h.cell 4 rfl rfl, t, h.cell 4 rfl rfl, l, h.cell 4 rfl rfl, (c121 (satOf h 0 1 rfl rfl ⟨by omega, by omega⟩)).mono ?_⟩
  rintro _ w9 ⟨rfl, e9⟩
  have h := h.to e9
  simp only [Int.toNat_natCast]
  refine ⟨_, rfl, t, h.cell 4 rfl rfl, by omega, by omega, q, hqa, _, h.rdR 0 rfl hqa hx rfl, ?_⟩
  refine BIf.dec (fun hneg => ?_) (fun hpos => ?_)
  · have hno : lckOf d n = none := by
      rcases idL_find d n with ⟨_, h2⟩ | ⟨j, y, h1, _, _⟩
      · exact h2
      · omega
    have hres : lockF d i x n = (⟨d.Now, d.Seq, d.Threads, d.Locks.filter (fun k => decide (k.Id < n)) ++ [⟨n, x.Id⟩] ++ d.Locks.filter (fun k => decide (k.Id > n))⟩, 0, 0) := by
      unfold lockF
      obtain ⟨l1, l2⟩ := lock_pre hi.ls (lckOf_none hno)
      rw [hno, l1, l2]
      simp
    refine h.alloc (fun w14 h ew14 nw14 => ?_)
    have h : SH w0 w14 (RL ⟨some ⟨w9.heap.size, 0, none⟩, 0, 0⟩ ((d.Locks.take 0).filter (fun k => decide (k.Id < n))) :: RT t d.Threads :: RL l d.Locks :: aB rb (ZR.map Ce.v) :: aB sb (ZS.map Ce.v) :: aB w.heap.size ((sCells d.Now d.Seq t l).map Ce.v) :: F) := h.drop.nil _ 2
    refine LoopW.m2 (fun (s : Sl) (i : Int) w' => ∃ m : Nat, i = m ∧ m ≤ d.Locks.length ∧ SH w0 w' (RL s ((d.Locks.take m).filter (fun k => decide (k.Id < n))) :: RT t d.Threads :: RL l d.Locks :: aB rb (ZR.map Ce.v) :: aB sb (ZS.map Ce.v) :: aB w.heap.size ((sCells d.Now d.Seq t l).map Ce.v) :: F)) (fun _ (i : Int) _ => (d.Locks.length - i).toNat) ⟨0, rfl, by omega, h⟩ ?_
    clear h
    rintro (s : Sl) (i : Int) w18 ⟨m, rfl, hm, h⟩ J hJ
    refine ⟨l, h.cell 5 rfl rfl, BIf.dec (fun hlt => ?_) (fun hge => ?_)⟩
    · have hml : m < d.Locks.length := by omega
      have hget : d.Locks[m]? = some d.Locks[m] := List.getElem?_eq_getElem hml
      obtain ⟨r, hra⟩ := h.rowQ 2 rfl hget
      have hfs := filter_take_succ (fun k : DLock => decide (k.Id < n)) hget
      generalize d.Locks[m] = y at *
      simp only [Int.toNat_natCast]
      rw [w64 (n := (m : Int) + 1) (by omega) (by omega)]
      refine ⟨l, h.cell 5 rfl rfl, by omega, by omega, r, hra, _, h.rdR 2 rfl hra hget rfl, BIf.dec (fun hc => ?_) (fun hc => ?_)⟩
      · refine ⟨l, h.cell 5 rfl rfl, by omega, by omega, r, hra, _, h.rdR 2 rfl hra hget rfl, _, h.rdR 2 rfl hra hget rfl, ?_⟩
        have hlen := List.length_filter_le (fun k : DLock => decide (k.Id < n)) (d.Locks.take m)
        rw [List.length_take] at hlen
        refine LetW_iff.2 (SH.appendR1 (f := DLock.cells) (x := y) h rfl rfl rfl (by decide) (by show _ * 16 ≤ _; omega) (plain_lck _) (fun l28 w29 h hl28 _ => ?_))
        rw [if_pos (decide_eq_true hc)] at hfs
        exact hJ _ _ _ ⟨m + 1, by omega, by omega, by rw [hfs]; exact h⟩ (by omega)
      · rw [if_neg (by simpa using hc), List.append_nil] at hfs
        exact hJ _ _ _ ⟨m + 1, by omega, by omega, by rw [hfs]; exact h⟩ (by omega)
    · rw [show m = d.Locks.length by omega, List.take_length] at h
      have hlen := List.length_filter_le (fun k : DLock => decide (k.Id < n)) d.Locks
      refine LetW_iff.2 (SH.appendR1 (f := DLock.cells) (x := ⟨n, x.Id⟩) h rfl rfl rfl (by decide) (by show _ * 16 ≤ _; omega) (plain_lck _) (fun l31 w32 h hl31 _ => ?_))
      have h : SH w0 w32 (RL l31 (d.Locks.filter (fun k => decide (k.Id < n)) ++ [⟨n, x.Id⟩] ++ (d.Locks.take 0).filter (fun k => decide (k.Id > n))) :: RT t d.Threads :: RL l d.Locks :: aB rb (ZR.map Ce.v) :: aB sb (ZS.map Ce.v) :: aB w.heap.size ((sCells d.Now d.Seq t l).map Ce.v) :: F) := by
        simpa using h
      clear hJ J
      refine LoopW.m2 (fun (s : Sl) (i : Int) w' => ∃ m : Nat, i = m ∧ m ≤ d.Locks.length ∧ SH w0 w' (RL s (d.Locks.filter (fun k => decide (k.Id < n)) ++ [⟨n, x.Id⟩] ++ (d.Locks.take m).filter (fun k => decide (k.Id > n))) :: RT t d.Threads :: RL l d.Locks :: aB rb (ZR.map Ce.v) :: aB sb (ZS.map Ce.v) :: aB w.heap.size ((sCells d.Now d.Seq t l).map Ce.v) :: F)) (fun _ (i : Int) _ => (d.Locks.length - i).toNat) ⟨0, rfl, by omega, h⟩ ?_
      clear h
      rintro (s : Sl) (i : Int) w36 ⟨m, rfl, hm, h⟩ J hJ
      refine ⟨l, h.cell 5 rfl rfl, BIf.dec (fun hlt => ?_) (fun hge => ?_)⟩
      · have hml : m < d.Locks.length := by omega
        have hget : d.Locks[m]? = some d.Locks[m] := List.getElem?_eq_getElem hml
        obtain ⟨r, hra⟩ := h.rowQ 2 rfl hget
        have hfs := filter_take_succ (fun k : DLock => decide (k.Id > n)) hget
        generalize d.Locks[m] = y at *
        simp only [Int.toNat_natCast]
        rw [w64 (n := (m : Int) + 1) (by omega) (by omega)]
        refine ⟨l, h.cell 5 rfl rfl, by omega, by omega, r, hra, _, h.rdR 2 rfl hra hget rfl, BIf.dec (fun hc => ?_) (fun hc => ?_)⟩
        · refine ⟨l, h.cell 5 rfl rfl, by omega, by omega, r, hra, _, h.rdR 2 rfl hra hget rfl, _, h.rdR 2 rfl hra hget rfl, ?_⟩
          have hlen2 := List.length_filter_le (fun k : DLock => decide (k.Id > n)) (d.Locks.take m)
          rw [List.length_take] at hlen2
          refine LetW_iff.2 (SH.appendR1 (f := DLock.cells) (x := y) h rfl rfl rfl (by decide) (by show _ * 16 ≤ _; simp only [List.length_append, List.length_cons, List.length_nil]; omega) (plain_lck _) (fun l28 w29 h hl28 _ => ?_))
          rw [if_pos (decide_eq_true hc)] at hfs
          exact hJ _ _ _ ⟨m + 1, by omega, by omega, by rw [hfs, ← List.append_assoc]; exact h⟩ (by omega)
        · rw [if_neg (by simpa using hc), List.append_nil] at hfs
          exact hJ _ _ _ ⟨m + 1, by omega, by omega, by rw [hfs]; exact h⟩ (by omega)
      · rw [show m = d.Locks.length by omega, List.take_length] at h
        refine h.setV 5 rfl rfl (fun w48 h nw48 => ?_)
        refine retS h 5 4 3 rfl rfl rfl rfl rfl (by simp) (fun w2 h => ?_)
        rw [hres]
        exact ⟨t, s, rfl, (((((h.dropAt 5).dropAt 4).dropAt 3).dropAt 2).front (n := 1) rfl)⟩
  · rcases idL_find d n with ⟨h1, _⟩ | ⟨j, y, h1, h2, h3⟩
    · omega
    have hjl := (List.getElem?_eq_some_iff.1 h2).1
    obtain ⟨r, hra⟩ := h.rowQ 1 rfl h2
    rw [h1]
    simp only [Int.toNat_natCast]
    refine ⟨l, h.cell 4 rfl rfl, by omega, by omega, r, hra, _, h.rdR 1 rfl hra h2 rfl, BIf.eq (fun ho => ?_) (fun ho => ?_)⟩
    · refine retS h 4 3 2 rfl rfl rfl rfl rfl (by simp) (fun w2 h => ?_)
      have hres : lockF d i x n = (d, 4, 0) := by unfold lockF; rw [h3]; simp only; rw [if_pos ho]
      rw [hres]
      exact ⟨t, l, rfl, ((h.dropAt 4).dropAt 3).dropAt 2⟩
    have h := h.drew
    refine ⟨_, h.cell 4 rfl rfl, _, h.cell 4 rfl rfl, t, h.cell 4 rfl rfl, l, h.cell 4 rfl rfl, l, h.cell 4 rfl rfl, by omega, by omega, r, hra, _, h.rdR 1 rfl hra h2 rfl, ?_⟩
    refine (c82 (satOf h 0 1 rfl rfl ⟨by omega, by omega⟩)).mono ?_
    rintro _ w84 ⟨rfl, e84⟩
    have h := h.to e84
    refine ⟨_, rfl, BIf.of (fun hw => ?_) (fun hw => ?_)⟩
    · refine retS h 4 3 2 rfl rfl rfl rfl rfl (by simp) (fun w2 h => ?_)
      have hres : lockF d i x n = (d, 17, 0) := by unfold lockF; rw [h3]; simp only; rw [if_neg ho, if_pos hw]
      rw [hres]
      exact ⟨t, l, rfl, ((h.dropAt 4).dropAt 3).dropAt 2⟩
    · have hres : lockF d i x n = (⟨d.Now, d.Seq, d.Threads.set i ⟨x.Id, x.Base, 2, x.Line, x.Left, x.Since, x.Until, n⟩, d.Locks⟩, 0, 1) := by unfold lockF; rw [h3]; simp only; rw [if_neg ho, if_neg (by rw [hw]; simp)]
      refine ⟨t, h.cell 4 rfl rfl, by omega, by omega, q, hqa, ?_⟩
      rw [set_at hx] at h
      refine h.setR 0 (⟨x.Id, x.Base, 2, x.Line, x.Left, x.Since, x.Until, x.Wait⟩ : DThread) rfl hqa hil (by show 2 < 8; omega) rfl (fun w65 h nw65 => ?_)
      refine ⟨t, h.cell 4 rfl rfl, by omega, by omega, q, hqa, ?_⟩
      refine h.setR 0 (⟨x.Id, x.Base, 2, x.Line, x.Left, x.Since, x.Until, n⟩ : DThread) rfl hqa hil (by show 7 < 8; omega) rfl (fun w69 h nw69 => ?_)
      refine retS h 4 3 2 rfl rfl rfl rfl rfl (by simp) (fun w2 h => ?_)
      rw [hres]
      exact ⟨t, l, rfl, ((h.dropAt 4).dropAt 3).dropAt 2⟩
/-! ## Exit -/
theorem filt_step {l : List DLock} (hs : Srt DLock.Id l) (k : Int) : (∃ x, x ∈ l ∧ x.Id = k ∧ l.filter (fun y => decide (k ≤ y.Id)) = x :: l.filter (fun y => decide (k + 1 ≤ y.Id))) ∨ ((∀ x, x ∈ l → x.Id ≠ k) ∧ l.filter (fun y => decide (k ≤ y.Id)) = l.filter (fun y => decide (k + 1 ≤ y.Id))) := by
  induction l with
  | nil => exact .inr ⟨(fun x hx => by cases hx), rfl⟩
  | cons a r ih =>
    obtain ⟨h1, h2⟩ := List.pairwise_cons.1 hs
    rcases Int.lt_trichotomy a.Id k with hlt | heq | hgt
    · rw [List.filter_cons_of_neg (by simp; omega), List.filter_cons_of_neg (by simp; omega)]
      rcases ih h2 with ⟨x, hx, he, hf⟩ | ⟨hn, hf⟩
      · exact .inl ⟨x, by simp [hx], he, hf⟩
      · refine .inr ⟨fun x hx => ?_, hf⟩
        rcases List.mem_cons.1 hx with rfl | hx
        · omega
        · exact hn x hx
    · refine .inl ⟨a, by simp, heq, ?_⟩
      rw [List.filter_cons_of_pos (by simp; omega), List.filter_cons_of_neg (by simp; omega)]
      congr 1
      apply List.filter_congr
      intro x hx
      have := h1 x hx
      rw [decide_eq_decide]; omega
    · refine .inr ⟨fun x hx => ?_, ?_⟩
      · rcases List.mem_cons.1 hx with rfl | hx
        · omega
        · have := h1 x hx; omega
      · apply List.filter_congr
        intro x hx
        rw [decide_eq_decide]
        rcases List.mem_cons.1 hx with rfl | hx
        · omega
        · have := h1 x hx; omega
theorem s109 {w0 w : World} {F : List Asr} {t l : Sl} {d : DSched} {i : Nat} {x : DThread} (h : SH w0 w (RT t d.Threads :: RL l d.Locks :: F)) (hi : Inv0 d) (hn : d.Now ≤ 1099511627776) (hq : d.Seq ≤ 2199023255552) (hx : d.Threads[i]? = some x) :
    CallW Try.prog 109 #[sAgg d.Now d.Seq t l, .int .i64 (i : Int)] w (KS w0 F (exitF d x.Id)) := by
  refine go109 ?_
  unfold W109
  have hf := hi.few
  have hil := (List.getElem?_eq_some_iff.1 hx).1
  have htl := h.len 0 rfl
  rw [recs_len] at htl
  have htc := h.lenCap 0 rfl
  obtain ⟨q, hqa⟩ := h.rowQ 0 rfl hx
  refine h.alloc (fun w1 h ew1 nw1 => ?_)
  refine h.alloc (fun w2 h ew2 nw2 => ?_)
  have h : SH w0 w2 (RT t d.Threads :: RL l d.Locks :: aB w1.heap.size (ZS.map Ce.v) :: aB w.heap.size ((sCells d.Now d.Seq t l).map Ce.v) :: F) := (h.front (n := 3) rfl).front (n := 3) rfl
  generalize w1.heap.size = sb at *
  simp only [Int.toNat_natCast]
  rw [w64 (n := (i : Int) + 1) (by omega) (by omega), show ((i : Int) + 1).toNat = i + 1 by omega]
  refine ⟨t, h.cell 3 rfl rfl, by omega, by omega, q, hqa, _, h.rdR 0 rfl hqa hx rfl, ?_⟩
  have h := h.drew
  refine ⟨t, h.cell 3 rfl rfl, by omega, by omega, t, h.cell 3 rfl rfl, by omega, by omega, ?_⟩
  refine h.alloc (fun w8 h ew8 nw8 => ?_)
  refine ⟨⟨t, h.cell 4 rfl rfl, rfl⟩, ⟨t, h.cell 4 rfl rfl, rfl⟩, ?_⟩
  have hrow := h.rowR 1 rfl
  have h := h.drop.nil (some ⟨w2.drew.heap.size, 0, none⟩) 8
  refine SH.appendR (f := DThread.cells) (l := []) (us := d.Threads.take i) h (hrow.pre (fun _ => rfl) (by omega)) (by simp; omega) (fun _ => rfl) rfl rfl (by decide) (by show (_ + _) * 64 ≤ _; simp; omega) plain_thr (fun l11 w12 h hl11 _ => ?_)
  refine ⟨⟨t, h.cell 4 rfl rfl, rfl⟩, ?_⟩
  have hrow := h.rowR 1 rfl
  refine SH.appendR (f := DThread.cells) (us := d.Threads.drop (i + 1)) h (hrow.suf (fun _ => rfl) htl htc (by omega)) (by simp; omega) (fun _ => rfl) rfl rfl (by decide) (by show (_ + _) * 64 ≤ _; simp; omega) plain_thr (fun l14 w15 h hl14 _ => ?_)
  refine h.setV 4 rfl rfl (fun w16 h nw16 => ?_)
  have h : SH w0 w16 (RT l14 (d.Threads.take i ++ d.Threads.drop (i + 1)) :: RL l d.Locks :: aB sb (ZS.map Ce.v) :: aB w.heap.size ((sCells d.Now d.Seq l14 l).map Ce.v) :: F) := h.dropAt 1
  rw [hi.ts.erase hx] at h
  have hg0 := hi.gone x.Id
  refine LoopW.m1 (fun (a : Int) w' => ∃ (k : Nat) (e : DSched) (t l : Sl), a = k ∧ k ≤ 16 ∧ exitL x.Id (d.Locks.filter (fun y => decide ((k : Int) ≤ y.Id))) e = exitF d x.Id ∧ Inv (fun o => o = x.Id) e ∧ e.Now = d.Now ∧ e.Seq ≤ d.Seq + k ∧ (∀ u, u ∈ e.Threads → u.Id ≠ x.Id) ∧ (∀ y, y ∈ d.Locks.filter (fun y => decide ((k : Int) ≤ y.Id)) → y ∈ e.Locks) ∧ (∀ y, y ∈ e.Locks → y.Owner = x.Id → y ∈ d.Locks.filter (fun y => decide ((k : Int) ≤ y.Id))) ∧
      SH w0 w' (RT t e.Threads :: RL l e.Locks :: aB sb (ZS.map Ce.v) :: aB w.heap.size ((sCells e.Now e.Seq t l).map Ce.v) :: F)) (fun (i : Int) _ => (16 - i).toNat) ⟨0, _, l14, l, rfl, by omega, ?_, hg0, rfl, Int.le_of_eq (by simp), ?_, ?_, ?_, h⟩ ?_
  · rw [List.filter_eq_self.2 (fun y hy => decide_eq_true (by have := (hi.lok y hy).1; omega))]; rfl
  · intro u hu he; have := (List.mem_filter.1 hu).2; simp [he] at this
  · intro y hy; exact (List.mem_filter.1 hy).1
  · intro y hy _; exact List.mem_filter.2 ⟨hy, decide_eq_true (by have := (hi.lok y hy).1; omega)⟩
  clear h
  rintro (a : Int) w19 ⟨k, e, t, l, rfl, hk16, hex, hie, hen, hes, hgo, hsub, hown, h⟩ J hJ
  have hef := hie.few
  have hm := hie.mid (by omega)
  refine BIf.dec (fun hlt => ?_) (fun hge => ?_)
  · rw [w64 (n := (k : Int) + 1) (by omega) (by omega)]
    refine ⟨_, h.cell 3 rfl rfl, _, h.cell 3 rfl rfl, t, h.cell 3 rfl rfl, l, h.cell 3 rfl rfl, (c121 (satOf h 0 1 rfl rfl ⟨by omega, by omega⟩)).mono ?_⟩
    rintro _ w25 ⟨rfl, e25⟩
    have h := h.to e25
    refine ⟨_, rfl, ?_⟩
    refine JoinW.cut1 (fun (c : Bool) w' => (c = true ↔ ∃ y, y ∈ e.Locks ∧ y.Id = k ∧ y.Owner = x.Id) ∧ SH w0 w' (RT t e.Threads :: RL l e.Locks :: aB sb (ZS.map Ce.v) :: aB w.heap.size ((sCells e.Now e.Seq t l).map Ce.v) :: F)) ?_ ?_
    · rcases idL_find e (k : Int) with ⟨h1, h2⟩ | ⟨j, y, h1, h2, h3⟩
      · rw [h1]
        refine BIf.f rfl ⟨⟨(fun h => by cases h), ?_⟩, h⟩
        rintro ⟨y, hy, hyk, _⟩
        exact absurd hyk (lckOf_none h2 y hy)
      · rw [h1]
        obtain ⟨hym, hyk⟩ := lckOf_some h3
        have hjl := (List.getElem?_eq_some_iff.1 h2).1
        have hll := h.len 1 rfl
        rw [recs_len] at hll
        obtain ⟨r, hra⟩ := h.rowQ 1 rfl h2
        simp only [Int.toNat_natCast]
        refine BIf.t (decide_eq_true (by omega)) ⟨l, h.cell 3 rfl rfl, by omega, by omega, r, hra, _, h.rdR 1 rfl hra h2 rfl, ⟨fun hh => ⟨y, hym, hyk, by simpa using hh⟩, ?_⟩, h⟩
        rintro ⟨z, hz, hzk, hzo⟩
        rw [hie.ls.uniq hz hym (by omega)] at hzo
        simpa using hzo
    · rintro (c : Bool) w29 ⟨hc, h⟩
      refine BIf.of (fun hct => ?_) (fun hcf => ?_)
      · obtain ⟨y, hy, hyk, hyo⟩ := hc.1 hct
        rcases filt_step hi.ls (k : Int) with ⟨z, hz, hzk, hfs⟩ | ⟨hno, hfs⟩
        · have hze : z ∈ e.Locks := hsub z (by rw [hfs]; simp)
          obtain rfl : z = y := hie.ls.uniq hze hy (by omega)
          rw [hfs] at hex hown hsub
          unfold exitL at hex
          rw [if_pos hyo, hyk] at hex
          refine ⟨_, h.cell 3 rfl rfl, _, h.cell 3 rfl rfl, t, h.cell 3 rfl rfl, l, h.cell 3 rfl rfl, ?_⟩
          refine (s148 h hm hie.ls hy hyk ⟨hie.now.2, by omega⟩ ⟨by omega, by omega⟩).mono ?_
          rintro _ w35 ⟨t', l', rfl, h⟩
          refine ⟨_, _, t', l', rfl, ?_⟩
          refine h.put 3 rfl rfl rfl (fun w40 h nw40 => ?_)
          obtain ⟨l1, l2, l3⟩ := hand_locks hie (by omega) hy
          have hnw := handF_now e z.Id
          have hhd := hie.hand (by omega) hy
          rw [hyk] at l1 l2 l3 hnw hhd
          refine hJ _ _ ⟨k + 1, _, t', l', by omega, by omega, hex, hhd, by omega, by omega, fun u hu he => ?_, fun v hv => ?_, fun v hv hvo => ?_, h⟩ (by omega)
          · obtain ⟨u', hu', hue⟩ := (l3 u.Id).1 ⟨u, hu, rfl⟩
            exact hgo u' hu' (by omega)
          · have h5 := (List.mem_filter.1 hv).2
            simp only [decide_eq_true_eq] at h5
            exact l2 v (hsub v (by simp only [List.mem_cons]; exact .inr hv)) (by omega)
          · rcases l1 v hv with ⟨h5, h6⟩ | ⟨h5, u, hu, hue⟩
            · rcases List.mem_cons.1 (hown v h5 hvo) with rfl | h7
              · exact absurd hyk h6
              · exact h7
            · exact absurd (hue.trans hvo) (hgo u hu)
        · have := hown y hy hyo
          have h5 := (List.mem_filter.1 this).1
          exact absurd hyk (hno y h5)
      · have hno : ∀ y, y ∈ e.Locks → y.Id = k → y.Owner ≠ x.Id := fun y hy hyk hyo => by rw [hc.2 ⟨y, hy, hyk, hyo⟩] at hcf; cases hcf
        rcases filt_step hi.ls (k : Int) with ⟨z, hz, hzk, hfs⟩ | ⟨_, hfs⟩
        · have hze : z ∈ e.Locks := hsub z (by rw [hfs]; simp)
          have hzo := hno z hze hzk
          rw [hfs] at hex hown hsub
          unfold exitL at hex
          rw [if_neg hzo] at hex
          refine hJ _ _ ⟨k + 1, e, t, l, by omega, by omega, hex, hie, hen, by omega, hgo, fun v hv => hsub v (by simp only [List.mem_cons]; exact .inr hv), fun v hv hvo => ?_, h⟩ (by omega)
          rcases List.mem_cons.1 (hown v hv hvo) with rfl | h7
          · exact absurd hvo hzo
          · exact h7
        · rw [hfs] at hex hown hsub
          exact hJ _ _ ⟨k + 1, e, t, l, by omega, by omega, hex, hie, hen, by omega, hgo, hsub, hown, h⟩ (by omega)
  · have hnil : d.Locks.filter (fun y => decide ((k : Int) ≤ y.Id)) = [] := List.filter_eq_nil_iff.2 (fun y hy => by have := (hi.lok y hy).2; simp; omega)
    rw [hnil] at hex
    have hex : e = exitF d x.Id := hex
    refine ⟨_, h.cell 3 rfl rfl, _, h.cell 3 rfl rfl, t, h.cell 3 rfl rfl, l, h.cell 3 rfl rfl, ?_⟩
    refine h.put 2 rfl rfl rfl (fun w48 h nw48 => ?_)
    refine ⟨_, h.cell 2 rfl rfl, _, h.cell 2 rfl rfl, t, h.cell 2 rfl rfl, l, h.cell 2 rfl rfl, ?_⟩
    rw [← hex]
    exact ⟨t, l, rfl, (h.dropAt 3).dropAt 2⟩
end Go.Proofs.Yteigefjiifihpaa

/- The scheduler, the reference's side: an operation. Conditions: none. -/
set_option linter.unusedVariables false
set_option linter.unusedSimpArgs false
namespace Go.Proofs.Yteigefjiifihpaa
open Go Go.Den
abbrev opV (k i n : Int) : List Value := [.int .i64 k, .int .i64 i, .int .i64 n]
def lockR (d : DSched) (i : Nat) (t : DThread) (kind id n : Int) : DSched × Int × Int :=
  if n < 0 ∨ n ≥ 16 then (d, 1, 0) else if t.State ≠ 1 then (d, 21, 0)
    else if kind = 4 then lockF d i t n
    else match lckOf d n with
      | none => (d, 2, 0)
      | some k => if k.Owner ≠ id then (d, 2, 0) else (handF d n, 0, 0)
theorem s110 {w0 w : World} {F : List Asr} {t l : Sl} {d : DSched} {i : Nat} {x : DThread} {kind id n : Int} (h : SH w0 w (RT t d.Threads :: RL l d.Locks :: F)) (hi : Inv0 d) (hn : d.Now ≤ 1099511627776) (hq : d.Seq ≤ 2199023255552) (hx : d.Threads[i]? = some x) :
    CallW Try.prog 110 #[sAgg d.Now d.Seq t l, .int .i64 (i : Int), .agg #[.int .i64 kind, .int .i64 id, .int .i64 n]] w (KR w0 F (lockR d i x kind id n)) := by
  refine go110 ?_
  unfold W110
  have hf := hi.few
  have hm := hi.mid hn
  have hil := (List.getElem?_eq_some_iff.1 hx).1
  have htl := h.len 0 rfl
  rw [recs_len] at htl
  have hll := h.len 1 rfl
  rw [recs_len] at hll
  obtain ⟨q, hqa⟩ := h.rowQ 0 rfl hx
  refine h.alloc (fun w1 h ew1 nw1 => ?_)
  refine h.alloc (fun w2 h ew2 nw2 => ?_)
  refine h.alloc (fun w3 h ew3 nw3 => ?_)
  refine h.alloc (fun w4 h ew4 nw4 => ?_)
  have h : SH w0 w4 (RT t d.Threads :: RL l d.Locks :: aB w3.heap.size (ZR.map Ce.v) :: aB w2.heap.size (ZS.map Ce.v) :: aB w1.heap.size ((opV kind id n).map Ce.v) :: aB w.heap.size ((sCells d.Now d.Seq t l).map Ce.v) :: F) := (h.front (n := 5) rfl).front (n := 5) rfl
  generalize w3.heap.size = rb at *
  generalize w2.heap.size = sb at *
  generalize w1.heap.size = ob at *
  unfold lockR
  refine ⟨_, h.cell 4 rfl rfl, ?_⟩
  refine join_or_ex _ (h.cell 4 rfl rfl) ?_
  refine BIf.of (fun hb => ?_) (fun hb => ?_)
  · simp only [Bool.or_eq_true, decide_eq_true_eq] at hb
    refine retS h 5 3 2 rfl rfl rfl rfl rfl (by simp) (fun w2 h => ?_)
    rw [if_pos hb]
    exact ⟨t, l, rfl, (((h.dropAt 5).dropAt 4).dropAt 3).dropAt 2⟩
  simp only [Bool.or_eq_false_iff, decide_eq_false_iff_not] at hb
  rw [if_neg (show ¬ (n < 0 ∨ n ≥ 16) by omega)]
  simp only [Int.toNat_natCast]
  refine ⟨t, h.cell 5 rfl rfl, by omega, by omega, q, hqa, _, h.rdR 0 rfl hqa hx rfl, BIf.ne (fun hs => ?_) (fun hs => ?_)⟩
  · refine retS h 5 3 2 rfl rfl rfl rfl rfl (by simp) (fun w2 h => ?_)
    rw [if_pos hs]
    exact ⟨t, l, rfl, (((h.dropAt 5).dropAt 4).dropAt 3).dropAt 2⟩
  rw [if_neg (by omega)]
  refine ⟨_, h.cell 4 rfl rfl, BIf.eq (fun h4 => ?_) (fun h4 => ?_)⟩
  · rw [if_pos h4]
    refine ⟨_, h.cell 5 rfl rfl, _, h.cell 5 rfl rfl, t, h.cell 5 rfl rfl, l, h.cell 5 rfl rfl, _, h.cell 4 rfl rfl, (s149 h hi hx).mono ?_⟩
    rintro _ w43 ⟨t', l', rfl, h⟩
    refine ⟨_, _, t', l', _, _, rfl, ?_⟩
    refine retR h 3 2 rfl rfl rfl rfl (by simp) (fun w2 h => ?_)
    exact ⟨t', l', rfl, (((h.dropAt 5).dropAt 4).dropAt 3).dropAt 2⟩
  rw [if_neg h4]
  refine ⟨_, h.cell 5 rfl rfl, _, h.cell 5 rfl rfl, t, h.cell 5 rfl rfl, l, h.cell 5 rfl rfl, _, h.cell 4 rfl rfl, (c121 (satOf h 0 1 rfl rfl ⟨by omega, by omega⟩)).mono ?_⟩
  rintro _ w64 ⟨rfl, e64⟩
  have h := (h.to e64).drew
  refine ⟨_, rfl, ?_⟩
  refine JoinW.cut1 (fun (c : Bool) w' => (c = false ↔ ∃ k, lckOf d n = some k ∧ k.Owner = id) ∧ SH w0 w' (RT t d.Threads :: RL l d.Locks :: aB rb (ZR.map Ce.v) :: aB sb (ZS.map Ce.v) :: aB ob ((opV kind id n).map Ce.v) :: aB w.heap.size ((sCells d.Now d.Seq t l).map Ce.v) :: F)) ?_ ?_
  · rcases idL_find d n with ⟨h1, h2⟩ | ⟨j, y, h1, h2, h3⟩
    · rw [h1]
      refine BIf.t rfl ⟨⟨(fun h => by cases h), ?_⟩, h⟩
      rintro ⟨k, hk, _⟩
      rw [h2] at hk; cases hk
    · rw [h1]
      have hjl := (List.getElem?_eq_some_iff.1 h2).1
      obtain ⟨r, hra⟩ := h.rowQ 1 rfl h2
      simp only [Int.toNat_natCast]
      refine BIf.f (decide_eq_false (by omega)) ⟨l, h.cell 5 rfl rfl, by omega, by omega, r, hra, _, h.rdR 1 rfl hra h2 rfl, _, h.cell 4 rfl rfl, ⟨fun hh => ⟨y, h3, by simpa [bne] using hh⟩, ?_⟩, h⟩
      rintro ⟨k, hk, hko⟩
      rw [h3] at hk; cases hk
      simp [hko]
  · rintro (c : Bool) w68 ⟨hc, h⟩
    refine BIf.of (fun hct => ?_) (fun hcf => ?_)
    · have hr : (match lckOf d n with | none => (d, 2, 0) | some k => if k.Owner ≠ id then (d, 2, 0) else (handF d n, 0, 0) : DSched × Int × Int) = (d, 2, 0) := by
        rcases hl : lckOf d n with _ | k
        · rfl
        · simp only
          rw [if_pos (fun ho => by rw [hc.2 ⟨k, hl, ho⟩] at hct; cases hct)]
      rw [hr]
      refine retS h 5 3 2 rfl rfl rfl rfl rfl (by simp) (fun w2 h => ?_)
      exact ⟨t, l, rfl, (((h.dropAt 5).dropAt 4).dropAt 3).dropAt 2⟩
    · obtain ⟨k, hk, hko⟩ := hc.1 hcf
      obtain ⟨hkm, hkn⟩ := lckOf_some hk
      rw [hk]
      simp only
      rw [if_neg (by omega)]
      refine ⟨_, h.cell 5 rfl rfl, _, h.cell 5 rfl rfl, t, h.cell 5 rfl rfl, l, h.cell 5 rfl rfl, _, h.cell 4 rfl rfl, (s148 h hm hi.ls hkm hkn ⟨hi.now.2, by omega⟩ ⟨by omega, by omega⟩).mono ?_⟩
      rintro _ w87 ⟨t', l', rfl, h⟩
      refine ⟨_, _, t', l', rfl, ?_⟩
      refine retR h 3 2 rfl rfl rfl rfl (by simp) (fun w2 h => ?_)
      exact ⟨t', l', rfl, (((h.dropAt 5).dropAt 4).dropAt 3).dropAt 2⟩
theorem step_thr {d : DSched} {kind id n : Int} {i : Nat} {x : DThread} (h1 : kind ≠ 1) (h3 : kind ≠ 3) (hr : ¬ (kind < 1 ∨ kind > 8)) (hid : idT d id = (i : Int)) (hx : d.Threads[i]? = some x) : stepF d kind id n = thrF d i x kind id n := by
  unfold stepF
  rw [if_neg h1, if_neg h3, if_neg hr, hid, Int.toNat_natCast]
  simp only [hx]
  rw [if_neg (by omega)]
theorem s61 {w0 w : World} {F : List Asr} {t l : Sl} {d : DSched} {kind id n : Int} (h : SH w0 w (RT t d.Threads :: RL l d.Locks :: F)) (hi : Inv0 d) (hn : d.Now ≤ 1099511627776) (hq : d.Seq ≤ 2199023255552) :
    CallW Try.prog 61 #[sAgg d.Now d.Seq t l, .agg #[.int .i64 kind, .int .i64 id, .int .i64 n]] w (KR w0 F (stepF d kind id n)) := by
  refine go61 ?_
  unfold W61
  have hf := hi.few
  have hnow := hi.now
  have htl := h.len 0 rfl
  rw [recs_len] at htl
  refine h.alloc (fun w1 h ew1 nw1 => ?_)
  refine h.alloc (fun w2 h ew2 nw2 => ?_)
  refine h.alloc (fun w3 h ew3 nw3 => ?_)
  refine h.alloc (fun w4 h ew4 nw4 => ?_)
  have h : SH w0 w4 (RT t d.Threads :: RL l d.Locks :: aB w3.heap.size (ZR.map Ce.v) :: aB w2.heap.size (ZS.map Ce.v) :: aB w1.heap.size ((opV kind id n).map Ce.v) :: aB w.heap.size ((sCells d.Now d.Seq t l).map Ce.v) :: F) := (h.front (n := 5) rfl).front (n := 5) rfl
  generalize w3.heap.size = rb at *
  generalize w2.heap.size = sb at *
  generalize w1.heap.size = ob at *
  refine ⟨_, h.cell 4 rfl rfl, BIf.eq (fun h1 => ?_) (fun h1 => ?_)⟩
  · have hr : stepF d kind id n = spawnR d n := by unfold stepF spawnR; rw [if_pos h1]
    rw [hr]
    refine ⟨_, h.cell 5 rfl rfl, _, h.cell 5 rfl rfl, t, h.cell 5 rfl rfl, l, h.cell 5 rfl rfl, _, h.cell 4 rfl rfl, (s107 h hi (by omega)).mono ?_⟩
    rintro _ w12 ⟨t', l', rfl, h⟩
    refine ⟨_, _, t', l', _, _, rfl, ?_⟩
    refine retR h 3 2 rfl rfl rfl rfl (by simp) (fun w2 h => ?_)
    exact ⟨t', l', rfl, (((h.dropAt 5).dropAt 4).dropAt 3).dropAt 2⟩
  refine ⟨_, h.cell 4 rfl rfl, BIf.eq (fun h3 => ?_) (fun h3 => ?_)⟩
  · have hr : stepF d kind id n = ((tickF d).1, 0, (tickF d).2) := by unfold stepF; rw [if_neg h1, if_pos h3]
    rw [hr]
    refine ⟨_, h.cell 5 rfl rfl, _, h.cell 5 rfl rfl, t, h.cell 5 rfl rfl, l, h.cell 5 rfl rfl, (s108 h hi hn hq).mono ?_⟩
    rintro _ w12 ⟨t', l', rfl, h⟩
    refine ⟨_, _, t', l', _, _, rfl, ?_⟩
    refine retR h 3 2 rfl rfl rfl rfl (by simp) (fun w2 h => ?_)
    exact ⟨t', l', rfl, (((h.dropAt 5).dropAt 4).dropAt 3).dropAt 2⟩
  refine ⟨_, h.cell 4 rfl rfl, ?_⟩
  refine join_or_ex _ (h.cell 4 rfl rfl) ?_
  refine BIf.of (fun hb => ?_) (fun hb => ?_)
  · simp only [Bool.or_eq_true, decide_eq_true_eq] at hb
    have hr : stepF d kind id n = (d, 1, 0) := by unfold stepF; rw [if_neg h1, if_neg h3, if_pos hb]
    rw [hr]
    refine retS h 5 3 2 rfl rfl rfl rfl rfl (by simp) (fun w2 h => ?_)
    exact ⟨t, l, rfl, (((h.dropAt 5).dropAt 4).dropAt 3).dropAt 2⟩
  simp only [Bool.or_eq_false_iff, decide_eq_false_iff_not] at hb
  have hb' : ¬ (kind < 1 ∨ kind > 8) := by omega
  refine ⟨_, h.cell 5 rfl rfl, _, h.cell 5 rfl rfl, t, h.cell 5 rfl rfl, l, h.cell 5 rfl rfl, _, h.cell 4 rfl rfl, (c80 (satOf h 0 1 rfl rfl ⟨by omega, by omega⟩)).mono ?_⟩
  rintro _ w70 ⟨rfl, e70⟩
  have h := h.to e70
  refine ⟨_, rfl, ?_⟩
  rcases idT_find d id with ⟨hid, hno⟩ | ⟨i, x, hid, hx, hxo⟩
  · have hr : stepF d kind id n = (d, 3, 0) := by
      unfold stepF
      rw [if_neg h1, if_neg h3, if_neg hb', hid]
      split
      · rfl
      · rfl
    rw [hid, hr]
    refine BIf.t rfl ?_
    refine retS h 5 3 2 rfl rfl rfl rfl rfl (by simp) (fun w2 h => ?_)
    exact ⟨t, l, rfl, (((h.dropAt 5).dropAt 4).dropAt 3).dropAt 2⟩
  rw [hid, step_thr h1 h3 hb' hid hx]
  have hxid := (thrOf_id hxo).1
  have hxm := List.mem_of_getElem? hx
  have hxt := hi.tok x hxm
  have hil := (List.getElem?_eq_some_iff.1 hx).1
  obtain ⟨q, hqa⟩ := h.rowQ 0 rfl hx
  refine BIf.f (decide_eq_false (by omega)) ⟨_, h.cell 4 rfl rfl, ?_⟩
  refine BIf.eq (fun h2 => ?_) (fun h2 => ?_)
  · have hr : thrF d i x kind id n = (exitF d x.Id, 0, 0) := by unfold thrF; rw [if_pos h2, hxid]
    rw [hr]
    refine ⟨_, h.cell 5 rfl rfl, _, h.cell 5 rfl rfl, t, h.cell 5 rfl rfl, l, h.cell 5 rfl rfl, (s109 h hi hn hq hx).mono ?_⟩
    rintro _ w12 ⟨t', l', rfl, h⟩
    refine ⟨_, _, t', l', rfl, ?_⟩
    refine retR h 3 2 rfl rfl rfl rfl (by simp) (fun w2 h => ?_)
    exact ⟨t', l', rfl, (((h.dropAt 5).dropAt 4).dropAt 3).dropAt 2⟩
  simp only [join_sw]
  refine BIf.of (fun h45 => ?_) (fun h45 => ?_)
  · have h45 : kind = 4 ∨ kind = 5 := by simpa using h45
    have hr : thrF d i x kind id n = lockR d i x kind id n := by unfold thrF lockR; rw [if_neg h2, if_pos h45] <;> rfl
    rw [hr]
    refine ⟨_, h.cell 5 rfl rfl, _, h.cell 5 rfl rfl, t, h.cell 5 rfl rfl, l, h.cell 5 rfl rfl, _, h.cell 4 rfl rfl, _, h.cell 4 rfl rfl, _, h.cell 4 rfl rfl, (s110 h hi hn hq hx).mono ?_⟩
    rintro _ w12 ⟨t', l', rfl, h⟩
    refine ⟨_, _, t', l', _, _, rfl, ?_⟩
    refine retR h 3 2 rfl rfl rfl rfl (by simp) (fun w2 h => ?_)
    exact ⟨t', l', rfl, (((h.dropAt 5).dropAt 4).dropAt 3).dropAt 2⟩
  have h45 : ¬ (kind = 4 ∨ kind = 5) := by simpa using h45
  have ht0 : thrF d i x kind id n = if kind = 6 then
    if n < 1 ∨ n > 1000 then (d, 1, 0) else if x.State ≠ 1 then (d, 21, 0)
    else (⟨d.Now, d.Seq, d.Threads.set i ⟨x.Id, x.Base, 3, x.Line, x.Left, x.Since, d.Now + n, x.Wait⟩, d.Locks⟩, 0, 0)
  else if kind = 7 then (if x.State ≠ 3 then (d, 21, 0) else (standF d i d.Now, 0, 0))
  else if n < 0 ∨ n > 7 then (d, 1, 0) else (⟨d.Now, d.Seq, d.Threads.set i ⟨x.Id, n, x.State, x.Line, x.Left, x.Since, x.Until, x.Wait⟩, d.Locks⟩, 0, 0) := by unfold thrF; rw [if_neg h2, if_neg h45]
  rw [ht0]
  simp only [Int.toNat_natCast]
  refine BIf.eq (fun h6 => ?_) (fun h6 => ?_)
  · rw [if_pos h6]
    refine ⟨_, h.cell 4 rfl rfl, ?_⟩
    refine join_or_ex _ (h.cell 4 rfl rfl) ?_
    refine BIf.of (fun hb => ?_) (fun hb => ?_)
    · simp only [Bool.or_eq_true, decide_eq_true_eq] at hb
      rw [if_pos hb]
      refine retS h 5 3 2 rfl rfl rfl rfl rfl (by simp) (fun w2 h => ?_)
      exact ⟨t, l, rfl, (((h.dropAt 5).dropAt 4).dropAt 3).dropAt 2⟩
    simp only [Bool.or_eq_false_iff, decide_eq_false_iff_not] at hb
    rw [if_neg (show ¬ (n < 1 ∨ n > 1000) by omega)]
    refine ⟨t, h.cell 5 rfl rfl, by omega, by omega, q, hqa, _, h.rdR 0 rfl hqa hx rfl, BIf.ne (fun hs => ?_) (fun hs => ?_)⟩
    · rw [if_pos hs]
      refine retS h 5 3 2 rfl rfl rfl rfl rfl (by simp) (fun w2 h => ?_)
      exact ⟨t, l, rfl, (((h.dropAt 5).dropAt 4).dropAt 3).dropAt 2⟩
    rw [if_neg (by omega)]
    refine ⟨t, h.cell 5 rfl rfl, by omega, by omega, q, hqa, ?_⟩
    rw [set_at hx] at h
    refine h.setR 0 (⟨x.Id, x.Base, 3, x.Line, x.Left, x.Since, x.Until, x.Wait⟩ : DThread) rfl hqa hil (by show 2 < 8; omega) rfl (fun w65 h nw65 => ?_)
    refine ⟨t, h.cell 5 rfl rfl, _, h.cell 5 rfl rfl, _, h.cell 4 rfl rfl, by omega, by omega, q, hqa, ?_⟩
    rw [w64 (n := d.Now + n) (by omega) (by omega)]
    refine h.setR 0 (⟨x.Id, x.Base, 3, x.Line, x.Left, x.Since, d.Now + n, x.Wait⟩ : DThread) rfl hqa hil (by show 6 < 8; omega) rfl (fun w69 h nw69 => ?_)
    refine retS h 5 3 2 rfl rfl rfl rfl rfl (by simp) (fun w2 h => ?_)
    exact ⟨t, l, rfl, (((h.dropAt 5).dropAt 4).dropAt 3).dropAt 2⟩
  rw [if_neg h6]
  refine BIf.eq (fun h7 => ?_) (fun h7 => ?_)
  · rw [if_pos h7]
    refine ⟨t, h.cell 5 rfl rfl, by omega, by omega, q, hqa, _, h.rdR 0 rfl hqa hx rfl, BIf.ne (fun hs => ?_) (fun hs => ?_)⟩
    · rw [if_pos hs]
      refine retS h 5 3 2 rfl rfl rfl rfl rfl (by simp) (fun w2 h => ?_)
      exact ⟨t, l, rfl, (((h.dropAt 5).dropAt 4).dropAt 3).dropAt 2⟩
    rw [if_neg (by omega)]
    refine ⟨_, h.cell 5 rfl rfl, _, h.cell 5 rfl rfl, t, h.cell 5 rfl rfl, l, h.cell 5 rfl rfl, _, h.cell 5 rfl rfl, (s111 h hx ⟨hnow.2, by omega⟩ (by omega)).mono ?_⟩
    rintro _ w12 ⟨t', l', rfl, h⟩
    refine ⟨_, _, t', l', rfl, ?_⟩
    refine retR h 3 2 rfl rfl rfl rfl (by simp) (fun w2 h => ?_)
    exact ⟨t', l', rfl, (((h.dropAt 5).dropAt 4).dropAt 3).dropAt 2⟩
  rw [if_neg h7]
  refine ⟨_, h.cell 4 rfl rfl, ?_⟩
  refine join_or_ex _ (h.cell 4 rfl rfl) ?_
  refine BIf.of (fun hb => ?_) (fun hb => ?_)
  · simp only [Bool.or_eq_true, decide_eq_true_eq] at hb
    rw [if_pos hb]
    refine retS h 5 3 2 rfl rfl rfl rfl rfl (by simp) (fun w2 h => ?_)
    exact ⟨t, l, rfl, (((h.dropAt 5).dropAt 4).dropAt 3).dropAt 2⟩
  simp only [Bool.or_eq_false_iff, decide_eq_false_iff_not] at hb
  rw [if_neg (show ¬ (n < 0 ∨ n > 7) by omega)]
  refine ⟨t, h.cell 5 rfl rfl, _, h.cell 4 rfl rfl, by omega, by omega, q, hqa, ?_⟩
  rw [set_at hx] at h
  refine h.setR 0 (⟨x.Id, n, x.State, x.Line, x.Left, x.Since, x.Until, x.Wait⟩ : DThread) rfl hqa hil (by show 1 < 8; omega) rfl (fun w65 h nw65 => ?_)
  refine retS h 5 3 2 rfl rfl rfl rfl rfl (by simp) (fun w2 h => ?_)
  exact ⟨t, l, rfl, (((h.dropAt 5).dropAt 4).dropAt 3).dropAt 2⟩
end Go.Proofs.Yteigefjiifihpaa

/- The scheduler, the reference's side: SchedStep, SchedRun. Conditions: none. -/
set_option linter.unusedVariables false
set_option linter.unusedSimpArgs false
namespace Go.Proofs.Yteigefjiifihpaa
open Go Go.Den
open Classical in
noncomputable def stepR (d : DSched) (kind id n : Int) : DSched × Int × Int := if SOk d then stepF d kind id n else (⟨0, 0, [], []⟩, 0, 0)
/-! ## SchedRun -/
def zeroS : DSched := ⟨0, 0, [], []⟩
theorem zero_inv : Inv0 zeroS := ⟨⟨by decide, by decide⟩, List.Pairwise.nil, List.Pairwise.nil, (fun t ht => by cases ht), (fun t ht => by cases ht), (fun t ht => by cases ht), (fun t ht => by cases ht), List.Pairwise.nil, ⟨fun _ => 0, fun t ht => by cases ht⟩⟩
end Go.Proofs.Yteigefjiifihpaa

/- The scheduler, the program's side: stand, a lock handed on. Conditions: none. -/
set_option linter.unusedVariables false
set_option linter.unusedSimpArgs false
namespace Go.Proofs.Yteigefjiifihpaa
open Go Go.Den
abbrev PB (b : Nat) (d : DSched) (t l : Sl) : Asr := aB b ((sCells d.Now d.Seq t l).map Ce.v)
theorem patOf {w0 w : World} {As : List Asr} (h : SH w0 w As) (n : Nat) {b : Nat} {d : DSched} {t l : Sl} (hA : As[n]? = some (PB b d t l)) : PAt w ⟨b, 0, none⟩ d.Now d.Seq t l := fun j v hj => h.cellP n hA (by rw [List.getElem?_map, hj]; rfl)
theorem s115 {w0 w : World} {F : List Asr} {b : Nat} {t l : Sl} {d : DSched} {i : Nat} {x : DThread} {q : Addr} (h : SH w0 w (PB b d t l :: RT t d.Threads :: RL l d.Locks :: F)) (hx : d.Threads[i]? = some x) (hqa : t.a = some q) (hq : 0 ≤ d.Seq ∧ d.Seq ≤ 4398046511104) :
    CallW Try.prog 115 #[.pointer (some ⟨b, 0, none⟩), .pointer (some (q.add (i * 8)))] w (fun v w' => v = .tuple #[] ∧ SH w0 w' (PB b (standF d i d.Now) t l :: RT t (standF d i d.Now).Threads :: RL l (standF d i d.Now).Locks :: F)) := by
  refine go115 ?_
  unfold W115
  have hil := (List.getElem?_eq_some_iff.1 hx).1
  rw [standF_at hx]
  refine ⟨_, rfl, _, h.cellP 0 rfl rfl, _, rfl, ?_⟩
  rw [w64 (n := d.Seq + 1) (by omega) (by omega)]
  refine h.setVP 0 rfl rfl (fun w4 h nw4 => ?_)
  have h := h.drew
  refine ⟨_, rfl, _, h.cellP 0 rfl rfl, _, rfl, _, h.cellP 0 rfl rfl, _, rfl, ?_⟩
  rw [set_at hx] at h
  refine h.setR 1 (⟨x.Id, x.Base, 1, x.Line, x.Left, x.Since, x.Until, x.Wait⟩ : DThread) rfl hqa hil (by show 2 < 8; omega) rfl (fun w10 h nw10 => ⟨_, rfl, ?_⟩)
  refine h.setR 1 (⟨x.Id, x.Base, 1, d.Seq + 1, x.Left, x.Since, x.Until, x.Wait⟩ : DThread) rfl hqa hil (by show 3 < 8; omega) rfl (fun w12 h nw12 => ⟨_, rfl, ?_⟩)
  refine h.setR 1 (⟨x.Id, x.Base, 1, d.Seq + 1, 4, x.Since, x.Until, x.Wait⟩ : DThread) rfl hqa hil (by show 4 < 8; omega) rfl (fun w14 h nw14 => ⟨_, rfl, ?_⟩)
  refine h.setR 1 (⟨x.Id, x.Base, 1, d.Seq + 1, 4, d.Now, x.Until, x.Wait⟩ : DThread) rfl hqa hil (by show 5 < 8; omega) rfl (fun w16 h nw16 => ⟨_, rfl, ?_⟩)
  refine h.setR 1 (⟨x.Id, x.Base, 1, d.Seq + 1, 4, d.Now, x.Until, -1⟩ : DThread) rfl hqa hil (by show 7 < 8; omega) rfl (fun w18 h nw18 => ⟨_, rfl, ?_⟩)
  refine h.setR 1 (⟨x.Id, x.Base, 1, d.Seq + 1, 4, d.Now, 0, -1⟩ : DThread) rfl hqa hil (by show 6 < 8; omega) rfl (fun w20 h nw20 => ?_)
  exact ⟨rfl, h⟩
theorem c150 {p c : Addr} {x : DThread} {id : Int} {w : World} (hc : ∀ j v, x.cells[j]? = some v → w.cell? (p.add j) = some v) (hid : w.cell? c = some (.int .i64 id)) : CallW Try.prog 150 #[.pointer (some p), .pointer (some c)] w (fun v w' => v = .bool (waitsFor id x) ∧ Ext w w') := by
  refine go150 ?_
  unfold W150
  have e := ext_drew w
  refine ⟨p, rfl, _, e.cell (hc 2 _ rfl), BIf.of (fun hs => ⟨p, rfl, _, e.cell (hc 7 _ rfl), _, e.cell hid, ?_, e⟩) (fun hs => ⟨?_, e⟩)⟩
  · unfold waitsFor; rw [hs]; rfl
  · unfold waitsFor; rw [hs]; rfl
theorem s116 {w0 w : World} {F : List Asr} {b : Nat} {t l : Sl} {d : DSched} {id : Int} {k : DLock} (h : SH w0 w (PB b d t l :: RT t d.Threads :: RL l d.Locks :: F)) (hm : Mid d) (hs : Srt DLock.Id d.Locks) (hk : k ∈ d.Locks) (hid : k.Id = id) (hq : 0 ≤ d.Seq ∧ d.Seq ≤ 4398046511104) (hf : d.Threads.length ≤ 1048576 ∧ d.Locks.length ≤ 1048576) :
    CallW Try.prog 116 #[.pointer (some ⟨b, 0, none⟩), .int .i64 id] w (fun v w' => v = .tuple #[] ∧ ∃ l' : Sl, SH w0 w' (PB b (handF d id) t l' :: RT t (handF d id).Threads :: RL l' (handF d id).Locks :: F)) := by
  refine go116 ?_
  unfold W116
  have hll := h.len 2 rfl
  rw [recs_len] at hll
  refine h.alloc (fun w1 h ew1 nw1 => ?_)
  have hcap := h.cell 0 (i := 0) rfl rfl
  refine (c124 (f := 150) (fx := []) (fc := [.pointer (some ⟨w.heap.size, 0, none⟩)]) (ok := waitsFor id) hm (patOf h 1 rfl) (satOf h 2 3 rfl rfl hf) (fun x p w' e hc => c150 hc (e.cell hcap))).mono ?_
  rintro _ w3 ⟨rfl, e3, hrange⟩
  have h := h.to e3
  refine ⟨_, rfl, ?_⟩
  have hhf : handF d id = if bestF d (waitsFor id) < 0 then ⟨d.Now, d.Seq, d.Threads, d.Locks.filter (fun k => k.Id != id)⟩
    else match d.Threads[(bestF d (waitsFor id)).toNat]? with
      | some w => standF ⟨d.Now, d.Seq, d.Threads, d.Locks.set (idL d id).toNat ⟨id, w.Id⟩⟩ (bestF d (waitsFor id)).toNat d.Now
      | none => d := rfl
  rcases bestF_cases hm (waitsFor id) with ⟨h1, _⟩ | ⟨i, x, hx, _, h1⟩
  · rw [h1, if_pos (by omega)] at hhf
    rw [h1, ptr_none, hhf]
    refine BIf.t rfl ⟨_, rfl, l, h.cellP 1 rfl rfl, ?_⟩
    have h : SH w0 w3 (RL ⟨none, 0, 0⟩ ((d.Locks.take 0).filter (fun k => k.Id != id)) :: aB w.heap.size ([.int .i64 id].map Ce.v) :: PB b d t l :: RT t d.Threads :: RL l d.Locks :: F) := SH.nil h none 2
    refine LoopW.m2 (fun (s : Sl) (i : Int) w' => ∃ m : Nat, i = m ∧ m ≤ d.Locks.length ∧ SH w0 w' (RL s ((d.Locks.take m).filter (fun k => k.Id != id)) :: aB w.heap.size ([.int .i64 id].map Ce.v) :: PB b d t l :: RT t d.Threads :: RL l d.Locks :: F)) (fun _ (i : Int) _ => (d.Locks.length - i).toNat) ⟨0, rfl, by omega, h⟩ ?_
    clear h
    rintro (s : Sl) (i : Int) w10 ⟨m, rfl, hmm, h⟩ J hJ
    refine BIf.dec (fun hlt => ?_) (fun hge => ?_)
    · have hml : m < d.Locks.length := by omega
      have hget : d.Locks[m]? = some d.Locks[m] := List.getElem?_eq_getElem hml
      obtain ⟨r, hra⟩ := h.rowQ 4 rfl hget
      have hfs := filter_take_succ (fun k : DLock => k.Id != id) hget
      generalize d.Locks[m] = y at *
      simp only [Int.toNat_natCast]
      rw [w64 (n := (m : Int) + 1) (by omega) (by omega)]
      refine ⟨by omega, by omega, r, hra, _, h.rdR 4 rfl hra hget rfl, _, h.rdR 4 rfl hra hget rfl, ?_⟩
      refine h.alloc (fun w14 h ew14 nw14 => ?_)
      refine h.put 0 rfl rfl rfl (fun w15 h nw15 => ?_)
      refine ⟨_, h.cell 0 rfl rfl, _, h.cell 2 rfl rfl, BIf.of (fun hc => ?_) (fun hc => ?_)⟩
      · refine ⟨_, h.cell 0 rfl rfl, _, h.cell 0 rfl rfl, ?_⟩
        have hlen := List.length_filter_le (fun k : DLock => k.Id != id) (d.Locks.take m)
        rw [List.length_take] at hlen
        refine LetW_iff.2 (SH.appendR1 (f := DLock.cells) (x := y) h.drop rfl rfl rfl (by decide) (by show _ * 16 ≤ _; omega) (plain_lck _) (fun l28 w29 h hl28 _ => ?_))
        rw [if_pos hc] at hfs
        exact hJ _ _ _ ⟨m + 1, by omega, by omega, by rw [hfs]; exact h⟩ (by omega)
      · rw [if_neg (by rw [hc]; simp), List.append_nil] at hfs
        exact hJ _ _ _ ⟨m + 1, by omega, by omega, by rw [hfs]; exact h.drop⟩ (by omega)
    · rw [show m = d.Locks.length by omega, List.take_length] at h
      refine ⟨_, rfl, ?_⟩
      refine h.setVP 2 rfl rfl (fun w24 h nw24 => ?_)
      exact ⟨rfl, s, ((h.dropAt 4).dropAt 1).p2.p2⟩
  · rw [h1, if_neg (by omega), Int.toNat_natCast, hx] at hhf
    simp only at hhf
    obtain ⟨j, hj, hjk⟩ := idL_at hm.findL hk hid
    have hjl := (List.getElem?_eq_some_iff.1 hjk).1
    rw [hj, Int.toNat_natCast] at hhf
    obtain ⟨q, hqa⟩ := h.rowQ 2 rfl hx
    obtain ⟨r, hra⟩ := h.rowQ 3 rfl hjk
    rw [h1, ptr_some hqa, hhf]
    have h := h.drew
    refine BIf.f rfl ⟨_, h.cell 0 rfl rfl, _, rfl, _, h.rdR 2 rfl hqa hx rfl, (c83 (patOf h 1 rfl) (satOf h 2 3 rfl rfl hf)).mono ?_⟩
    rintro _ w29 ⟨rfl, rfl⟩
    rw [hj, ptr_some hra]
    refine ⟨_, rfl, ⟨_, h.rdR 2 rfl hqa hx rfl, rfl⟩, _, rfl, ?_⟩
    rw [set_at hjk] at h
    refine h.setR 3 (⟨id, x.Id⟩ : DLock) rfl hra hjl (by show 1 < 2; omega) (by show [Value.int .i64 id, .int .i64 x.Id] = [Value.int .i64 k.Id, .int .i64 x.Id]; rw [hid]) (fun w33 h nw33 => ?_)
    refine (s115 (d := ⟨d.Now, d.Seq, d.Threads, d.Locks.set j ⟨id, x.Id⟩⟩) h.drop hx hqa hq).mono ?_
    rintro _ w35 ⟨rfl, h⟩
    exact ⟨rfl, rfl, l, h⟩
theorem c114 {n : Int} {w : World} : CallW Try.prog 114 #[.int .i64 n] w (fun v w' => v = .agg #[.int .i64 n, .int .i64 0] ∧ Ext w w') := by
  refine go114 ?_
  unfold W114
  have h := SH.start w
  refine h.alloc (fun w1 h ew1 nw1 => ?_)
  refine h.put 0 rfl rfl rfl (fun w2 h nw2 => ?_)
  exact ⟨_, h.cell 0 rfl rfl, _, h.cell 0 rfl rfl, rfl, h.ext⟩
end Go.Proofs.Yteigefjiifihpaa

/- The scheduler, the program's side: an operation on a state at an address. Conditions: none. -/
set_option linter.unusedVariables false
set_option linter.unusedSimpArgs false
namespace Go.Proofs.Yteigefjiifihpaa
open Go Go.Den
theorem retV {w0 w : World} {As : List Asr} (h : SH w0 w As) (j : Nat) {c : Nat} {us : List Value} {x y : Int} {K : Value → World → Prop} (hc : As[j]? = some (aB c (us.map Ce.v))) (hu : us.length = 2)
    (hk : ∀ w2, SH w0 w2 (As.set j (aB c ((rsV x y).map Ce.v))) → K (.agg #[.int .i64 x, .int .i64 y]) w2) :
    MayN w ⟨c, 0, none⟩ 2 ∧ LetW (Den.puts w ⟨c, 0, none⟩ 0 [.int .i64 x, .int .i64 y]) fun w14 => ∃ n19 : Int, w14.cell? ⟨c, 0, none⟩ = some (.int .i64 n19) ∧ ∃ n20 : Int, w14.cell? ⟨c, 1, none⟩ = some (.int .i64 n20) ∧ K (.agg #[.int .i64 n19, .int .i64 n20]) w14 := by
  refine h.put j hc rfl hu (fun w14 h nw => ?_)
  have hj := (List.getElem?_eq_some_iff.1 hc).1
  have g2 : (As.set j (aB c ((rsV x y).map Ce.v)))[j]? = some (aB c ((rsV x y).map Ce.v)) := List.getElem?_set_self hj
  exact ⟨x, h.cell j g2 rfl, y, h.cell j g2 rfl, hk _ h⟩
theorem retC {w0 w : World} {As : List Asr} (h : SH w0 w As) (j : Nat) {c : Nat} {us : List Value} {n : Int} {K : Value → World → Prop} (hc : As[j]? = some (aB c (us.map Ce.v))) (hu : us.length = 2)
    (hk : ∀ w2, SH w0 w2 (As.set j (aB c ((rsV n 0).map Ce.v))) → K (.agg #[.int .i64 n, .int .i64 0]) w2) :
    CallW Try.prog 114 #[.int .i64 n] w fun v7 w8 => ∃ n9 : Int, ∃ n10 : Int, v7 = .agg #[.int .i64 n9, .int .i64 n10] ∧ MayN w8 ⟨c, 0, none⟩ 2 ∧ LetW (Den.puts w8 ⟨c, 0, none⟩ 0 [.int .i64 n9, .int .i64 n10]) fun w14 => ∃ n19 : Int, w14.cell? ⟨c, 0, none⟩ = some (.int .i64 n19) ∧ ∃ n20 : Int, w14.cell? ⟨c, 1, none⟩ = some (.int .i64 n20) ∧ K (.agg #[.int .i64 n19, .int .i64 n20]) w14 := by
  refine c114.mono ?_
  rintro _ w8 ⟨rfl, e⟩
  exact ⟨_, _, rfl, retV (h.to e) j hc hu hk⟩
def KP (w0 : World) (F : List Asr) (b : Nat) (r : DSched × Int × Int) (v : Value) (w' : World) : Prop := ∃ t l : Sl, v = .agg #[.int .i64 r.2.1, .int .i64 r.2.2] ∧ SH w0 w' (PB b r.1 t l :: RT t r.1.Threads :: RL l r.1.Locks :: F)
theorem s68 {w0 w : World} {F : List Asr} {b : Nat} {t l : Sl} {d : DSched} {kind id n : Int} (h : SH w0 w (PB b d t l :: RT t d.Threads :: RL l d.Locks :: F)) (hi : Inv0 d) (hn : d.Now ≤ 1099511627776) (hq : d.Seq ≤ 2199023255552) :
    CallW Try.prog 68 #[.pointer (some ⟨b, 0, none⟩), .agg #[.int .i64 kind, .int .i64 id, .int .i64 n]] w (KP w0 F b (stepF d kind id n)) := by
  refine go68 ?_
  unfold W68
  have hf := hi.few
  have hnow := hi.now
  have hm := hi.mid hn
  have htl := h.len 1 rfl
  rw [recs_len] at htl
  have htc := h.lenCap 1 rfl
  have hll := h.len 2 rfl
  rw [recs_len] at hll
  have hlc := h.lenCap 2 rfl
  refine h.alloc (fun w1 h ew1 nw1 => ?_)
  refine h.alloc (fun w2 h ew2 nw2 => ?_)
  have h : SH w0 w2 (PB b d t l :: RT t d.Threads :: RL l d.Locks :: aB w1.heap.size (ZR.map Ce.v) :: aB w.heap.size ((opV kind id n).map Ce.v) :: F) := ((h.front (n := 4) rfl).front (n := 4) rfl).front (n := 4) rfl
  generalize w1.heap.size = rb at *
  generalize w.heap.size = ob at *
  refine ⟨_, h.cell 4 rfl rfl, ?_⟩
  refine join_or_ex _ (h.cell 4 rfl rfl) ?_
  refine BIf.of (fun hb => ?_) (fun hb => ?_)
  · simp only [Bool.or_eq_true, decide_eq_true_eq] at hb
    have hr : stepF d kind id n = (d, 1, 0) := by unfold stepF; rw [if_neg (by omega), if_neg (by omega), if_pos hb]
    rw [hr]
    refine retC h 3 rfl rfl (fun w2 h => ?_)
    exact ⟨t, l, rfl, (h.dropAt 4).dropAt 3⟩
  simp only [Bool.or_eq_false_iff, decide_eq_false_iff_not] at hb
  have hb' : ¬ (kind < 1 ∨ kind > 8) := by omega
  refine ⟨_, h.cell 4 rfl rfl, BIf.eq (fun h1 => ?_) (fun h1 => ?_)⟩
  · -- spawn
    have hr : stepF d kind id n = spawnR d n := by unfold stepF spawnR; rw [if_pos h1]
    rw [hr]
    refine ⟨_, h.cell 4 rfl rfl, ?_⟩
    refine join_or_ex _ (h.cell 4 rfl rfl) ?_
    unfold spawnR
    refine BIf.of (fun hb => ?_) (fun hb => ?_)
    · simp only [Bool.or_eq_true, decide_eq_true_eq] at hb
      rw [if_pos hb]
      refine retC h 3 rfl rfl (fun w2 h => ?_)
      exact ⟨t, l, rfl, (h.dropAt 4).dropAt 3⟩
    simp only [Bool.or_eq_false_iff, decide_eq_false_iff_not] at hb
    rw [if_neg (show ¬ (n < 0 ∨ n > 7) by omega)]
    refine ⟨_, rfl, t, h.cellP 0 rfl rfl, BIf.eq (fun h32 => ?_) (fun h32 => ?_)⟩
    · rw [if_pos (by omega)]
      refine retC h 3 rfl rfl (fun w2 h => ?_)
      exact ⟨t, l, rfl, (h.dropAt 4).dropAt 3⟩
    rw [if_neg (by omega)]
    obtain ⟨g1, g2, g3⟩ := gap_spec hi
    refine LoopW.m1 (fun (i : Int) w' => ∃ m : Nat, i = m ∧ m ≤ gapL d.Threads 0 ∧ SH w0 w' (PB b d t l :: RT t d.Threads :: RL l d.Locks :: aB rb (ZR.map Ce.v) :: aB ob ((opV kind id n).map Ce.v) :: F)) (fun (i : Int) _ => (32 - i).toNat) ⟨0, rfl, Nat.zero_le _, h⟩ ?_
    clear h
    rintro (i : Int) w37 ⟨m, rfl, hmg, h⟩ J hJ
    refine ⟨_, rfl, t, h.cellP 0 rfl rfl, ?_⟩
    refine JoinW.cut1 (fun (c : Bool) w' => c = decide (m < gapL d.Threads 0) ∧ SH w0 w' (PB b d t l :: RT t d.Threads :: RL l d.Locks :: aB rb (ZR.map Ce.v) :: aB ob ((opV kind id n).map Ce.v) :: F)) ?_ ?_
    · refine BIf.dec (fun hlt => ?_) (fun hge => ⟨(decide_eq_false (by omega)).symm, h⟩)
      have hml : m < d.Threads.length := by omega
      have hget : d.Threads[m]? = some d.Threads[m] := List.getElem?_eq_getElem hml
      obtain ⟨q, hqa⟩ := h.rowQ 1 rfl hget
      simp only [Int.toNat_natCast]
      refine ⟨_, rfl, t, h.cellP 0 rfl rfl, by omega, by omega, q, hqa, _, h.rdR 1 rfl hqa hget rfl, ?_, h⟩
      by_cases hmg2 : m < gapL d.Threads 0
      · rw [decide_eq_true hmg2, g2 m _ hmg2 hget]; simp
      · have := g3 m _ (by omega) hget
        rw [decide_eq_false hmg2]
        simp; omega
    rintro (c : Bool) w42 ⟨rfl, h⟩
    refine BIf.dec (fun hc => ?_) (fun hc => ?_)
    · rw [w64 (by omega) (by omega)]
      exact hJ _ _ ⟨m + 1, by omega, by omega, h⟩ (by omega)
    obtain rfl : m = gapL d.Threads 0 := by omega
    have hst0 : spawnF d n = ⟨d.Now, d.Seq + 1, d.Threads.take (gapL d.Threads 0) ++ ⟨(gapL d.Threads 0 : Nat), n, 1, d.Seq + 1, 4, d.Now, 0, -1⟩ :: d.Threads.drop (gapL d.Threads 0), d.Locks⟩ := rfl
    generalize hgn : gapL d.Threads 0 = m at *
    simp only [Int.toNat_natCast]
    refine ⟨_, rfl, t, h.cellP 0 rfl rfl, by omega, by omega, ?_⟩
    have hrow := h.rowR 1 rfl
    have h := SH.nil h none 8
    refine SH.appendR (f := DThread.cells) (l := []) (us := d.Threads.take m) h (hrow.pre (fun _ => rfl) (by omega)) (by simp; omega) (fun _ => rfl) rfl rfl (by decide) (by show (_ + _) * 64 ≤ _; simp; omega) plain_thr (fun l45 w46 h hl45 _ => ?_)
    have h := h.drew
    refine ⟨_, h.cell 5 rfl rfl, _, rfl, t, h.cellP 1 rfl rfl, by omega, by omega, ?_⟩
    refine LetW_iff.2 ?_
    have hx0 : ([] ++ d.Threads.take m ++ [(⟨m, n, 0, 0, 0, 0, 0, 0⟩ : DThread)] ++ d.Threads.drop m)[m]? = some ⟨m, n, 0, 0, 0, 0, 0, 0⟩ := by
      rw [List.nil_append, List.append_assoc, List.getElem?_append_right (by rw [List.length_take]; omega)]
      simp [Nat.min_eq_left g1]
    have hfact := (h.to (ext_alloc w46.drew (.cells #[.int .i64 (m : Int), .int .i64 n, .int .i64 0, .int .i64 0, .int .i64 0, .int .i64 0, .int .i64 0, .int .i64 0] 61))).cellP 1 (i := 2) rfl rfl
    refine ⟨⟨t, hfact, rfl⟩, ?_⟩
    refine SH.appendR1 (f := DThread.cells) (x := ⟨m, n, 0, 0, 0, 0, 0, 0⟩) h rfl rfl rfl (by decide) (by show _ * 64 ≤ _; simp; omega) (plain_thr _) (fun l52 w53 h hl52 _ => ?_)
    refine ⟨⟨t, h.cellP 1 rfl rfl, rfl⟩, ?_⟩
    have hrow := h.rowR 2 rfl
    refine SH.appendR (f := DThread.cells) (us := d.Threads.drop m) h (hrow.suf (fun _ => rfl) htl htc (by omega)) (by simp; omega) (fun _ => rfl) rfl rfl (by decide) (by show (_ + _) * 64 ≤ _; simp; omega) plain_thr (fun l55 w56 h hl55 _ => ?_)
    refine ⟨_, rfl, ?_⟩
    refine h.setVP 1 rfl rfl (fun w58 h nw58 => ?_)
    obtain ⟨q, hqa⟩ := h.rowQ 0 rfl hx0
    have hl55' : l55.len = ([] ++ d.Threads.take m ++ [(⟨m, n, 0, 0, 0, 0, 0, 0⟩ : DThread)] ++ d.Threads.drop m).length := by have := h.len 0 rfl; rwa [recs_len] at this
    have hxl := (List.getElem?_eq_some_iff.1 hx0).1
    refine ⟨_, rfl, l55, h.cellP 1 rfl rfl, by omega, by omega, q, hqa, ?_⟩
    have h : SH w0 w58 (PB b ⟨d.Now, d.Seq, [] ++ d.Threads.take m ++ [⟨m, n, 0, 0, 0, 0, 0, 0⟩] ++ d.Threads.drop m, d.Locks⟩ l55 l :: RT l55 ([] ++ d.Threads.take m ++ [⟨m, n, 0, 0, 0, 0, 0, 0⟩] ++ d.Threads.drop m) :: RL l d.Locks :: aB rb (ZR.map Ce.v) :: aB ob ((opV kind id n).map Ce.v) :: F) := (h.dropAt 2).front (n := 1) rfl
    refine (s115 (d := ⟨d.Now, d.Seq, [] ++ d.Threads.take m ++ [⟨m, n, 0, 0, 0, 0, 0, 0⟩] ++ d.Threads.drop m, d.Locks⟩) h hx0 hqa ⟨hnow.2, by show d.Seq ≤ _; omega⟩).mono ?_
    rintro _ w63 ⟨rfl, h⟩
    have hst : standF ⟨d.Now, d.Seq, [] ++ d.Threads.take m ++ [⟨m, n, 0, 0, 0, 0, 0, 0⟩] ++ d.Threads.drop m, d.Locks⟩ m d.Now = spawnF d n := by
      rw [standF_at hx0, hst0]
      congr 1
      rw [List.nil_append, List.append_assoc, List.set_append_right _ _ (by rw [List.length_take]; omega)]
      simp [Nat.min_eq_left g1, standT]
    have h : SH w0 w63 (PB b (spawnF d n) l55 l :: RT l55 (spawnF d n).Threads :: RL l (spawnF d n).Locks :: aB rb (ZR.map Ce.v) :: aB ob ((opV kind id n).map Ce.v) :: F) := by rw [← hst]; exact h
    refine ⟨rfl, ?_⟩
    refine retV h 3 rfl rfl (fun w2 h => ?_)
    exact ⟨l55, l, rfl, (h.dropAt 4).dropAt 3⟩
  refine BIf.eq (fun h3 => ?_) (fun h3 => ?_)
  · -- tick
    have hr : stepF d kind id n = (laterF (tickM (wakeF d 0 d.Threads.length)).1, 0, (tickM (wakeF d 0 d.Threads.length)).2) := by unfold stepF; rw [if_neg h1, if_pos h3, tickF_M]
    rw [hr]
    refine ⟨_, rfl, t, h.cellP 0 rfl rfl, ?_⟩
    refine LoopW.m1 (fun (i : Int) w' => ∃ (m : Nat) (e : DSched), i = m ∧ m ≤ d.Threads.length ∧ wakeF e m (d.Threads.length - m) = wakeF d 0 d.Threads.length ∧ Inv0 e ∧ e.Now = d.Now ∧ e.Seq ≤ d.Seq + m ∧ e.Threads.length = d.Threads.length ∧ e.Locks.length = d.Locks.length ∧ SH w0 w' (PB b e t l :: RT t e.Threads :: RL l e.Locks :: aB rb (ZR.map Ce.v) :: aB ob ((opV kind id n).map Ce.v) :: F)) (fun (i : Int) _ => (d.Threads.length - i).toNat) ⟨0, d, rfl, Nat.zero_le _, rfl, hi, rfl, by omega, rfl, rfl, h⟩ ?_
    clear h
    rintro (i : Int) w76 ⟨m, e, rfl, hml, hw, hie, hen, hes, hel, helk, h⟩ J hJ
    refine BIf.dec (fun hlt => ?_) (fun hge => ?_)
    · have hk : m < e.Threads.length := by omega
      have hget : e.Threads[m]? = some e.Threads[m] := List.getElem?_eq_getElem hk
      rw [show d.Threads.length - m = (d.Threads.length - (m + 1)) + 1 by omega, wakeF_step, hget] at hw
      obtain ⟨q, hqa⟩ := h.rowQ 1 rfl hget
      generalize e.Threads[m] = x at *
      refine ⟨_, rfl, t, h.cellP 0 rfl rfl, by omega, by omega, q, hqa, ?_⟩
      have h := h.drew
      simp only [Int.toNat_natCast]
      rw [w64 (n := (m : Int) + 1) (by omega) (by omega)]
      refine JoinW.cut1 (fun (c : Bool) w' => c = decide (x.State = 3 ∧ x.Until ≤ e.Now) ∧ SH w0 w' (PB b e t l :: RT t e.Threads :: RL l e.Locks :: aB rb (ZR.map Ce.v) :: aB ob ((opV kind id n).map Ce.v) :: F)) ?_ ?_
      · refine ⟨_, rfl, _, h.rdR 1 rfl hqa hget rfl, BIf.eq (fun h3 => ?_) (fun h3 => ⟨(decide_eq_false (by rintro ⟨hh, _⟩; exact h3 hh)).symm, h⟩)⟩
        refine ⟨_, rfl, _, h.rdR 1 rfl hqa hget rfl, _, rfl, _, h.cellP 0 rfl rfl, ?_, h⟩
        rw [decide_eq_decide]
        exact ⟨fun hh => ⟨h3, hh⟩, fun hh => hh.2⟩
      rintro (c : Bool) w10 ⟨rfl, h⟩
      simp only at hw
      refine BIf.dec (fun hc => ?_) (fun hc => ?_)
      · rw [if_pos hc] at hw
        refine (s115 h hget hqa ⟨hie.now.2, by omega⟩).mono ?_
        rintro _ w84 ⟨rfl, h⟩
        refine ⟨rfl, ?_⟩
        obtain ⟨s1, s2, s3, s4, s5⟩ := standF_now e m e.Now
        exact hJ _ _ ⟨m + 1, _, by omega, by omega, hw, hie.stand hget, by omega, by omega, by omega, by rw [s4]; omega, h⟩ (by omega)
      · rw [if_neg hc] at hw
        exact hJ _ _ ⟨m + 1, _, by omega, by omega, hw, hie, hen, by omega, hel, helk, h⟩ (by omega)
    · have hwd : wakeF d 0 d.Threads.length = e := by rw [← hw, show d.Threads.length - m = 0 by omega]; rfl
      rw [hwd]
      have hm := hie.mid (by omega)
      refine JoinW.cut1 (fun (c : Int) w' => c = (tickM e).2 ∧ (tickM e).1.Now = d.Now ∧ SH w0 w' (PB b (tickM e).1 t l :: RT t (tickM e).1.Threads :: RL l (tickM e).1.Locks :: aB rb (ZR.map Ce.v) :: aB ob ((opV kind id n).map Ce.v) :: F)) ?_ ?_
      · refine (c89 hm (patOf h 0 rfl) (satOf h 1 2 rfl rfl ⟨by omega, by omega⟩)).mono ?_
        rintro _ w102 ⟨rfl, e102, _⟩
        have h := h.to e102
        refine ⟨_, rfl, ?_⟩
        rcases bestF_cases hm isReady with ⟨p1, _⟩ | ⟨j, x, p1, _, p2⟩
        · have htm : tickM e = (e, -1) := by unfold tickM; rw [p1, if_pos (by omega)]
          rw [show bestI e = -1 from p1, ptr_none, htm]
          exact BIf.f rfl ⟨rfl, hen, h⟩
        · have hxm := List.mem_of_getElem? p1
          have hxl := (hie.tok x hxm).left
          have hjl := (List.getElem?_eq_some_iff.1 p1).1
          obtain ⟨q, hqa⟩ := h.rowQ 1 rfl p1
          have htm : tickM e = (if x.Left - 1 = 0 then standF e j (e.Now + 1) else ⟨e.Now, e.Seq, e.Threads.set j ⟨x.Id, x.Base, x.State, x.Line, x.Left - 1, e.Now + 1, x.Until, x.Wait⟩, e.Locks⟩, x.Id) := by
            unfold tickM
            rw [p2, if_neg (by omega), Int.toNat_natCast]
            simp only [p1]
          rw [show bestI e = (j : Int) from p2, ptr_some hqa, htm]
          refine BIf.t rfl ⟨_, rfl, _, h.rdR 1 rfl hqa p1 rfl, _, rfl, _, h.rdR 1 rfl hqa p1 rfl, _, rfl, ?_⟩
          rw [w64 (n := x.Left - 1) (by omega) (by omega)]
          rw [set_at p1] at h
          refine h.setR 1 (⟨x.Id, x.Base, x.State, x.Line, x.Left - 1, x.Since, x.Until, x.Wait⟩ : DThread) rfl hqa hjl (by show 4 < 8; omega) rfl (fun w109 h nw109 => ?_)
          have hy : (e.Threads.set j ⟨x.Id, x.Base, x.State, x.Line, x.Left - 1, x.Since, x.Until, x.Wait⟩)[j]? = some ⟨x.Id, x.Base, x.State, x.Line, x.Left - 1, x.Since, x.Until, x.Wait⟩ := List.getElem?_set_self hjl
          refine JoinW.cut0 (fun w' => ∃ (y : DThread) (sq : Int), (if x.Left - 1 = 0 then standF e j (e.Now + 1) else ⟨e.Now, e.Seq, e.Threads.set j ⟨x.Id, x.Base, x.State, x.Line, x.Left - 1, e.Now + 1, x.Until, x.Wait⟩, e.Locks⟩) = (⟨e.Now, sq, e.Threads.set j ⟨y.Id, y.Base, y.State, y.Line, y.Left, e.Now + 1, y.Until, y.Wait⟩, e.Locks⟩ : DSched) ∧ SH w0 w' (PB b ⟨e.Now, sq, e.Threads.set j y, e.Locks⟩ t l :: RT t (e.Threads.set j y) :: RL l e.Locks :: aB rb (ZR.map Ce.v) :: aB ob ((opV kind id n).map Ce.v) :: F)) ?_ ?_
          · refine ⟨_, rfl, _, h.rdR 1 rfl hqa hy rfl, BIf.eq (fun h0 => ?_) (fun h0 => ?_)⟩
            · refine (s115 (d := ⟨e.Now, e.Seq, e.Threads.set j ⟨x.Id, x.Base, x.State, x.Line, x.Left - 1, x.Since, x.Until, x.Wait⟩, e.Locks⟩) h hy hqa ⟨hie.now.2, by show e.Seq ≤ _; omega⟩).mono ?_
              rintro _ w119 ⟨rfl, h⟩
              refine ⟨rfl, standT e e.Now x, e.Seq + 1, ?_, ?_⟩
              · rw [if_pos h0, standF_at p1]; rfl
              · rw [standF_at hy] at h
                simp only [List.set_set] at h
                exact h
            · refine ⟨⟨x.Id, x.Base, x.State, x.Line, x.Left - 1, x.Since, x.Until, x.Wait⟩, e.Seq, ?_, h⟩
              rw [if_neg h0]
          · rintro w111 ⟨y, sq, hyq, h⟩
            refine ⟨_, rfl, _, h.cellP 0 rfl rfl, _, rfl, ?_⟩
            rw [w64 (n := e.Now + 1) (by omega) (by omega)]
            refine h.setR 1 (⟨y.Id, y.Base, y.State, y.Line, y.Left, e.Now + 1, y.Until, y.Wait⟩ : DThread) rfl hqa hjl (by show 5 < 8; omega) rfl (fun w115 h nw115 => ?_)
            rw [hyq]
            exact ⟨rfl, hen, h⟩
      · rintro (c : Int) w93 ⟨rfl, hnw, h⟩
        refine ⟨_, rfl, _, h.cellP 0 rfl rfl, _, rfl, ?_⟩
        rw [w64 (n := (tickM e).1.Now + 1) (by omega) (by omega)]
        refine h.setVP 0 rfl rfl (fun w97 h nw97 => ?_)
        refine retV h 3 rfl rfl (fun w2 h => ?_)
        exact ⟨t, l, rfl, (h.dropAt 4).dropAt 3⟩
  refine ⟨_, h.cell 4 rfl rfl, (c84 (patOf h 0 rfl) (satOf h 1 2 rfl rfl ⟨by omega, by omega⟩)).mono ?_⟩
  rintro _ w122 ⟨rfl, rfl⟩
  refine ⟨_, rfl, ?_⟩
  rcases idT_find d id with ⟨hid, hno⟩ | ⟨i, x, hid, hx, hxo⟩
  · have hr : stepF d kind id n = (d, 3, 0) := by
      unfold stepF
      rw [if_neg h1, if_neg h3, if_neg hb', hid]
      split
      · rfl
      · rfl
    rw [hid, hr, ptr_none]
    refine BIf.t rfl ?_
    refine retC h 3 rfl rfl (fun w2 h => ?_)
    exact ⟨t, l, rfl, (h.dropAt 4).dropAt 3⟩
  have hxid := (thrOf_id hxo).1
  have hxm := List.mem_of_getElem? hx
  have hxt := hi.tok x hxm
  have hil := (List.getElem?_eq_some_iff.1 hx).1
  obtain ⟨q, hqa⟩ := h.rowQ 1 rfl hx
  rw [hid, ptr_some hqa, step_thr h1 h3 hb' hid hx]
  refine BIf.f rfl ?_
  refine JoinW.cut0 (fun w' => (thrF d i x kind id n).2 = (0, 0) ∧ ∃ t' l' : Sl, SH w0 w' (PB b (thrF d i x kind id n).1 t' l' :: RT t' (thrF d i x kind id n).1.Threads :: RL l' (thrF d i x kind id n).1.Locks :: aB rb (ZR.map Ce.v) :: aB ob ((opV kind id n).map Ce.v) :: F)) ?_ ?_
  · refine ⟨_, h.cell 4 rfl rfl, BIf.eq (fun h2 => ?_) (fun h2 => ?_)⟩
    · -- exit
      have hr : thrF d i x kind id n = (exitF d id, 0, 0) := by unfold thrF; rw [if_pos h2]
      rw [hr]
      refine ⟨_, rfl, t, h.cellP 0 rfl rfl, ?_⟩
      have h : SH w0 _ (RT ⟨none, 0, 0⟩ ((d.Threads.take 0).filter (fun k => k.Id != id)) :: PB b d t l :: RT t d.Threads :: RL l d.Locks :: aB rb (ZR.map Ce.v) :: aB ob ((opV kind id n).map Ce.v) :: F) := SH.nil h none 8
      refine LoopW.m2 (fun (s : Sl) (i : Int) w' => ∃ m : Nat, i = m ∧ m ≤ d.Threads.length ∧ SH w0 w' (RT s ((d.Threads.take m).filter (fun k => k.Id != id)) :: PB b d t l :: RT t d.Threads :: RL l d.Locks :: aB rb (ZR.map Ce.v) :: aB ob ((opV kind id n).map Ce.v) :: F)) (fun _ (i : Int) _ => (d.Threads.length - i).toNat) ⟨0, rfl, by omega, h⟩ ?_
      clear h
      rintro (s : Sl) (i : Int) w146 ⟨m, rfl, hmm, h⟩ J hJ
      refine BIf.dec (fun hlt => ?_) (fun hge => ?_)
      · have hml : m < d.Threads.length := by omega
        have hget : d.Threads[m]? = some d.Threads[m] := List.getElem?_eq_getElem hml
        have hfs := filter_take_succ (fun k : DThread => k.Id != id) hget
        generalize d.Threads[m] = y at *
        simp only [Int.toNat_natCast]
        rw [w64 (n := (m : Int) + 1) (by omega) (by omega)]
        refine ⟨by omega, by omega, q, hqa, ?_⟩
        refine ⟨_, h.rdR 2 rfl hqa hget rfl, _, h.rdR 2 rfl hqa hget rfl, _, h.rdR 2 rfl hqa hget rfl, _, h.rdR 2 rfl hqa hget rfl, _, h.rdR 2 rfl hqa hget rfl, _, h.rdR 2 rfl hqa hget rfl, _, h.rdR 2 rfl hqa hget rfl, _, h.rdR 2 rfl hqa hget rfl, ?_⟩
        refine h.alloc (fun w156 h ew156 nw156 => ?_)
        refine h.put 0 rfl rfl rfl (fun w157 h nw157 => ?_)
        refine ⟨_, h.cell 0 rfl rfl, _, h.cell 6 rfl rfl, BIf.of (fun hc => ?_) (fun hc => ?_)⟩
        · refine ⟨_, h.cell 0 rfl rfl, _, h.cell 0 rfl rfl, _, h.cell 0 rfl rfl, _, h.cell 0 rfl rfl, _, h.cell 0 rfl rfl, _, h.cell 0 rfl rfl, _, h.cell 0 rfl rfl, _, h.cell 0 rfl rfl, ?_⟩
          have hlen := List.length_filter_le (fun k : DThread => k.Id != id) (d.Threads.take m)
          rw [List.length_take] at hlen
          refine LetW_iff.2 (SH.appendR1 (f := DThread.cells) (x := y) h.drop rfl rfl rfl (by decide) (by show _ * 64 ≤ _; omega) (plain_thr _) (fun l28 w29 h hl28 _ => ?_))
          rw [if_pos hc] at hfs
          exact hJ _ _ _ ⟨m + 1, by omega, by omega, by rw [hfs]; exact h⟩ (by omega)
        · rw [if_neg (by rw [hc]; simp), List.append_nil] at hfs
          exact hJ _ _ _ ⟨m + 1, by omega, by omega, by rw [hfs]; exact h.drop⟩ (by omega)
      · rw [show m = d.Threads.length by omega, List.take_length] at h
        refine ⟨_, rfl, ?_⟩
        refine h.setVP 1 rfl rfl (fun w172 h nw172 => ?_)
        refine ⟨_, rfl, l, h.cellP 1 rfl rfl, ?_⟩
        have h : SH w0 w172 (PB b ⟨d.Now, d.Seq, d.Threads.filter (fun k => k.Id != id), d.Locks⟩ s l :: RT s (d.Threads.filter (fun k => k.Id != id)) :: RL l d.Locks :: aB rb (ZR.map Ce.v) :: aB ob ((opV kind id n).map Ce.v) :: F) := (h.dropAt 2).front (n := 1) rfl
        have hrow := h.rowR 2 rfl
        have h := SH.nil h none 2
        refine SH.appendR (f := DLock.cells) (l := []) (us := d.Locks) h hrow (by omega) (fun _ => rfl) rfl rfl (by decide) (by show (_ + _) * 16 ≤ _; simp; omega) plain_lck (fun l175 w176 h hl175 _ => ?_)
        have hl175' : l175.len = d.Locks.length := by simp at hl175; omega
        have hg0 := hi.gone id
        clear hJ J
        refine LoopW.m1 (fun (a : Int) w' => ∃ (k : Nat) (e : DSched) (t l : Sl), a = k ∧ k ≤ d.Locks.length ∧ exitL id (d.Locks.drop k) e = exitF d id ∧ Inv (fun o => o = id) e ∧ e.Now = d.Now ∧ e.Seq ≤ d.Seq + k ∧ (∀ u, u ∈ e.Threads → u.Id ≠ id) ∧ (∀ y, y ∈ d.Locks.drop k → y ∈ e.Locks) ∧ (∀ y, y ∈ e.Locks → y.Owner = id → y ∈ d.Locks.drop k) ∧
          SH w0 w' (RL l175 d.Locks :: PB b e t l :: RT t e.Threads :: RL l e.Locks :: aB rb (ZR.map Ce.v) :: aB ob ((opV kind id n).map Ce.v) :: F)) (fun (i : Int) _ => (d.Locks.length - i).toNat) ⟨0, _, s, l, rfl, by omega, rfl, hg0, rfl, Int.le_of_eq (by simp), ?_, fun y hy => hy, fun y hy _ => hy, h⟩ ?_
        · intro u hu he; have := (List.mem_filter.1 hu).2; simp [he] at this
        clear h
        rintro (a : Int) w179 ⟨k, e, t, l, rfl, hk16, hex, hie, hen, hes, hgo, hsub, hown, h⟩ J hJ
        have hef := hie.few
        have hm := hie.mid (by omega)
        refine BIf.dec (fun hlt => ?_) (fun hge => ?_)
        · have hkl : k < d.Locks.length := by omega
          have hget : d.Locks[k]? = some d.Locks[k] := List.getElem?_eq_getElem hkl
          have hdr := List.drop_eq_getElem_cons hkl
          have hsrt : Srt DLock.Id (d.Locks.drop k) := List.Pairwise.sublist (List.drop_sublist _ _) hi.ls
          obtain ⟨r, hra⟩ := h.rowQ 0 rfl hget
          generalize d.Locks[k] = y at *
          rw [hdr] at hex hsub hown hsrt
          obtain ⟨hs1, hs2⟩ := List.pairwise_cons.1 hsrt
          unfold exitL at hex
          simp only [Int.toNat_natCast]
          rw [w64 (n := (k : Int) + 1) (by omega) (by omega)]
          refine ⟨by omega, by omega, r, hra, _, h.rdR 0 rfl hra hget rfl, _, h.rdR 0 rfl hra hget rfl, ?_⟩
          refine h.alloc (fun w183 h ew183 nw183 => ?_)
          refine h.put 0 rfl rfl rfl (fun w184 h nw184 => ?_)
          refine ⟨_, h.cell 0 rfl rfl, _, h.cell 6 rfl rfl, BIf.eq (fun hyo => ?_) (fun hyo => ?_)⟩
          · rw [if_pos hyo] at hex
            have hy := hsub y (by simp)
            refine ⟨_, h.cell 0 rfl rfl, ?_⟩
            have h := h.drop
            have h := ((h.front (n := 3) rfl).front (n := 3) rfl).front (n := 3) rfl
            refine (s116 h hm hie.ls hy rfl ⟨hie.now.2, by omega⟩ ⟨by omega, by omega⟩).mono ?_
            rintro _ w189 ⟨rfl, l', h⟩
            refine ⟨rfl, ?_⟩
            obtain ⟨l1, l2, l3⟩ := hand_locks hie (by omega) hy
            have hnw := handF_now e y.Id
            have hhd := hie.hand (by omega) hy
            refine hJ _ _ ⟨k + 1, _, t, l', by omega, by omega, hex, hhd, by omega, by omega, fun u hu he => ?_, fun v hv => ?_, fun v hv hvo => ?_, h.front (n := 3) rfl⟩ (by omega)
            · obtain ⟨u', hu', hue⟩ := (l3 u.Id).1 ⟨u, hu, rfl⟩
              exact hgo u' hu' (by omega)
            · exact l2 v (hsub v (by simp only [List.mem_cons]; exact .inr hv)) (by have := hs1 v hv; omega)
            · rcases l1 v hv with ⟨h5, h6⟩ | ⟨h5, u, hu, hue⟩
              · rcases List.mem_cons.1 (hown v h5 hvo) with rfl | h7
                · exact absurd rfl h6
                · exact h7
              · exact absurd (hue.trans hvo) (hgo u hu)
          · rw [if_neg hyo] at hex
            refine hJ _ _ ⟨k + 1, e, t, l, by omega, by omega, hex, hie, hen, by omega, hgo, fun v hv => hsub v (by simp only [List.mem_cons]; exact .inr hv), fun v hv hvo => ?_, h.drop⟩ (by omega)
            rcases List.mem_cons.1 (hown v hv hvo) with rfl | h7
            · exact absurd hvo hyo
            · exact h7
        · rw [List.drop_eq_nil_of_le (by omega)] at hex
          have hex : e = exitF d id := hex
          rw [← hex]
          exact ⟨rfl, t, l, h.drop⟩
    refine BIf.eq (fun h4 => ?_) (fun h4 => ?_)
    · -- lock
      have hr : thrF d i x kind id n = lockR d i x kind id n := by unfold thrF lockR; rw [if_neg h2, if_pos (.inl h4)] <;> rfl
      rw [hr]
      unfold lockR
      refine ⟨_, h.cell 4 rfl rfl, ?_⟩
      refine join_or_ex _ (h.cell 4 rfl rfl) ?_
      refine BIf.of (fun hb => ?_) (fun hb => ?_)
      · simp only [Bool.or_eq_true, decide_eq_true_eq] at hb
        rw [if_pos hb]
        refine retC h 3 rfl rfl (fun w2 h => ?_)
        exact ⟨t, l, rfl, (h.dropAt 4).dropAt 3⟩
      simp only [Bool.or_eq_false_iff, decide_eq_false_iff_not] at hb
      rw [if_neg (show ¬ (n < 0 ∨ n ≥ 16) by omega)]
      refine ⟨_, rfl, _, h.rdR 1 rfl hqa hx rfl, BIf.ne (fun hs => ?_) (fun hs => ?_)⟩
      · rw [if_pos hs]
        refine retC h 3 rfl rfl (fun w2 h => ?_)
        exact ⟨t, l, rfl, (h.dropAt 4).dropAt 3⟩
      rw [if_neg (by omega), if_pos h4]
      refine ⟨_, h.cell 4 rfl rfl, (c83 (patOf h 0 rfl) (satOf h 1 2 rfl rfl ⟨by omega, by omega⟩)).mono ?_⟩
      rintro _ w212 ⟨rfl, rfl⟩
      refine ⟨_, rfl, ?_⟩
      rcases idL_find d n with ⟨hl1, hl2⟩ | ⟨j, y, hl1, hl2, hl3⟩
      · rw [hl1, ptr_none]
        refine BIf.t rfl ?_
        have hlock : lockF d i x n = (⟨d.Now, d.Seq, d.Threads, d.Locks.take (lockPl d.Locks n 0) ++ ⟨n, x.Id⟩ :: d.Locks.drop (lockPl d.Locks n 0)⟩, 0, 0) := by unfold lockF; rw [hl2]
        rw [hlock]
        obtain ⟨p, hp0, hp1, hp2, hp3⟩ := lockPl_spec d.Locks n 0 hi.ls (lckOf_none hl2)
        rw [Nat.zero_add] at hp0
        rw [hp0]
        refine LoopW.m1 (fun (i : Int) w' => ∃ m : Nat, i = m ∧ m ≤ p ∧ SH w0 w' (PB b d t l :: RT t d.Threads :: RL l d.Locks :: aB rb (ZR.map Ce.v) :: aB ob ((opV kind id n).map Ce.v) :: F)) (fun (i : Int) _ => (32 - i).toNat) ⟨0, rfl, Nat.zero_le _, h⟩ ?_
        clear h
        rintro (i : Int) w216 ⟨m, rfl, hmp, h⟩ J hJ
        refine JoinW.cut1 (fun (c : Bool) w' => c = decide (m < p) ∧ SH w0 w' (PB b d t l :: RT t d.Threads :: RL l d.Locks :: aB rb (ZR.map Ce.v) :: aB ob ((opV kind id n).map Ce.v) :: F)) ?_ ?_
        · have h := h.drew
          refine ⟨_, rfl, l, h.cellP 0 rfl rfl, BIf.dec (fun hlt => ?_) (fun hge => ⟨(decide_eq_false (by omega)).symm, h⟩)⟩
          have hml : m < d.Locks.length := by omega
          have hget : d.Locks[m]? = some d.Locks[m] := List.getElem?_eq_getElem hml
          obtain ⟨r, hra⟩ := h.rowQ 2 rfl hget
          simp only [Int.toNat_natCast]
          refine ⟨_, rfl, l, h.cellP 0 rfl rfl, by omega, by omega, r, hra, _, h.rdR 2 rfl hra hget rfl, _, h.cell 4 rfl rfl, ?_, h⟩
          rw [decide_eq_decide]
          by_cases hmp2 : m < p
          · have := hp2 m _ hmp2 hget
            exact ⟨fun _ => hmp2, fun _ => this⟩
          · have := hp3 m _ (by omega) hget
            exact ⟨fun hh => by omega, fun hh => absurd hh hmp2⟩
        rintro (c : Bool) w219 ⟨rfl, h⟩
        refine BIf.dec (fun hc => ?_) (fun hc => ?_)
        · rw [w64 (by omega) (by omega)]
          exact hJ _ _ ⟨m + 1, by omega, by omega, h⟩ (by omega)
        obtain rfl : m = p := by omega
        simp only [Int.toNat_natCast]
        refine ⟨_, rfl, l, h.cellP 0 rfl rfl, by omega, by omega, ?_⟩
        have hrow := h.rowR 2 rfl
        have h := SH.nil h none 2
        refine SH.appendR (f := DLock.cells) (l := []) (us := d.Locks.take m) h (hrow.pre (fun _ => rfl) (by omega)) (by simp; omega) (fun _ => rfl) rfl rfl (by decide) (by show (_ + _) * 16 ≤ _; simp; omega) plain_lck (fun l222 w223 h hl222 _ => ?_)
        have h := h.drew
        refine ⟨_, h.cell 5 rfl rfl, _, h.cell 5 rfl rfl, _, rfl, l, h.cellP 1 rfl rfl, by omega, by omega, ?_⟩
        refine LetW_iff.2 ?_
        have hfact := (h.to (ext_alloc w223.drew (.cells #[.int .i64 n, .int .i64 id] 122))).cellP 1 (i := 3) rfl rfl
        refine ⟨⟨l, hfact, rfl⟩, ?_⟩
        refine SH.appendR1 (f := DLock.cells) (x := ⟨n, id⟩) h rfl rfl rfl (by decide) (by show _ * 16 ≤ _; simp; omega) (plain_lck _) (fun l230 w231 h hl230 _ => ?_)
        refine ⟨⟨l, h.cellP 1 rfl rfl, rfl⟩, ?_⟩
        have hrow := h.rowR 3 rfl
        refine SH.appendR (f := DLock.cells) (us := d.Locks.drop m) h (hrow.suf (fun _ => rfl) hll hlc (by omega)) (by simp; omega) (fun _ => rfl) rfl rfl (by decide) (by show (_ + _) * 16 ≤ _; simp; omega) plain_lck (fun l233 w234 h hl233 _ => ?_)
        refine ⟨_, rfl, ?_⟩
        refine h.setVP 1 rfl rfl (fun w236 h nw236 => ?_)
        refine retC h 4 rfl rfl (fun w2 h => ?_)
        have h2 := (((h.dropAt 5).dropAt 4).dropAt 3)
        refine ⟨t, l233, rfl, ?_⟩
        have h3 : SH w0 w2 (RL l233 ([] ++ d.Locks.take m ++ [⟨n, id⟩] ++ d.Locks.drop m) :: PB b ⟨d.Now, d.Seq, d.Threads, d.Locks⟩ t l233 :: RT t d.Threads :: F) := h2
        have h4 := h3.p2.p2
        rw [hxid]
        simpa using h4
      · have hjl := (List.getElem?_eq_some_iff.1 hl2).1
        obtain ⟨r, hra⟩ := h.rowQ 2 rfl hl2
        rw [hl1, ptr_some hra]
        have h := h.drew
        refine BIf.f rfl ⟨_, rfl, _, h.rdR 2 rfl hra hl2 rfl, _, h.cell 4 rfl rfl, BIf.eq (fun ho => ?_) (fun ho => ?_)⟩
        · have hlock : lockF d i x n = (d, 4, 0) := by unfold lockF; rw [hl3]; simp only; rw [if_pos (by rw [hxid]; exact ho)]
          rw [hlock]
          refine retC h 3 rfl rfl (fun w2 h => ?_)
          exact ⟨t, l, rfl, (h.dropAt 4).dropAt 3⟩
        have h := h.drew
        refine ⟨_, rfl, _, h.rdR 2 rfl hra hl2 rfl, _, h.cell 4 rfl rfl, (c85 (patOf h 0 rfl) (satOf h 1 2 rfl rfl ⟨by omega, by omega⟩)).mono ?_⟩
        rintro _ w265 ⟨rfl, rfl⟩
        rw [waits_same hm.owned hm.few]
        refine ⟨_, rfl, BIf.of (fun hw => ?_) (fun hw => ?_)⟩
        · have hlock : lockF d i x n = (d, 17, 0) := by unfold lockF; rw [hl3]; simp only; rw [if_neg (by rw [hxid]; exact ho), hxid, if_pos hw]
          rw [hlock]
          refine retC h 3 rfl rfl (fun w2 h => ?_)
          exact ⟨t, l, rfl, (h.dropAt 4).dropAt 3⟩
        · have hlock : lockF d i x n = (⟨d.Now, d.Seq, d.Threads.set i ⟨x.Id, x.Base, 2, x.Line, x.Left, x.Since, x.Until, n⟩, d.Locks⟩, 0, 1) := by unfold lockF; rw [hl3]; simp only; rw [if_neg (by rw [hxid]; exact ho), hxid, if_neg (by rw [hw]; simp)]
          rw [hlock]
          have h := h.drew
          refine ⟨_, h.cell 4 rfl rfl, _, rfl, ?_⟩
          rw [set_at hx] at h
          refine h.setR 1 (⟨x.Id, x.Base, 2, x.Line, x.Left, x.Since, x.Until, x.Wait⟩ : DThread) rfl hqa hil (by show 2 < 8; omega) rfl (fun w276 h nw276 => ?_)
          refine ⟨⟨_, h.cell 4 rfl rfl, rfl⟩, _, rfl, ?_⟩
          refine h.setR 1 (⟨x.Id, x.Base, 2, x.Line, x.Left, x.Since, x.Until, n⟩ : DThread) rfl hqa hil (by show 7 < 8; omega) rfl (fun w279 h nw279 => ?_)
          refine retV h 3 rfl rfl (fun w2 h => ?_)
          exact ⟨t, l, rfl, (h.dropAt 4).dropAt 3⟩
    refine BIf.eq (fun h5 => ?_) (fun h5 => ?_)
    · -- unlock
      have hr : thrF d i x kind id n = lockR d i x kind id n := by unfold thrF lockR; rw [if_neg h2, if_pos (.inr h5)] <;> rfl
      rw [hr]
      unfold lockR
      refine ⟨_, h.cell 4 rfl rfl, ?_⟩
      refine join_or_ex _ (h.cell 4 rfl rfl) ?_
      refine BIf.of (fun hb => ?_) (fun hb => ?_)
      · simp only [Bool.or_eq_true, decide_eq_true_eq] at hb
        rw [if_pos hb]
        refine retC h 3 rfl rfl (fun w2 h => ?_)
        exact ⟨t, l, rfl, (h.dropAt 4).dropAt 3⟩
      simp only [Bool.or_eq_false_iff, decide_eq_false_iff_not] at hb
      rw [if_neg (show ¬ (n < 0 ∨ n ≥ 16) by omega)]
      refine ⟨_, rfl, _, h.rdR 1 rfl hqa hx rfl, BIf.ne (fun hs => ?_) (fun hs => ?_)⟩
      · rw [if_pos hs]
        refine retC h 3 rfl rfl (fun w2 h => ?_)
        exact ⟨t, l, rfl, (h.dropAt 4).dropAt 3⟩
      rw [if_neg (by omega), if_neg h4]
      refine ⟨_, h.cell 4 rfl rfl, (c83 (patOf h 0 rfl) (satOf h 1 2 rfl rfl ⟨by omega, by omega⟩)).mono ?_⟩
      rintro _ w306 ⟨rfl, rfl⟩
      have h := h.drew
      refine ⟨_, rfl, ?_⟩
      refine JoinW.cut1 (fun (c : Bool) w' => (c = false ↔ ∃ k, lckOf d n = some k ∧ k.Owner = id) ∧ SH w0 w' (PB b d t l :: RT t d.Threads :: RL l d.Locks :: aB rb (ZR.map Ce.v) :: aB ob ((opV kind id n).map Ce.v) :: F)) ?_ ?_
      · rcases idL_find d n with ⟨hl1, hl2⟩ | ⟨j, y, hl1, hl2, hl3⟩
        · rw [hl1, ptr_none]
          refine BIf.t rfl ⟨⟨(fun h => by cases h), ?_⟩, h⟩
          rintro ⟨k, hk, _⟩
          rw [hl2] at hk; cases hk
        · obtain ⟨r, hra⟩ := h.rowQ 2 rfl hl2
          rw [hl1, ptr_some hra]
          refine BIf.f rfl ⟨_, rfl, _, h.rdR 2 rfl hra hl2 rfl, _, h.cell 4 rfl rfl, ⟨fun hh => ⟨y, hl3, by simpa [bne] using hh⟩, ?_⟩, h⟩
          rintro ⟨k, hk, hko⟩
          rw [hl3] at hk; cases hk
          simp [hko]
      · rintro (c : Bool) w310 ⟨hc, h⟩
        refine BIf.of (fun hct => ?_) (fun hcf => ?_)
        · rcases hl : lckOf d n with _ | k
          · refine retC h 3 rfl rfl (fun w2 h => ?_)
            exact ⟨t, l, rfl, (h.dropAt 4).dropAt 3⟩
          · have hko : k.Owner ≠ id := fun ho => by rw [hc.2 ⟨k, hl, ho⟩] at hct; cases hct
            simp only
            rw [if_pos hko]
            refine retC h 3 rfl rfl (fun w2 h => ?_)
            exact ⟨t, l, rfl, (h.dropAt 4).dropAt 3⟩
        · obtain ⟨k, hk, hko⟩ := hc.1 hcf
          obtain ⟨hkm, hkn⟩ := lckOf_some hk
          rw [hk]
          simp only
          rw [if_neg (by omega)]
          refine ⟨_, h.cell 4 rfl rfl, (s116 h hm hi.ls hkm hkn ⟨hnow.2, by omega⟩ ⟨by omega, by omega⟩).mono ?_⟩
          rintro _ w320 ⟨rfl, l', h⟩
          exact ⟨rfl, rfl, t, l', h⟩
    have h45 : ¬ (kind = 4 ∨ kind = 5) := by omega
    have ht0 : thrF d i x kind id n = if kind = 6 then
      if n < 1 ∨ n > 1000 then (d, 1, 0) else if x.State ≠ 1 then (d, 21, 0)
      else (⟨d.Now, d.Seq, d.Threads.set i ⟨x.Id, x.Base, 3, x.Line, x.Left, x.Since, d.Now + n, x.Wait⟩, d.Locks⟩, 0, 0)
    else if kind = 7 then (if x.State ≠ 3 then (d, 21, 0) else (standF d i d.Now, 0, 0))
    else if n < 0 ∨ n > 7 then (d, 1, 0) else (⟨d.Now, d.Seq, d.Threads.set i ⟨x.Id, n, x.State, x.Line, x.Left, x.Since, x.Until, x.Wait⟩, d.Locks⟩, 0, 0) := by unfold thrF; rw [if_neg h2, if_neg h45]
    rw [ht0]
    refine BIf.eq (fun h6 => ?_) (fun h6 => ?_)
    · rw [if_pos h6]
      refine ⟨_, h.cell 4 rfl rfl, ?_⟩
      refine join_or_ex _ (h.cell 4 rfl rfl) ?_
      refine BIf.of (fun hb => ?_) (fun hb => ?_)
      · simp only [Bool.or_eq_true, decide_eq_true_eq] at hb
        rw [if_pos hb]
        refine retC h 3 rfl rfl (fun w2 h => ?_)
        exact ⟨t, l, rfl, (h.dropAt 4).dropAt 3⟩
      simp only [Bool.or_eq_false_iff, decide_eq_false_iff_not] at hb
      rw [if_neg (show ¬ (n < 1 ∨ n > 1000) by omega)]
      refine ⟨_, rfl, _, h.rdR 1 rfl hqa hx rfl, BIf.ne (fun hs => ?_) (fun hs => ?_)⟩
      · rw [if_pos hs]
        refine retC h 3 rfl rfl (fun w2 h => ?_)
        exact ⟨t, l, rfl, (h.dropAt 4).dropAt 3⟩
      rw [if_neg (by omega)]
      have h := h.drew
      refine ⟨_, rfl, _, h.cellP 0 rfl rfl, _, h.cell 4 rfl rfl, _, rfl, ?_⟩
      rw [set_at hx] at h
      refine h.setR 1 (⟨x.Id, x.Base, 3, x.Line, x.Left, x.Since, x.Until, x.Wait⟩ : DThread) rfl hqa hil (by show 2 < 8; omega) rfl (fun w349 h nw349 => ?_)
      refine ⟨⟨_, h.cell 4 rfl rfl, rfl⟩, _, rfl, ?_⟩
      rw [w64 (n := d.Now + n) (by omega) (by omega)]
      refine h.setR 1 (⟨x.Id, x.Base, 3, x.Line, x.Left, x.Since, d.Now + n, x.Wait⟩ : DThread) rfl hqa hil (by show 6 < 8; omega) rfl (fun w352 h nw352 => ?_)
      exact ⟨rfl, t, l, h⟩
    rw [if_neg h6]
    refine BIf.eq (fun h7 => ?_) (fun h7 => ?_)
    · rw [if_pos h7]
      refine ⟨_, rfl, _, h.rdR 1 rfl hqa hx rfl, BIf.ne (fun hs => ?_) (fun hs => ?_)⟩
      · rw [if_pos hs]
        refine retC h 3 rfl rfl (fun w2 h => ?_)
        exact ⟨t, l, rfl, (h.dropAt 4).dropAt 3⟩
      rw [if_neg (by omega)]
      refine (s115 h hx hqa ⟨hnow.2, by omega⟩).mono ?_
      rintro _ w364 ⟨rfl, h⟩
      exact ⟨rfl, rfl, t, l, h⟩
    rw [if_neg h7]
    refine BIf.t (by simp; omega) ⟨_, h.cell 4 rfl rfl, ?_⟩
    refine join_or_ex _ (h.cell 4 rfl rfl) ?_
    refine BIf.of (fun hb => ?_) (fun hb => ?_)
    · simp only [Bool.or_eq_true, decide_eq_true_eq] at hb
      rw [if_pos hb]
      refine retC h 3 rfl rfl (fun w2 h => ?_)
      exact ⟨t, l, rfl, (h.dropAt 4).dropAt 3⟩
    simp only [Bool.or_eq_false_iff, decide_eq_false_iff_not] at hb
    rw [if_neg (show ¬ (n < 0 ∨ n > 7) by omega)]
    refine ⟨_, h.cell 4 rfl rfl, _, rfl, ?_⟩
    rw [set_at hx] at h
    refine h.setR 1 (⟨x.Id, n, x.State, x.Line, x.Left, x.Since, x.Until, x.Wait⟩ : DThread) rfl hqa hil (by show 1 < 8; omega) rfl (fun w378 h nw378 => ?_)
    exact ⟨rfl, t, l, h⟩
  · rintro w132 ⟨h00, t', l', h⟩
    refine retC h 3 rfl rfl (fun w2 h => ?_)
    refine ⟨t', l', ?_, (h.dropAt 4).dropAt 3⟩
    rw [h00]
end Go.Proofs.Yteigefjiifihpaa

/- The scheduler, the program's side: SchedStep, SchedRun. Conditions: none. -/
set_option linter.unusedVariables false
set_option linter.unusedSimpArgs false
namespace Go.Proofs.Yteigefjiifihpaa
open Go Go.Den
/-- An operation that fails leaves the state. -/
theorem lockF_same {d : DSched} {i : Nat} {t : DThread} {n : Int} (h : (lockF d i t n).2.1 ≠ 0) : (lockF d i t n).1 = d ∧ (lockF d i t n).2.2 = 0 := by
  unfold lockF at h ⊢
  split at h
  · exact absurd rfl h
  · split at h
    · rename_i h1; rw [if_pos h1]; exact ⟨rfl, rfl⟩
    · split at h
      · rename_i h1 h2; rw [if_neg h1, if_pos h2]; exact ⟨rfl, rfl⟩
      · exact absurd rfl h
theorem stepF_same {d : DSched} {kind id n : Int} (h : (stepF d kind id n).2.1 ≠ 0) : (stepF d kind id n).1 = d ∧ (stepF d kind id n).2.2 = 0 := by
  unfold stepF at h ⊢
  by_cases h1 : kind = 1
  · rw [if_pos h1] at h ⊢
    by_cases h2 : n < 0 ∨ n > 7
    · rw [if_pos h2]; exact ⟨rfl, rfl⟩
    · rw [if_neg h2] at h ⊢
      by_cases h3 : d.Threads.length = 32
      · rw [if_pos h3]; exact ⟨rfl, rfl⟩
      · rw [if_neg h3] at h; exact absurd rfl h
  · rw [if_neg h1] at h ⊢
    by_cases h2 : kind = 3
    · rw [if_pos h2] at h; exact absurd rfl h
    · rw [if_neg h2] at h ⊢
      by_cases h3 : kind < 1 ∨ kind > 8
      · rw [if_pos h3]; exact ⟨rfl, rfl⟩
      · rw [if_neg h3] at h ⊢
        rcases ht : d.Threads[(idT d id).toNat]? with _ | t
        · exact ⟨rfl, rfl⟩
        · rw [ht] at h
          simp only at h ⊢
          by_cases h4 : idT d id < 0
          · rw [if_pos h4]; exact ⟨rfl, rfl⟩
          · rw [if_neg h4] at h ⊢
            unfold thrF at h ⊢
            by_cases k2 : kind = 2
            · rw [if_pos k2] at h; exact absurd rfl h
            · rw [if_neg k2] at h ⊢
              by_cases k4 : kind = 4 ∨ kind = 5
              · rw [if_pos k4] at h ⊢
                by_cases b1 : n < 0 ∨ n ≥ 16
                · rw [if_pos b1]; exact ⟨rfl, rfl⟩
                · rw [if_neg b1] at h ⊢
                  by_cases b2 : t.State ≠ 1
                  · rw [if_pos b2]; exact ⟨rfl, rfl⟩
                  · rw [if_neg b2] at h ⊢
                    by_cases b3 : kind = 4
                    · rw [if_pos b3] at h ⊢; exact lockF_same h
                    · rw [if_neg b3] at h ⊢
                      rcases hl : lckOf d n with _ | k
                      · exact ⟨rfl, rfl⟩
                      · rw [hl] at h
                        simp only at h ⊢
                        by_cases b4 : k.Owner ≠ id
                        · rw [if_pos b4]; exact ⟨rfl, rfl⟩
                        · rw [if_neg b4] at h; exact absurd rfl h
              · rw [if_neg k4] at h ⊢
                by_cases k6 : kind = 6
                · rw [if_pos k6] at h ⊢
                  by_cases b1 : n < 1 ∨ n > 1000
                  · rw [if_pos b1]; exact ⟨rfl, rfl⟩
                  · rw [if_neg b1] at h ⊢
                    by_cases b2 : t.State ≠ 1
                    · rw [if_pos b2]; exact ⟨rfl, rfl⟩
                    · rw [if_neg b2] at h; exact absurd rfl h
                · rw [if_neg k6] at h ⊢
                  by_cases k7 : kind = 7
                  · rw [if_pos k7] at h ⊢
                    by_cases b2 : t.State ≠ 3
                    · rw [if_pos b2]; exact ⟨rfl, rfl⟩
                    · rw [if_neg b2] at h; exact absurd rfl h
                  · rw [if_neg k7] at h ⊢
                    by_cases b1 : n < 0 ∨ n > 7
                    · rw [if_pos b1]; exact ⟨rfl, rfl⟩
                    · rw [if_neg b1] at h; exact absurd rfl h
theorem s24 {w : World} {t l : Sl} {d : DSched} {kind id n : Int} (hs : SAt w t l d) :
    CallW Try.prog 24 #[sAgg d.Now d.Seq t l, .agg #[.int .i64 kind, .int .i64 id, .int .i64 n]] w (KR w [] (stepR d kind id n)) := by
  refine go24 ?_
  unfold W24
  have htl := hs.tl
  have hll := hs.ll
  have few := hs.few
  have h := SH.start w
  refine h.alloc (fun w1 h ew1 nw1 => ?_)
  refine h.alloc (fun w2 h ew2 nw2 => ?_)
  refine h.alloc (fun w3 h ew3 nw3 => ?_)
  refine h.alloc (fun w4 h ew4 nw4 => ?_)
  have h : SH w w4 [aB w3.heap.size (ZR.map Ce.v), aB w2.heap.size (ZS.map Ce.v), aB w1.heap.size ((opV kind id n).map Ce.v), aB w.heap.size ((sCells d.Now d.Seq t l).map Ce.v)] := h
  generalize w3.heap.size = rb at *
  generalize w2.heap.size = sb at *
  generalize w1.heap.size = ob at *
  refine ⟨_, h.cell 3 rfl rfl, _, h.cell 3 rfl rfl, t, h.cell 3 rfl rfl, l, h.cell 3 rfl rfl, (c34 (hs.ext h.ext)).mono ?_⟩
  rintro _ w10 ⟨b, rfl, hiff, e10⟩
  have h := h.to e10
  refine ⟨_, rfl, BIf.of (fun hn => ?_) (fun hy => ?_)⟩
  · have hno : ¬ SOk d := fun hh => by rw [hiff.2 hh] at hn; cases hn
    refine retR (t := ⟨none, 0, 0⟩) (l := ⟨none, 0, 0⟩) h 1 0 rfl rfl rfl rfl (by simp) (fun w2 h => ?_)
    unfold stepR
    rw [if_neg hno]
    exact ⟨⟨none, 0, 0⟩, ⟨none, 0, 0⟩, rfl, SH.nil (SH.nil (SH.start w |>.to h.ext) none 2) none 8⟩
  have hok : SOk d := hiff.1 (by simpa using hy)
  obtain ⟨hi, hnow, hseq⟩ := sok_iff.1 hok
  have hres : stepR d kind id n = stepF d kind id n := by unfold stepR; rw [if_pos hok]
  rw [hres]
  refine JoinW.cut1 (fun (p : Option Addr) w' => ∃ (b : Nat) (t' l' : Sl), p = some ⟨b, 0, none⟩ ∧ SH w w' [PB b d t' l', RT t' d.Threads, RL l' d.Locks, aB rb (ZR.map Ce.v), aB sb (ZS.map Ce.v), aB ob ((opV kind id n).map Ce.v), aB w.heap.size ((sCells d.Now d.Seq t l).map Ce.v)]) ?_ ?_
  · have h := h.drew
    refine ⟨_, h.cell 3 rfl rfl, _, h.cell 3 rfl rfl, t, h.cell 3 rfl rfl, l, h.cell 3 rfl rfl, ?_⟩
    refine ⟨?_, ?_⟩
    · skip
      have h := SH.nil h none 8
      refine SH.appendR (f := DThread.cells) (l := []) (us := d.Threads) h (hs.ext h.ext).tr (by omega) (fun _ => rfl) rfl rfl (by decide) (by show (_ + _) * 64 ≤ _; simp; omega) plain_thr (fun l86 w87 h hll86 _ => ?_)
      refine ⟨⟨l, h.cell 4 rfl rfl, rfl⟩, ?_⟩
      refine ⟨⟨_, h.cell 4 rfl rfl, rfl⟩, ?_⟩
      refine ⟨⟨_, h.cell 4 rfl rfl, rfl⟩, ?_⟩
      refine ⟨?_, ?_⟩
      · skip
        have h := SH.nil h none 2
        refine SH.appendR (f := DLock.cells) (l := []) (us := d.Locks) h (hs.ext h.ext).lr (by omega) (fun _ => rfl) rfl rfl (by decide) (by show (_ + _) * 16 ≤ _; simp; omega) plain_lck (fun l101 w102 h hll101 _ => ?_)
        refine ⟨⟨_, h.cell 5 rfl rfl, rfl⟩, ?_⟩
        refine ⟨⟨_, h.cell 5 rfl rfl, rfl⟩, ?_⟩
        refine ⟨?_, trivial⟩
        refine h.alloc (fun w105 h ew105 nw105 => ?_)
        refine ⟨⟨l, h.cell 6 rfl rfl, rfl⟩, ?_⟩
        refine ⟨⟨t, h.cell 6 rfl rfl, rfl⟩, ?_⟩
        refine ⟨⟨_, h.cell 6 rfl rfl, rfl⟩, ?_⟩
        refine ⟨⟨_, h.cell 6 rfl rfl, rfl⟩, ?_⟩
        refine ⟨?_, trivial⟩
        refine h.put 0 rfl rfl rfl (fun w110 h nw110 => ?_)
        exact ⟨_, l86, l101, rfl, (((((((h.front (n := 6) rfl).front (n := 6) rfl).front (n := 6) rfl).front (n := 6) rfl).front (n := 5) rfl).front (n := 6) rfl).front (n := 6) rfl)⟩
      · skip
        refine ⟨?_, trivial⟩
        refine h.alloc (fun w91 h ew91 nw91 => ?_)
        refine ⟨⟨l, h.cell 5 rfl rfl, rfl⟩, ?_⟩
        refine ⟨⟨t, h.cell 5 rfl rfl, rfl⟩, ?_⟩
        refine ⟨⟨_, h.cell 5 rfl rfl, rfl⟩, ?_⟩
        refine ⟨⟨_, h.cell 5 rfl rfl, rfl⟩, ?_⟩
        refine ⟨?_, trivial⟩
        have h := SH.nil h none 2
        refine SH.appendR (f := DLock.cells) (l := []) (us := d.Locks) h (hs.ext h.ext).lr (by omega) (fun _ => rfl) rfl rfl (by decide) (by show (_ + _) * 16 ≤ _; simp; omega) plain_lck (fun l96 w97 h hll96 _ => ?_)
        refine ⟨⟨_, h.cell 6 rfl rfl, rfl⟩, ?_⟩
        refine ⟨⟨_, h.cell 6 rfl rfl, rfl⟩, ?_⟩
        refine ⟨?_, trivial⟩
        refine h.put 1 rfl rfl rfl (fun w100 h nw100 => ?_)
        exact ⟨_, l86, l96, rfl, (((((((h.front (n := 6) rfl).front (n := 6) rfl).front (n := 6) rfl).front (n := 6) rfl).front (n := 4) rfl).front (n := 6) rfl).front (n := 6) rfl)⟩
    · skip
      refine ⟨?_, trivial⟩
      refine h.alloc (fun w71 h ew71 nw71 => ?_)
      refine ⟨⟨l, h.cell 4 rfl rfl, rfl⟩, ?_⟩
      refine ⟨⟨t, h.cell 4 rfl rfl, rfl⟩, ?_⟩
      refine ⟨⟨_, h.cell 4 rfl rfl, rfl⟩, ?_⟩
      refine ⟨⟨_, h.cell 4 rfl rfl, rfl⟩, ?_⟩
      refine ⟨?_, trivial⟩
      have h := SH.nil h none 8
      refine SH.appendR (f := DThread.cells) (l := []) (us := d.Threads) h (hs.ext h.ext).tr (by omega) (fun _ => rfl) rfl rfl (by decide) (by show (_ + _) * 64 ≤ _; simp; omega) plain_thr (fun l76 w77 h hll76 _ => ?_)
      refine ⟨⟨l, h.cell 5 rfl rfl, rfl⟩, ?_⟩
      refine ⟨⟨_, h.cell 5 rfl rfl, rfl⟩, ?_⟩
      refine ⟨⟨_, h.cell 5 rfl rfl, rfl⟩, ?_⟩
      refine ⟨?_, trivial⟩
      have h := SH.nil h none 2
      refine SH.appendR (f := DLock.cells) (l := []) (us := d.Locks) h (hs.ext h.ext).lr (by omega) (fun _ => rfl) rfl rfl (by decide) (by show (_ + _) * 16 ≤ _; simp; omega) plain_lck (fun l81 w82 h hll81 _ => ?_)
      refine ⟨⟨_, h.cell 6 rfl rfl, rfl⟩, ?_⟩
      refine ⟨⟨_, h.cell 6 rfl rfl, rfl⟩, ?_⟩
      refine ⟨?_, trivial⟩
      refine h.put 2 rfl rfl rfl (fun w85 h nw85 => ?_)
      exact ⟨_, l76, l81, rfl, (((((((h.front (n := 6) rfl).front (n := 6) rfl).front (n := 6) rfl).front (n := 6) rfl).front (n := 4) rfl).front (n := 5) rfl).front (n := 6) rfl)⟩

  rintro (p : Option Addr) w22 ⟨b, t', l', rfl, h⟩
  refine ⟨_, h.cell 5 rfl rfl, _, h.cell 5 rfl rfl, _, h.cell 5 rfl rfl, (s68 h hi hnow (by omega)).mono ?_⟩
  rintro _ w27 ⟨t2, l2, rfl, h⟩
  refine ⟨_, _, rfl, ?_⟩
  refine h.alloc (fun w30 h ew30 nw30 => ?_)
  refine h.put 0 rfl rfl rfl (fun w31 h nw31 => ?_)
  refine JoinW.cut0 (fun w' => ∃ t3 l3 : Sl, SH w w' [aB w27.heap.size ((rsV (stepF d kind id n).2.1 (stepF d kind id n).2.2).map Ce.v), PB b (stepF d kind id n).1 t3 l3, RT t3 (stepF d kind id n).1.Threads, RL l3 (stepF d kind id n).1.Locks, aB rb (ZR.map Ce.v), aB sb (ZS.map Ce.v)]) ?_ ?_
  · refine ⟨_, h.cell 0 rfl rfl, BIf.ne (fun hc => ?_) (fun hc => ?_)⟩
    · have hsame := (stepF_same hc).1
      have h := h.drew
      refine ⟨_, h.cell 7 rfl rfl, _, h.cell 7 rfl rfl, t, h.cell 7 rfl rfl, l, h.cell 7 rfl rfl, ?_⟩
      have h := SH.nil h none 8
      refine SH.appendR (f := DThread.cells) (l := []) (us := d.Threads) h (hs.ext h.ext).tr (by omega) (fun _ => rfl) rfl rfl (by decide) (by show (_ + _) * 64 ≤ _; simp; omega) plain_thr (fun l56 w57 h hl56 _ => ?_)
      refine ⟨⟨l, h.cell 8 rfl rfl, rfl⟩, ⟨_, h.cell 8 rfl rfl, rfl⟩, ⟨_, h.cell 8 rfl rfl, rfl⟩, ?_⟩
      have h := SH.nil h none 2
      refine SH.appendR (f := DLock.cells) (l := []) (us := d.Locks) h (hs.ext h.ext).lr (by omega) (fun _ => rfl) rfl rfl (by decide) (by show (_ + _) * 16 ≤ _; simp; omega) plain_lck (fun l61 w62 h hl61 _ => ?_)
      refine ⟨⟨_, h.cell 9 rfl rfl, rfl⟩, ⟨_, h.cell 9 rfl rfl, rfl⟩, ?_⟩
      refine addrOf_mk ?_
      refine h.put 3 rfl rfl rfl (fun w66 h nw66 => ?_)
      rw [hsame]
      exact ⟨l56, l61, ((((((((h.dropAt 9).dropAt 8).dropAt 5).dropAt 4).front (n := 0) rfl).front (n := 1) rfl).front (n := 3) rfl).front (n := 3) rfl)⟩
    · exact ⟨t2, l2, (h.dropAt 7).dropAt 6⟩
  · rintro w33 ⟨t3, l3, h⟩
    refine addrOf_mk ?_
    have h := h.drew
    refine ⟨_, h.cellP 1 rfl rfl, _, h.cellP 1 rfl rfl, t3, h.cellP 1 rfl rfl, l3, h.cellP 1 rfl rfl, _, h.cell 0 rfl rfl, _, h.cell 0 rfl rfl, ?_⟩
    refine h.put 5 rfl rfl rfl (fun w41 h nw41 => ?_)
    refine ⟨⟨_, h.cell 0 rfl rfl, _, h.cell 0 rfl rfl, rfl⟩, ?_⟩
    refine h.put 4 rfl rfl rfl (fun w44 h nw44 => ?_)
    refine ⟨_, h.cell 5 rfl rfl, _, h.cell 5 rfl rfl, t3, h.cell 5 rfl rfl, l3, h.cell 5 rfl rfl, _, h.cell 4 rfl rfl, _, h.cell 4 rfl rfl, ?_⟩
    exact ⟨t3, l3, rfl, (((h.dropAt 5).dropAt 4).dropAt 1).dropAt 0⟩
theorem satOf2 {w0 w : World} {As : List Asr} (h : SH w0 w As) (i j : Nat) {t l : Sl} {d : DSched} (hi : As[i]? = some (RT t d.Threads)) (hj : As[j]? = some (RL l d.Locks)) (hv : Inv0 d) : SAt w t l d := by
  have := hv.few
  exact satOf h i j hi hj ⟨by omega, by omega⟩
theorem stepR_inv {d : DSched} (h : Inv0 d) (hn : d.Now ≤ 1099511627776) (hq : d.Seq ≤ 1099511627776) (kind id n : Int) : stepR d kind id n = stepF d kind id n := by
  unfold stepR
  rw [if_pos (sok_iff.2 ⟨h, hn, hq⟩)]
end Go.Proofs.Yteigefjiifihpaa

/- Draws: the cursor. Conditions: none. -/
set_option linter.unusedVariables false
set_option linter.unusedSimpArgs false
namespace Go.Proofs.Yteigefjiifihpaa
open Go Go.Den
theorem s120 {w0 w : World} {As : List Asr} (h : SH w0 w As) (n : Nat) {cb : Nat} {s : Sl} (hA : As[n]? = some (aC cb s)) (hb : CurB w0 s) :
    CallW Try.prog 120 #[.pointer (some ⟨cb, 0, none⟩)] w (KD w0 As (fun x => 0 ≤ x ∧ x ≤ 255)) := by
  refine go120 ?_
  unfold W120
  have hn := (List.getElem?_eq_some_iff.1 hA).1
  obtain ⟨i, x, hi, h2⟩ := h.openC n hA
  have g : ∀ {A : Asr}, (As.set n A)[n]? = some A := List.getElem?_set_self hn
  refine ⟨_, rfl, _, h2.cellP n g rfl, _, rfl, ?_⟩
  refine h2.setVP n g rfl (fun w4 h4 _ => ?_)
  rw [List.set_set] at h4
  have h5 := h4.drew
  refine ⟨_, rfl, _, h5.cellP n g rfl, by decide, _, rfl, _, h5.cellP n g rfl, by decide, _, rfl, _, h5.drew.cellP n g rfl, _, rfl, s, h5.drew.cellP n g rfl, ?_⟩
  refine BIf.dec (fun hlt => ?_) (fun hge => ?_)
  · have h6 := h5.drew.drew
    obtain ⟨q, m, hq, hc, hm⟩ := hb.at_ i.toNat (by omega)
    have hfew := hb.few
    refine ⟨_, rfl, s, h6.cellP n g rfl, _, rfl, _, h6.cellP n g rfl, hi.1, hlt, q, hq, m, h6.ext.cell hc, _, rfl, _, h6.cellP n g rfl, _, rfl, ?_⟩
    refine h6.setVP n g rfl (fun w22 h7 _ => ?_)
    rw [List.set_set] at h7
    refine ⟨_, rfl, andI_255 _, h7.closeC n hA rfl ?_⟩
    rw [w64 (by omega) (by omega)]; omega
  · exact ⟨_, rfl, andI_255 _, h5.drew.closeC n hA rfl hi⟩
theorem s77 {w0 w : World} {As : List Asr} {k : Int} (h : SH w0 w As) (n : Nat) {cb : Nat} {s : Sl} (hA : As[n]? = some (aC cb s)) (hb : CurB w0 s) :
    CallW Try.prog 77 #[.pointer (some ⟨cb, 0, none⟩), .int .i64 k] w (KD w0 As (below k)) := by
  refine go77 ?_
  unfold W77
  refine BIf.dec (fun h0 => ⟨0, rfl, ⟨Int.le_refl 0, .inr ⟨h0, rfl⟩⟩, h⟩) (fun h0 => ?_)
  have hmod : ∀ x : Int, 0 ≤ x → below k (Int.tmod x k) := fun x hx => by
    have h1 : 0 ≤ x % k := Int.emod_nonneg x (by omega)
    have h2 : x % k < k := Int.emod_lt_of_pos x (by omega)
    rw [Int.tmod_eq_emod_of_nonneg hx]
    exact ⟨h1, .inl h2⟩
  refine BIf.dec (fun h1 => ?_) (fun h1 => ?_)
  · refine (s120 h n hA hb).mono ?_
    rintro _ w2 ⟨x, rfl, hx, h⟩
    exact ⟨x, rfl, by omega, _, rfl, hmod _ hx.1, h⟩
  · refine (s120 h n hA hb).mono ?_
    rintro _ w5 ⟨x, rfl, hx, h⟩
    refine ⟨x, rfl, (s120 h n hA hb).mono ?_⟩
    rintro _ w8 ⟨y, rfl, hy, h⟩
    refine ⟨y, rfl, (s120 h n hA hb).mono ?_⟩
    rintro _ w11 ⟨z, rfl, hz, h⟩
    refine ⟨z, rfl, by omega, _, rfl, ?_, h⟩
    rw [w64 (n := x * 65536) (by omega) (by omega), w64 (n := y * 256) (by omega) (by omega), w64 (n := x * 65536 + y * 256) (by omega) (by omega), w64 (by omega) (by omega)]
    exact hmod _ (by omega)
theorem s78 {w0 w : World} {As : List Asr} {k : Int} (h : SH w0 w As) (n : Nat) {cb : Nat} {s : Sl} (hA : As[n]? = some (aC cb s)) (hb : CurB w0 s) :
    CallW Try.prog 78 #[.pointer (some ⟨cb, 0, none⟩), .int .i64 k] w (KDb w0 As) := by
  refine go78 ?_
  unfold W78
  refine (s77 h n hA hb).mono ?_
  rintro _ w2 ⟨x, rfl, hx, h⟩
  exact ⟨x, rfl, _, rfl, h⟩
theorem s75 {w0 w : World} {F : List Asr} {s : Sl} (h : SH w0 w F) (hb : CurB w0 s) :
    CallW Try.prog 75 #[.slice s.a s.len s.cap] w (fun v w' => ∃ cb, v = .pointer (some ⟨cb, 0, none⟩) ∧ SH w0 w' (aC cb s :: F)) := by
  refine go75 ?_
  unfold W75
  have hfew := hb.few
  refine LoopW.m2 (fun (x i : Int) w' => ∃ m : Nat, i = m ∧ m ≤ s.len ∧ w' = w) (fun _ (i : Int) _ => (s.len - i).toNat) ⟨0, rfl, by omega, rfl⟩ ?_
  rintro (x : Int) (i : Int) w ⟨m, rfl, hm, rfl⟩ J hJ
  refine BIf.dec (fun hlt => ?_) (fun hge => ?_)
  · obtain ⟨q, y, hq, hc, hy⟩ := hb.at_ m (by omega)
    simp only [Int.toNat_natCast]
    refine ⟨by omega, hlt, q, hq, y, h.ext.cell hc, ?_⟩
    rw [w64 (n := (m : Int) + 1) (by omega) (by omega)]
    exact hJ _ _ _ ⟨m + 1, by omega, by omega, rfl⟩ (by omega)
  · refine h.alloc (fun w7 h e7 n7 => ?_)
    exact ⟨w.heap.size, rfl, SH.closeC (As := aC w.heap.size s :: _) 0 rfl h rfl (by omega)⟩
theorem c29 {s : Sl} {w : World} : CallW Try.prog 29 #[.slice s.a s.len s.cap] w (fun v w' => v = .bool (decide ((s.len : Int) > 1048576)) ∧ w' = w) := by
  refine go29 ?_
  unfold W29
  exact ⟨rfl, rfl⟩
end Go.Proofs.Yteigefjiifihpaa

/- Draws: an operation on a scheduler (the body printed by a program). Conditions: none. -/
set_option linter.unusedVariables false
set_option linter.unusedSimpArgs false
namespace Go.Proofs.Yteigefjiifihpaa
open Go Go.Den
theorem s87 {w0 w : World} {F : List Asr} {cb : Nat} {s t l : Sl} {d : DSched} (h : SH w0 w (aC cb s :: RT t d.Threads :: RL l d.Locks :: F)) (hb : CurB w0 s) (hf : d.Threads.length ≤ 1048576 ∧ d.Locks.length ≤ 1048576) :
    CallW Try.prog 87 #[.pointer (some ⟨cb, 0, none⟩), sAgg d.Now d.Seq t l] w (fun v w' => ∃ x y z : Int, v = .agg #[.int .i64 x, .int .i64 y, .int .i64 z] ∧ SH w0 w' (aC cb s :: RT t d.Threads :: RL l d.Locks :: F)) := by
  refine go87 ?_
  unfold W87
  have htl := h.len 1 rfl
  rw [recs_len] at htl
  have hll := h.len 2 rfl
  rw [recs_len] at hll
  refine h.alloc (fun w1 h ew1 nw1 => ?_)
  refine h.alloc (fun w2 h ew2 nw2 => ?_)
  have h : SH w0 w2 (aI w1.heap.size 3 (fun _ => True) :: aB w.heap.size ([.int .i64 d.Now, .int .i64 d.Seq, .slice t.a t.len t.cap, .slice l.a l.len l.cap].map Ce.v) :: aC cb s :: RT t d.Threads :: RL l d.Locks :: F) := h.toI 0 [0, 0, 0] rfl rfl (fun _ _ => trivial)
  refine h.alloc (fun w3 h ew3 nw3 => ?_)
  have h : SH w0 w3 (aI w2.heap.size 3 (fun _ => True) :: aI w1.heap.size 3 (fun _ => True) :: aB w.heap.size ([.int .i64 d.Now, .int .i64 d.Seq, .slice t.a t.len t.cap, .slice l.a l.len l.cap].map Ce.v) :: aC cb s :: RT t d.Threads :: RL l d.Locks :: F) := h.toI 0 [0, 0, 0] rfl rfl (fun _ _ => trivial)
  refine h.pI 0 [3, 0, 0] rfl rfl rfl (fun _ _ => trivial) (fun w4 h => ?_)
  refine ⟨t, h.cell 2 rfl rfl, ?_⟩
  refine JoinW.cut1 (fun (b6 : Bool) w' => (b6 = false → 0 < d.Threads.length) ∧ SH w0 w' (aI w2.heap.size 3 (fun _ => True) :: aI w1.heap.size 3 (fun _ => True) :: aB w.heap.size ([.int .i64 d.Now, .int .i64 d.Seq, .slice t.a t.len t.cap, .slice l.a l.len l.cap].map Ce.v) :: aC cb s :: RT t d.Threads :: RL l d.Locks :: F)) ?_ ?_
  · skip
    refine BIf.of (fun c1 => ?_) (fun c1 => ?_)
    · skip
      try have hpos := hpos c1
      try have hlk := hlk c1
      try simp only [Bool.or_eq_true, Bool.and_eq_true, Bool.or_eq_false_iff, Bool.not_eq_true', Bool.not_eq_false', decide_eq_true_eq, decide_eq_false_iff_not, beq_iff_eq, beq_eq_false_iff_ne, bne_iff_ne, bne_eq_false_iff_eq, ne_eq] at c1
      exact ⟨(by first | (intro hx; cases hx; done) | (intro hx; omega) | (intro hx; simp at hx)), h⟩
    · skip
      try have hpos := hpos c1
      try have hlk := hlk c1
      try simp only [Bool.or_eq_true, Bool.and_eq_true, Bool.or_eq_false_iff, Bool.not_eq_true', Bool.not_eq_false', decide_eq_true_eq, decide_eq_false_iff_not, beq_iff_eq, beq_eq_false_iff_ne, bne_iff_ne, bne_eq_false_iff_eq, ne_eq] at c1
      refine (s78 h 3 rfl hb).mono ?_
      rintro _ w148 ⟨b149, rfl, h⟩
      refine ⟨b149, rfl, ?_⟩
      exact ⟨(by first | (intro hx; cases hx; done) | (intro hx; omega) | (intro hx; simp at hx)), h⟩
  · clear h
    rintro (b6 : Bool) w8 ⟨hpos, h⟩
    refine BIf.of (fun c2 => ?_) (fun c2 => ?_)
    · skip
      try have hpos := hpos c2
      try have hlk := hlk c2
      try simp only [Bool.or_eq_true, Bool.and_eq_true, Bool.or_eq_false_iff, Bool.not_eq_true', Bool.not_eq_false', decide_eq_true_eq, decide_eq_false_iff_not, beq_iff_eq, beq_eq_false_iff_ne, bne_iff_ne, bne_eq_false_iff_eq, ne_eq] at c2
      refine h.sI 0 rfl (by decide) trivial (fun w9 h => ?_)
      refine (s77 h 3 rfl hb).mono ?_
      rintro _ w11 ⟨n12, rfl, ⟨pn12a, pn12b⟩, h⟩
      refine ⟨n12, rfl, ?_⟩
      refine h.sI 0 rfl (by decide) trivial (fun w13 h => ?_)
      refine JoinW.cut0 (fun w' => SH w0 w' (aI w2.heap.size 3 (fun _ => True) :: aI w1.heap.size 3 (fun _ => True) :: aB w.heap.size ([.int .i64 d.Now, .int .i64 d.Seq, .slice t.a t.len t.cap, .slice l.a l.len l.cap].map Ce.v) :: aC cb s :: RT t d.Threads :: RL l d.Locks :: F)) ?_ ?_
      · skip
        refine (s78 h 3 rfl hb).mono ?_
        rintro _ w24 ⟨b25, rfl, h⟩
        refine ⟨b25, rfl, ?_⟩
        refine BIf.of (fun c3 => ?_) (fun c3 => ?_)
        · skip
          try have hpos := hpos c3
          try have hlk := hlk c3
          try simp only [Bool.or_eq_true, Bool.and_eq_true, Bool.or_eq_false_iff, Bool.not_eq_true', Bool.not_eq_false', decide_eq_true_eq, decide_eq_false_iff_not, beq_iff_eq, beq_eq_false_iff_ne, bne_iff_ne, bne_eq_false_iff_eq, ne_eq] at c3
          refine h.alloc (fun w26 h ew26 nw26 => ?_)
          have h : SH w0 w26 (aI w24.heap.size 2 (fun _ => True) :: aI w2.heap.size 3 (fun _ => True) :: aI w1.heap.size 3 (fun _ => True) :: aB w.heap.size ([.int .i64 d.Now, .int .i64 d.Seq, .slice t.a t.len t.cap, .slice l.a l.len l.cap].map Ce.v) :: aC cb s :: RT t d.Threads :: RL l d.Locks :: F) := h.toI 0 [(-1), 8] rfl rfl (fun _ _ => trivial)
          refine (s77 h 4 rfl hb).mono ?_
          rintro _ w28 ⟨n29, rfl, ⟨pn29a, pn29b⟩, h⟩
          refine ⟨n29, rfl, ?_⟩
          refine ⟨by omega, ?_⟩
          refine ⟨by omega, ?_⟩
          refine ⟨_, rfl, ?_⟩
          obtain ⟨k4, rfl⟩ := Int.eq_ofNat_of_zero_le pn29a
          rw [Int.toNat_natCast]
          refine h.rIx 0 rfl (by omega) (fun n31 pn31 => ?_)
          refine h.sI 1 rfl (by decide) trivial (fun w32 h => ?_)
          exact h.drop
        · skip
          try have hpos := hpos c3
          try have hlk := hlk c3
          try simp only [Bool.or_eq_true, Bool.and_eq_true, Bool.or_eq_false_iff, Bool.not_eq_true', Bool.not_eq_false', decide_eq_true_eq, decide_eq_false_iff_not, beq_iff_eq, beq_eq_false_iff_ne, bne_iff_ne, bne_eq_false_iff_eq, ne_eq] at c3
          exact h
      · clear h
        intro w15 h
        refine h.rI 0 rfl (by decide) (fun n16 pn16 => ?_)
        refine h.rI 0 rfl (by decide) (fun n17 pn17 => ?_)
        refine h.rI 0 rfl (by decide) (fun n18 pn18 => ?_)
        refine h.pI 1 [n16, n17, n18] rfl rfl rfl (fun _ _ => trivial) (fun w19 h => ?_)
        refine h.rI 1 rfl (by decide) (fun n20 pn20 => ?_)
        refine h.rI 1 rfl (by decide) (fun n21 pn21 => ?_)
        refine h.rI 1 rfl (by decide) (fun n22 pn22 => ?_)
        exact ⟨_, _, _, rfl, h.drop.drop.drop⟩
    · skip
      try have hpos := hpos c2
      try have hlk := hlk c2
      try simp only [Bool.or_eq_true, Bool.and_eq_true, Bool.or_eq_false_iff, Bool.not_eq_true', Bool.not_eq_false', decide_eq_true_eq, decide_eq_false_iff_not, beq_iff_eq, beq_eq_false_iff_ne, bne_iff_ne, bne_eq_false_iff_eq, ne_eq] at c2
      refine ⟨t, h.cell 2 rfl rfl, ?_⟩
      refine ⟨t, h.cell 2 rfl rfl, ?_⟩
      have h := h.drew
      refine (s77 h 3 rfl hb).mono ?_
      rintro _ w36 ⟨n37, rfl, ⟨pn37a, pn37b⟩, h⟩
      refine ⟨n37, rfl, ?_⟩
      refine ⟨⟨t, h.cell 2 rfl rfl, (by first | rfl | trivial)⟩, ?_⟩
      refine ⟨by omega, ?_⟩
      refine ⟨by omega, ?_⟩
      obtain ⟨k5, rfl⟩ := Int.eq_ofNat_of_zero_le pn37a
      simp only [Int.toNat_natCast]
      have hgq39 : d.Threads[k5]? = some d.Threads[k5] := List.getElem?_eq_getElem (by omega)
      obtain ⟨q39, hqq39⟩ := h.rowQ 4 rfl hgq39
      refine ⟨q39, hqq39, ?_⟩
      refine ⟨_, h.rdR 4 rfl hqq39 hgq39 rfl, ?_⟩
      refine h.sI 0 rfl (by decide) trivial (fun w41 h => ?_)
      refine (s77 h 3 rfl hb).mono ?_
      rintro _ w43 ⟨n44, rfl, ⟨pn44a, pn44b⟩, h⟩
      refine ⟨n44, rfl, ?_⟩
      refine h.sI 0 rfl (by decide) trivial (fun w45 h => ?_)
      refine (s77 h 3 rfl hb).mono ?_
      rintro _ w47 ⟨n48, rfl, ⟨pn48a, pn48b⟩, h⟩
      refine ⟨n48, rfl, ?_⟩
      refine JoinW.cut0 (fun w' => SH w0 w' (aI w2.heap.size 3 (fun _ => True) :: aI w1.heap.size 3 (fun _ => True) :: aB w.heap.size ([.int .i64 d.Now, .int .i64 d.Seq, .slice t.a t.len t.cap, .slice l.a l.len l.cap].map Ce.v) :: aC cb s :: RT t d.Threads :: RL l d.Locks :: F)) ?_ ?_
      · skip
        refine BIf.of (fun c6 => ?_) (fun c6 => ?_)
        · skip
          try have hpos := hpos c6
          try have hlk := hlk c6
          try simp only [Bool.or_eq_true, Bool.and_eq_true, Bool.or_eq_false_iff, Bool.not_eq_true', Bool.not_eq_false', decide_eq_true_eq, decide_eq_false_iff_not, beq_iff_eq, beq_eq_false_iff_ne, bne_iff_ne, bne_eq_false_iff_eq, ne_eq] at c6
          refine h.sI 0 rfl (by decide) trivial (fun w91 h => ?_)
          exact h
        · skip
          try have hpos := hpos c6
          try have hlk := hlk c6
          try simp only [Bool.or_eq_true, Bool.and_eq_true, Bool.or_eq_false_iff, Bool.not_eq_true', Bool.not_eq_false', decide_eq_true_eq, decide_eq_false_iff_not, beq_iff_eq, beq_eq_false_iff_ne, bne_iff_ne, bne_eq_false_iff_eq, ne_eq] at c6
          refine BIf.of (fun c7 => ?_) (fun c7 => ?_)
          · skip
            try have hpos := hpos c7
            try have hlk := hlk c7
            try simp only [Bool.or_eq_true, Bool.and_eq_true, Bool.or_eq_false_iff, Bool.not_eq_true', Bool.not_eq_false', decide_eq_true_eq, decide_eq_false_iff_not, beq_iff_eq, beq_eq_false_iff_ne, bne_iff_ne, bne_eq_false_iff_eq, ne_eq] at c7
            refine h.sI 0 rfl (by decide) trivial (fun w92 h => ?_)
            refine ⟨l, h.cell 2 rfl rfl, ?_⟩
            refine JoinW.cut1 (fun (b94 : Bool) w' => (b94 = true → 0 < d.Locks.length) ∧ SH w0 w' (aI w2.heap.size 3 (fun _ => True) :: aI w1.heap.size 3 (fun _ => True) :: aB w.heap.size ([.int .i64 d.Now, .int .i64 d.Seq, .slice t.a t.len t.cap, .slice l.a l.len l.cap].map Ce.v) :: aC cb s :: RT t d.Threads :: RL l d.Locks :: F)) ?_ ?_
            · skip
              refine BIf.of (fun c8 => ?_) (fun c8 => ?_)
              · skip
                try have hpos := hpos c8
                try have hlk := hlk c8
                try simp only [Bool.or_eq_true, Bool.and_eq_true, Bool.or_eq_false_iff, Bool.not_eq_true', Bool.not_eq_false', decide_eq_true_eq, decide_eq_false_iff_not, beq_iff_eq, beq_eq_false_iff_ne, bne_iff_ne, bne_eq_false_iff_eq, ne_eq] at c8
                refine (s78 h 3 rfl hb).mono ?_
                rintro _ w133 ⟨b134, rfl, h⟩
                refine ⟨b134, rfl, ?_⟩
                exact ⟨(by first | (intro hx; cases hx; done) | (intro hx; omega)), h⟩
              · skip
                try have hpos := hpos c8
                try have hlk := hlk c8
                try simp only [Bool.or_eq_true, Bool.and_eq_true, Bool.or_eq_false_iff, Bool.not_eq_true', Bool.not_eq_false', decide_eq_true_eq, decide_eq_false_iff_not, beq_iff_eq, beq_eq_false_iff_ne, bne_iff_ne, bne_eq_false_iff_eq, ne_eq] at c8
                exact ⟨(by first | (intro hx; cases hx; done) | (intro hx; omega)), h⟩
            · clear h
              rintro (b94 : Bool) w96 ⟨hlk, h⟩
              refine BIf.of (fun c9 => ?_) (fun c9 => ?_)
              · skip
                try have hpos := hpos c9
                try have hlk := hlk c9
                try simp only [Bool.or_eq_true, Bool.and_eq_true, Bool.or_eq_false_iff, Bool.not_eq_true', Bool.not_eq_false', decide_eq_true_eq, decide_eq_false_iff_not, beq_iff_eq, beq_eq_false_iff_ne, bne_iff_ne, bne_eq_false_iff_eq, ne_eq] at c9
                refine JoinW.cut1 (fun (p97 : Option Addr) w' => ∃ b10,  p97 = some ⟨b10, 0, none⟩ ∧ SH w0 w' (aI b10 2 (fun _ => True) :: aI w2.heap.size 3 (fun _ => True) :: aI w1.heap.size 3 (fun _ => True) :: aB w.heap.size ([.int .i64 d.Now, .int .i64 d.Seq, .slice t.a t.len t.cap, .slice l.a l.len l.cap].map Ce.v) :: aC cb s :: RT t d.Threads :: RL l d.Locks :: F)) ?_ ?_
                · skip
                  refine ⟨l, h.cell 2 rfl rfl, ?_⟩
                  refine ⟨l, h.cell 2 rfl rfl, ?_⟩
                  refine ⟨?_, ?_⟩
                  · skip
                    have h := h.drew
                    refine (s77 h 3 rfl hb).mono ?_
                    rintro _ w120 ⟨n121, rfl, ⟨pn121a, pn121b⟩, h⟩
                    refine ⟨n121, rfl, ?_⟩
                    refine ⟨⟨l, h.cell 2 rfl rfl, (by first | rfl | trivial)⟩, ?_⟩
                    refine ⟨by omega, ?_⟩
                    refine ⟨by omega, ?_⟩
                    obtain ⟨k11, rfl⟩ := Int.eq_ofNat_of_zero_le pn121a
                    simp only [Int.toNat_natCast]
                    have hgq123 : d.Locks[k11]? = some d.Locks[k11] := List.getElem?_eq_getElem (by omega)
                    obtain ⟨q123, hqq123⟩ := h.rowQ 5 rfl hgq123
                    refine ⟨q123, hqq123, ?_⟩
                    refine ⟨_, h.rdR 5 rfl hqq123 hgq123 rfl, ?_⟩
                    refine ⟨_, h.rdR 5 rfl hqq123 hgq123 rfl, ?_⟩
                    refine ⟨?_, trivial⟩
                    refine h.alloc (fun w126 h ew126 nw126 => ?_)
                    have h : SH w0 w126 (aI w120.heap.size 2 (fun _ => True) :: aI w2.heap.size 3 (fun _ => True) :: aI w1.heap.size 3 (fun _ => True) :: aB w.heap.size ([.int .i64 d.Now, .int .i64 d.Seq, .slice t.a t.len t.cap, .slice l.a l.len l.cap].map Ce.v) :: aC cb s :: RT t d.Threads :: RL l d.Locks :: F) := h.toI 0 [0, 0] rfl rfl (fun _ _ => trivial)
                    refine ⟨⟨_, h.rdR 6 rfl hqq123 hgq123 rfl, _, h.rdR 6 rfl hqq123 hgq123 rfl, (by first | rfl | trivial)⟩, ?_⟩
                    refine ⟨(by first | rfl | trivial), ?_⟩
                    refine ⟨⟨l, h.cell 3 rfl rfl, (by first | rfl | trivial)⟩, ?_⟩
                    refine ⟨⟨l, h.cell 3 rfl rfl, (by first | rfl | trivial)⟩, ?_⟩
                    refine ⟨?_, trivial⟩
                    refine h.pI 0 [_, _] rfl rfl rfl (fun _ _ => trivial) (fun w131 h => ?_)
                    exact ⟨_, rfl, (h.front (n := 0) rfl)⟩
                  · skip
                    refine ⟨?_, trivial⟩
                    have h := h.drew
                    refine h.alloc (fun w108 h ew108 nw108 => ?_)
                    have h : SH w0 w108 (aI w96.drew.heap.size 2 (fun _ => True) :: aI w2.heap.size 3 (fun _ => True) :: aI w1.heap.size 3 (fun _ => True) :: aB w.heap.size ([.int .i64 d.Now, .int .i64 d.Seq, .slice t.a t.len t.cap, .slice l.a l.len l.cap].map Ce.v) :: aC cb s :: RT t d.Threads :: RL l d.Locks :: F) := h.toI 0 [0, 0] rfl rfl (fun _ _ => trivial)
                    refine ⟨(by first | rfl | trivial), ?_⟩
                    refine ⟨⟨l, h.cell 3 rfl rfl, (by first | rfl | trivial)⟩, ?_⟩
                    refine ⟨⟨l, h.cell 3 rfl rfl, (by first | rfl | trivial)⟩, ?_⟩
                    refine ⟨?_, trivial⟩
                    refine (s77 h 4 rfl hb).mono ?_
                    rintro _ w112 ⟨n113, rfl, ⟨pn113a, pn113b⟩, h⟩
                    refine ⟨n113, rfl, ?_⟩
                    refine ⟨⟨l, h.cell 3 rfl rfl, (by first | rfl | trivial)⟩, ?_⟩
                    refine ⟨by omega, ?_⟩
                    refine ⟨by omega, ?_⟩
                    obtain ⟨k12, rfl⟩ := Int.eq_ofNat_of_zero_le pn113a
                    simp only [Int.toNat_natCast]
                    have hgq115 : d.Locks[k12]? = some d.Locks[k12] := List.getElem?_eq_getElem (by omega)
                    obtain ⟨q115, hqq115⟩ := h.rowQ 6 rfl hgq115
                    refine ⟨q115, hqq115, ?_⟩
                    refine ⟨_, h.rdR 6 rfl hqq115 hgq115 rfl, ?_⟩
                    refine ⟨_, h.rdR 6 rfl hqq115 hgq115 rfl, ?_⟩
                    refine ⟨?_, trivial⟩
                    refine h.pI 0 [_, _] rfl rfl rfl (fun _ _ => trivial) (fun w118 h => ?_)
                    exact ⟨_, rfl, (h.front (n := 0) rfl)⟩
                · clear h
                  rintro (p97 : Option Addr) w99 ⟨b10, rfl, h⟩
                  refine addrOf_mk ?_
                  refine h.rIP 0 rfl (by decide) (fun n101 pn101 => ?_)
                  refine h.sI 1 rfl (by decide) trivial (fun w102 h => ?_)
                  refine addrOf_mk ?_
                  refine h.rIP 0 rfl (by decide) (fun n104 pn104 => ?_)
                  refine h.sI 1 rfl (by decide) trivial (fun w105 h => ?_)
                  exact h.drop
              · skip
                try have hpos := hpos c9
                try have hlk := hlk c9
                try simp only [Bool.or_eq_true, Bool.and_eq_true, Bool.or_eq_false_iff, Bool.not_eq_true', Bool.not_eq_false', decide_eq_true_eq, decide_eq_false_iff_not, beq_iff_eq, beq_eq_false_iff_ne, bne_iff_ne, bne_eq_false_iff_eq, ne_eq] at c9
                exact h
          · skip
            try have hpos := hpos c7
            try have hlk := hlk c7
            try simp only [Bool.or_eq_true, Bool.and_eq_true, Bool.or_eq_false_iff, Bool.not_eq_true', Bool.not_eq_false', decide_eq_true_eq, decide_eq_false_iff_not, beq_iff_eq, beq_eq_false_iff_ne, bne_iff_ne, bne_eq_false_iff_eq, ne_eq] at c7
            refine BIf.of (fun c13 => ?_) (fun c13 => ?_)
            · skip
              try have hpos := hpos c13
              try have hlk := hlk c13
              try simp only [Bool.or_eq_true, Bool.and_eq_true, Bool.or_eq_false_iff, Bool.not_eq_true', Bool.not_eq_false', decide_eq_true_eq, decide_eq_false_iff_not, beq_iff_eq, beq_eq_false_iff_ne, bne_iff_ne, bne_eq_false_iff_eq, ne_eq] at c13
              refine h.sI 0 rfl (by decide) trivial (fun w135 h => ?_)
              exact h
            · skip
              try have hpos := hpos c13
              try have hlk := hlk c13
              try simp only [Bool.or_eq_true, Bool.and_eq_true, Bool.or_eq_false_iff, Bool.not_eq_true', Bool.not_eq_false', decide_eq_true_eq, decide_eq_false_iff_not, beq_iff_eq, beq_eq_false_iff_ne, bne_iff_ne, bne_eq_false_iff_eq, ne_eq] at c13
              refine BIf.of (fun c14 => ?_) (fun c14 => ?_)
              · skip
                try have hpos := hpos c14
                try have hlk := hlk c14
                try simp only [Bool.or_eq_true, Bool.and_eq_true, Bool.or_eq_false_iff, Bool.not_eq_true', Bool.not_eq_false', decide_eq_true_eq, decide_eq_false_iff_not, beq_iff_eq, beq_eq_false_iff_ne, bne_iff_ne, bne_eq_false_iff_eq, ne_eq] at c14
                refine h.sI 0 rfl (by decide) trivial (fun w136 h => ?_)
                refine (s77 h 3 rfl hb).mono ?_
                rintro _ w138 ⟨n139, rfl, ⟨pn139a, pn139b⟩, h⟩
                refine ⟨n139, rfl, ?_⟩
                refine h.sI 0 rfl (by decide) trivial (fun w140 h => ?_)
                exact h
              · skip
                try have hpos := hpos c14
                try have hlk := hlk c14
                try simp only [Bool.or_eq_true, Bool.and_eq_true, Bool.or_eq_false_iff, Bool.not_eq_true', Bool.not_eq_false', decide_eq_true_eq, decide_eq_false_iff_not, beq_iff_eq, beq_eq_false_iff_ne, bne_iff_ne, bne_eq_false_iff_eq, ne_eq] at c14
                refine BIf.of (fun c15 => ?_) (fun c15 => ?_)
                · skip
                  try have hpos := hpos c15
                  try have hlk := hlk c15
                  try simp only [Bool.or_eq_true, Bool.and_eq_true, Bool.or_eq_false_iff, Bool.not_eq_true', Bool.not_eq_false', decide_eq_true_eq, decide_eq_false_iff_not, beq_iff_eq, beq_eq_false_iff_ne, bne_iff_ne, bne_eq_false_iff_eq, ne_eq] at c15
                  refine h.sI 0 rfl (by decide) trivial (fun w141 h => ?_)
                  exact h
                · skip
                  try have hpos := hpos c15
                  try have hlk := hlk c15
                  try simp only [Bool.or_eq_true, Bool.and_eq_true, Bool.or_eq_false_iff, Bool.not_eq_true', Bool.not_eq_false', decide_eq_true_eq, decide_eq_false_iff_not, beq_iff_eq, beq_eq_false_iff_ne, bne_iff_ne, bne_eq_false_iff_eq, ne_eq] at c15
                  refine BIf.of (fun c16 => ?_) (fun c16 => ?_)
                  · skip
                    try have hpos := hpos c16
                    try have hlk := hlk c16
                    try simp only [Bool.or_eq_true, Bool.and_eq_true, Bool.or_eq_false_iff, Bool.not_eq_true', Bool.not_eq_false', decide_eq_true_eq, decide_eq_false_iff_not, beq_iff_eq, beq_eq_false_iff_ne, bne_iff_ne, bne_eq_false_iff_eq, ne_eq] at c16
                    refine h.sI 0 rfl (by decide) trivial (fun w142 h => ?_)
                    refine (s77 h 3 rfl hb).mono ?_
                    rintro _ w144 ⟨n145, rfl, ⟨pn145a, pn145b⟩, h⟩
                    refine ⟨n145, rfl, ?_⟩
                    refine h.sI 0 rfl (by decide) trivial (fun w146 h => ?_)
                    exact h
                  · skip
                    try have hpos := hpos c16
                    try have hlk := hlk c16
                    try simp only [Bool.or_eq_true, Bool.and_eq_true, Bool.or_eq_false_iff, Bool.not_eq_true', Bool.not_eq_false', decide_eq_true_eq, decide_eq_false_iff_not, beq_iff_eq, beq_eq_false_iff_ne, bne_iff_ne, bne_eq_false_iff_eq, ne_eq] at c16
                    exact h
      · clear h
        intro w50 h
        refine JoinW.cut0 (fun w' => SH w0 w' (aI w2.heap.size 3 (fun _ => True) :: aI w1.heap.size 3 (fun _ => True) :: aB w.heap.size ([.int .i64 d.Now, .int .i64 d.Seq, .slice t.a t.len t.cap, .slice l.a l.len l.cap].map Ce.v) :: aC cb s :: RT t d.Threads :: RL l d.Locks :: F)) ?_ ?_
        · skip
          refine (s78 h 3 rfl hb).mono ?_
          rintro _ w85 ⟨b86, rfl, h⟩
          refine ⟨b86, rfl, ?_⟩
          refine BIf.of (fun c17 => ?_) (fun c17 => ?_)
          · skip
            try have hpos := hpos c17
            try have hlk := hlk c17
            try simp only [Bool.or_eq_true, Bool.and_eq_true, Bool.or_eq_false_iff, Bool.not_eq_true', Bool.not_eq_false', decide_eq_true_eq, decide_eq_false_iff_not, beq_iff_eq, beq_eq_false_iff_ne, bne_iff_ne, bne_eq_false_iff_eq, ne_eq] at c17
            refine (s77 h 3 rfl hb).mono ?_
            rintro _ w88 ⟨n89, rfl, ⟨pn89a, pn89b⟩, h⟩
            refine ⟨n89, rfl, ?_⟩
            refine h.sI 0 rfl (by decide) trivial (fun w90 h => ?_)
            exact h
          · skip
            try have hpos := hpos c17
            try have hlk := hlk c17
            try simp only [Bool.or_eq_true, Bool.and_eq_true, Bool.or_eq_false_iff, Bool.not_eq_true', Bool.not_eq_false', decide_eq_true_eq, decide_eq_false_iff_not, beq_iff_eq, beq_eq_false_iff_ne, bne_iff_ne, bne_eq_false_iff_eq, ne_eq] at c17
            exact h
        · clear h
          intro w52 h
          refine JoinW.cut0 (fun w' => SH w0 w' (aI w2.heap.size 3 (fun _ => True) :: aI w1.heap.size 3 (fun _ => True) :: aB w.heap.size ([.int .i64 d.Now, .int .i64 d.Seq, .slice t.a t.len t.cap, .slice l.a l.len l.cap].map Ce.v) :: aC cb s :: RT t d.Threads :: RL l d.Locks :: F)) ?_ ?_
          · skip
            refine (s78 h 3 rfl hb).mono ?_
            rintro _ w75 ⟨b76, rfl, h⟩
            refine ⟨b76, rfl, ?_⟩
            refine BIf.of (fun c18 => ?_) (fun c18 => ?_)
            · skip
              try have hpos := hpos c18
              try have hlk := hlk c18
              try simp only [Bool.or_eq_true, Bool.and_eq_true, Bool.or_eq_false_iff, Bool.not_eq_true', Bool.not_eq_false', decide_eq_true_eq, decide_eq_false_iff_not, beq_iff_eq, beq_eq_false_iff_ne, bne_iff_ne, bne_eq_false_iff_eq, ne_eq] at c18
              refine h.alloc (fun w77 h ew77 nw77 => ?_)
              have h : SH w0 w77 (aI w75.heap.size 8 (fun _ => True) :: aI w2.heap.size 3 (fun _ => True) :: aI w1.heap.size 3 (fun _ => True) :: aB w.heap.size ([.int .i64 d.Now, .int .i64 d.Seq, .slice t.a t.len t.cap, .slice l.a l.len l.cap].map Ce.v) :: aC cb s :: RT t d.Threads :: RL l d.Locks :: F) := h.toI 0 [(-1), 8, 16, 15, 1000, 1001, 0, 4611686018427387904] rfl rfl (fun _ _ => trivial)
              refine (s77 h 4 rfl hb).mono ?_
              rintro _ w79 ⟨n80, rfl, ⟨pn80a, pn80b⟩, h⟩
              refine ⟨n80, rfl, ?_⟩
              refine ⟨by omega, ?_⟩
              refine ⟨by omega, ?_⟩
              refine ⟨_, rfl, ?_⟩
              obtain ⟨k19, rfl⟩ := Int.eq_ofNat_of_zero_le pn80a
              rw [Int.toNat_natCast]
              refine h.rIx 0 rfl (by omega) (fun n82 pn82 => ?_)
              refine h.sI 1 rfl (by decide) trivial (fun w83 h => ?_)
              exact h.drop
            · skip
              try have hpos := hpos c18
              try have hlk := hlk c18
              try simp only [Bool.or_eq_true, Bool.and_eq_true, Bool.or_eq_false_iff, Bool.not_eq_true', Bool.not_eq_false', decide_eq_true_eq, decide_eq_false_iff_not, beq_iff_eq, beq_eq_false_iff_ne, bne_iff_ne, bne_eq_false_iff_eq, ne_eq] at c18
              exact h
          · clear h
            intro w54 h
            refine JoinW.cut0 (fun w' => SH w0 w' (aI w2.heap.size 3 (fun _ => True) :: aI w1.heap.size 3 (fun _ => True) :: aB w.heap.size ([.int .i64 d.Now, .int .i64 d.Seq, .slice t.a t.len t.cap, .slice l.a l.len l.cap].map Ce.v) :: aC cb s :: RT t d.Threads :: RL l d.Locks :: F)) ?_ ?_
            · skip
              refine (s78 h 3 rfl hb).mono ?_
              rintro _ w65 ⟨b66, rfl, h⟩
              refine ⟨b66, rfl, ?_⟩
              refine BIf.of (fun c20 => ?_) (fun c20 => ?_)
              · skip
                try have hpos := hpos c20
                try have hlk := hlk c20
                try simp only [Bool.or_eq_true, Bool.and_eq_true, Bool.or_eq_false_iff, Bool.not_eq_true', Bool.not_eq_false', decide_eq_true_eq, decide_eq_false_iff_not, beq_iff_eq, beq_eq_false_iff_ne, bne_iff_ne, bne_eq_false_iff_eq, ne_eq] at c20
                refine h.alloc (fun w67 h ew67 nw67 => ?_)
                have h : SH w0 w67 (aI w65.heap.size 4 (fun _ => True) :: aI w2.heap.size 3 (fun _ => True) :: aI w1.heap.size 3 (fun _ => True) :: aB w.heap.size ([.int .i64 d.Now, .int .i64 d.Seq, .slice t.a t.len t.cap, .slice l.a l.len l.cap].map Ce.v) :: aC cb s :: RT t d.Threads :: RL l d.Locks :: F) := h.toI 0 [(-1), 31, 32, 4611686018427387904] rfl rfl (fun _ _ => trivial)
                refine (s77 h 4 rfl hb).mono ?_
                rintro _ w69 ⟨n70, rfl, ⟨pn70a, pn70b⟩, h⟩
                refine ⟨n70, rfl, ?_⟩
                refine ⟨by omega, ?_⟩
                refine ⟨by omega, ?_⟩
                refine ⟨_, rfl, ?_⟩
                obtain ⟨k21, rfl⟩ := Int.eq_ofNat_of_zero_le pn70a
                rw [Int.toNat_natCast]
                refine h.rIx 0 rfl (by omega) (fun n72 pn72 => ?_)
                refine h.sI 1 rfl (by decide) trivial (fun w73 h => ?_)
                exact h.drop
              · skip
                try have hpos := hpos c20
                try have hlk := hlk c20
                try simp only [Bool.or_eq_true, Bool.and_eq_true, Bool.or_eq_false_iff, Bool.not_eq_true', Bool.not_eq_false', decide_eq_true_eq, decide_eq_false_iff_not, beq_iff_eq, beq_eq_false_iff_ne, bne_iff_ne, bne_eq_false_iff_eq, ne_eq] at c20
                exact h
            · clear h
              intro w56 h
              refine h.rI 0 rfl (by decide) (fun n57 pn57 => ?_)
              refine h.rI 0 rfl (by decide) (fun n58 pn58 => ?_)
              refine h.rI 0 rfl (by decide) (fun n59 pn59 => ?_)
              refine h.pI 1 [n57, n58, n59] rfl rfl rfl (fun _ _ => trivial) (fun w60 h => ?_)
              refine h.rI 1 rfl (by decide) (fun n61 pn61 => ?_)
              refine h.rI 1 rfl (by decide) (fun n62 pn62 => ?_)
              refine h.rI 1 rfl (by decide) (fun n63 pn63 => ?_)
              exact ⟨_, _, _, rfl, h.drop.drop.drop⟩
end Go.Proofs.Yteigefjiifihpaa

/- Draws: operations on a scheduler, one behind the other. Conditions: none. -/
set_option linter.unusedVariables false
set_option linter.unusedSimpArgs false
namespace Go.Proofs.Yteigefjiifihpaa
open Go Go.Den
abbrev RS3 (s : Sl) (l : List DSchedOp) : Asr := aRow s 3 (recs DSchedOp.cells l)
theorem plain_op (x : DSchedOp) : ∀ v, v ∈ x.cells → plainB v = true := by intro v hv; simp [DSchedOp.cells] at hv; rcases hv with rfl | rfl | rfl <;> rfl
theorem s119 {w0 w : World} {F : List Asr} {n : Nat} (h : SH w0 w F) (hn : n ≤ 100) :
    CallW Try.prog 119 #[.int .i64 (n : Int)] w (fun v w' => ∃ s ops, v = .slice s.a s.len s.cap ∧ ops.length ≤ 3 * n ∧ SH w0 w' (RS3 s ops :: F)) := by
  refine go119 ?_
  unfold W119
  refine h.alloc (fun w1 h e1 n1 => ?_)
  have h : SH w0 w1 (RS3 ⟨some ⟨w.heap.size, 0, none⟩, 0, 0⟩ [] :: F) := h.drop.nil _ 3
  refine LoopW.m2 (fun (s : Sl) (i : Int) w' => ∃ (m : Nat) (ops : List DSchedOp), i = m ∧ m ≤ n ∧ ops.length ≤ m ∧ SH w0 w' (RS3 s ops :: F)) (fun _ (i : Int) _ => (n - i).toNat) ⟨0, [], rfl, by omega, Nat.le_refl _, h⟩ ?_
  clear h
  rintro (s : Sl) (i : Int) w5 ⟨m, ops, rfl, hm, hl, h⟩ J hJ
  refine BIf.dec (fun hlt => ?_) (fun hge => ?_)
  · rw [w64 (by omega) (by omega)]
    refine LetW_iff.2 (SH.appendR1 (f := DSchedOp.cells) (x := ⟨1, 0, m⟩) h rfl rfl rfl (by decide) (by show _ * 24 ≤ _; omega) (plain_op _) (fun l7 w8 h hl7 _ => ?_))
    exact hJ _ _ _ ⟨m + 1, _, by omega, by omega, by rw [List.length_append]; simp; omega, h⟩ (by omega)
  clear hJ J
  have hl1 : ops.length ≤ n := by omega
  refine LoopW.m2 (fun (s : Sl) (i : Int) w' => ∃ (m : Nat) (ops : List DSchedOp), i = m ∧ m ≤ n ∧ ops.length ≤ n + m ∧ SH w0 w' (RS3 s ops :: F)) (fun _ (i : Int) _ => (n - i).toNat) ⟨0, ops, rfl, by omega, by omega, h⟩ ?_
  clear h
  rintro (s2 : Sl) (i : Int) w12 ⟨m2, ops2, rfl, hm2, hl2, h⟩ J hJ
  refine BIf.dec (fun hlt => ?_) (fun hge => ?_)
  · rw [w64 (by omega) (by omega)]
    refine LetW_iff.2 (SH.appendR1 (f := DSchedOp.cells) (x := ⟨4, m2, m2⟩) h rfl rfl rfl (by decide) (by show _ * 24 ≤ _; omega) (plain_op _) (fun l7 w8 h hl7 _ => ?_))
    exact hJ _ _ _ ⟨m2 + 1, _, by omega, by omega, by rw [List.length_append]; simp; omega, h⟩ (by omega)
  clear hJ J
  refine LoopW.m2 (fun (s : Sl) (i : Int) w' => ∃ (m : Nat) (ops : List DSchedOp), i = m ∧ m ≤ n ∧ ops.length ≤ 2 * n + m ∧ SH w0 w' (RS3 s ops :: F)) (fun _ (i : Int) _ => (n - i).toNat) ⟨0, ops2, rfl, by omega, by omega, h⟩ ?_
  clear h
  rintro (s3 : Sl) (i : Int) w19 ⟨m3, ops3, rfl, hm3, hl3, h⟩ J hJ
  refine BIf.dec (fun hlt => ?_) (fun hge => ?_)
  · rw [w64 (n := (m3 : Int) + 1) (by omega) (by omega)]
    refine ⟨by omega, ?_⟩
    refine LetW_iff.2 (SH.appendR1 (f := DSchedOp.cells) (x := ⟨4, m3, Int.tmod ((m3 : Int) + 1) n⟩) h rfl rfl rfl (by decide) (by show _ * 24 ≤ _; omega) (plain_op _) (fun l7 w8 h hl7 _ => ?_))
    exact hJ _ _ _ ⟨m3 + 1, _, by omega, by omega, by rw [List.length_append]; simp; omega, h⟩ (by omega)
  · exact ⟨s3, ops3, rfl, by omega, h⟩
/-- A state on the way, after k steps. -/
structure Way (k : Nat) (e : DSched) : Prop where
  inv : Inv0 e
  now : e.Now ≤ k
  seq : e.Seq ≤ 33 * k
theorem Way.step {k : Nat} {e : DSched} (h : Way k e) (hk : k ≤ 1000000) (a b c : Int) : Way (k + 1) (stepF e a b c).1 := by
  have h1 := h.now
  have h2 := h.seq
  obtain ⟨g1, g2, g3⟩ := h.inv.step (by omega) a b c
  exact ⟨g1, by omega, by omega⟩
theorem way0 : Way 0 zeroS := ⟨zero_inv, by decide, by decide⟩
abbrev BSt (b : Nat) (e : DSched) (t l : Sl) : Asr := aB b ((sCells e.Now e.Seq t l).map Ce.v)
theorem s76 {w0 w : World} {F : List Asr} {cb : Nat} {s : Sl} {n : Int} (h : SH w0 w (aC cb s :: F)) (hb : CurB w0 s) (hn : 0 ≤ n ∧ n ≤ 100) :
    CallW Try.prog 76 #[.pointer (some ⟨cb, 0, none⟩), .int .i64 n] w (fun v w' => ∃ (e : DSched) (t l o : Sl) (ops : List DSchedOp), v = .tuple #[sAgg e.Now e.Seq t l, .slice o.a o.len o.cap] ∧ Way 3012 e ∧ ops.length ≤ 3012 ∧ SH w0 w' (RS3 o ops :: aC cb s :: RT t e.Threads :: RL l e.Locks :: F)) := by
  refine go76 ?_
  unfold W76
  refine h.alloc (fun w1 h e1 n1 => ?_)
  refine h.alloc (fun w2 h e2 n2 => ?_)
  refine h.put 0 rfl rfl rfl (fun w3 h n3 => ?_)
  refine h.alloc (fun w4 h e4 n4 => ?_)
  have h : SH w0 w4 (RS3 ⟨some ⟨w3.heap.size, 0, none⟩, 0, 0⟩ [] :: aC cb s :: RT ⟨none, 0, 0⟩ zeroS.Threads :: RL ⟨none, 0, 0⟩ zeroS.Locks :: BSt w1.heap.size zeroS ⟨none, 0, 0⟩ ⟨none, 0, 0⟩ :: aB w.heap.size (ZS.map Ce.v) :: F) := ((((SH.nil (SH.nil (h.drop.nil (some ⟨w3.heap.size, 0, none⟩) 3) none 2) none 8).front (n := 5) rfl).front (n := 3) rfl))
  refine JoinW.cut1 (fun (l5 : Sl) w' => ∃ (k : Nat) (e : DSched) (ops : List DSchedOp) (t l : Sl), k ≤ 12 ∧ Way k e ∧ ops.length ≤ 12 ∧ SH w0 w' (RS3 l5 ops :: aC cb s :: RT t e.Threads :: RL l e.Locks :: BSt w1.heap.size e t l :: aB w.heap.size (ZS.map Ce.v) :: F)) ?_ ?_
  · refine (s78 h 1 rfl hb).mono ?_
    rintro _ w77 ⟨b78, rfl, h⟩
    refine ⟨b78, rfl, BIf.of (fun hb1 => ?_) (fun hb1 => ⟨0, zeroS, [], _, _, by omega, way0, by simp, h⟩)⟩
    refine (s77 h 1 rfl hb).mono ?_
    rintro _ w80 ⟨n81, rfl, hn81, h⟩
    obtain ⟨m81, rfl⟩ := Int.eq_ofNat_of_zero_le hn81.1
    have hm81 : m81 ≤ 2 := by have := hn81.2; omega
    refine ⟨_, rfl, ?_⟩
    rw [w64 (n := 2 + (m81 : Int)) (by omega) (by omega), show (2 : Int) + m81 = ((2 + m81 : Nat) : Int) by omega]
    refine (s119 (n := 2 + m81) h.drop (by omega)).mono ?_
    rintro _ w83 ⟨l84, cops, rfl, hcl, h⟩
    have hll := h.len 0 rfl
    rw [recs_len] at hll
    refine ⟨l84, rfl, ?_⟩
    refine LoopW.m1 (fun (i : Int) w' => ∃ (k : Nat) (e : DSched) (t l : Sl), i = k ∧ k ≤ cops.length ∧ Way k e ∧ SH w0 w' (RS3 l84 cops :: aC cb s :: RT t e.Threads :: RL l e.Locks :: BSt w1.heap.size e t l :: aB w.heap.size (ZS.map Ce.v) :: F)) (fun (i : Int) _ => (cops.length - i).toNat) ⟨0, zeroS, _, _, rfl, by omega, way0, h⟩ ?_
    clear h
    rintro (i : Int) w87 ⟨k, e, t, l, rfl, hk, hway, h⟩ J hJ
    refine BIf.dec (fun hlt => ?_) (fun hge => ?_)
    · have hget : cops[k]? = some cops[k] := List.getElem?_eq_getElem (by omega)
      generalize cops[k] = op at *
      have hw2 := hway.step (by omega) op.Kind op.Id op.N
      have hie := hway.inv
      have hen := hway.now
      have hes := hway.seq
      obtain ⟨q, hqa⟩ := h.rowQ 0 rfl hget
      simp only [Int.toNat_natCast]
      rw [w64 (n := (k : Int) + 1) (by omega) (by omega)]
      refine JoinW.cut1 (fun (p : Option Addr) w' => ∃ (b : Nat) (t' l' : Sl), p = some ⟨b, 0, none⟩ ∧ SH w0 w' (BSt b (stepF e op.Kind op.Id op.N).1 t' l' :: RS3 l84 cops :: aC cb s :: RT t' (stepF e op.Kind op.Id op.N).1.Threads :: RL l' (stepF e op.Kind op.Id op.N).1.Locks :: BSt w1.heap.size e t l :: aB w.heap.size (ZS.map Ce.v) :: F)) ?_ ?_
      · have h := h.drew
        refine ⟨_, h.cell 4 rfl rfl, _, h.cell 4 rfl rfl, t, h.cell 4 rfl rfl, l, h.cell 4 rfl rfl, by omega, by omega, q, hqa, _, h.rdR 0 rfl hqa hget rfl, _, h.rdR 0 rfl hqa hget rfl, _, h.rdR 0 rfl hqa hget rfl, ?_⟩
        refine ⟨?_, ?_⟩
        · skip
          refine (s61 ((h.front (n := 3) rfl).front (n := 3) rfl) hie (by omega) (by omega)).mono ?_
          rintro _ w194 ⟨tw194, lw194, rfl, h⟩
          refine ⟨_, _, tw194, lw194, _, _, rfl, ?_⟩
          refine ⟨?_, ?_⟩
          · skip
            refine h.alloc (fun w219 h ew219 nw219 => ?_)
            refine ⟨⟨_, h.rdR 3 rfl hqa hget rfl, _, h.rdR 3 rfl hqa hget rfl, _, h.rdR 3 rfl hqa hget rfl, rfl⟩, ?_⟩
            refine ⟨⟨_, h.cell 5 rfl rfl, _, h.cell 5 rfl rfl, t, h.cell 5 rfl rfl, l, h.cell 5 rfl rfl, rfl⟩, ?_⟩
            refine ⟨?_, trivial⟩
            refine h.alloc (fun w227 h ew227 nw227 => ?_)
            refine ⟨⟨_, h.rdR 4 rfl hqa hget rfl, _, h.rdR 4 rfl hqa hget rfl, _, h.rdR 4 rfl hqa hget rfl, rfl⟩, ?_⟩
            refine ⟨⟨_, h.cell 6 rfl rfl, _, h.cell 6 rfl rfl, t, h.cell 6 rfl rfl, l, h.cell 6 rfl rfl, rfl⟩, ?_⟩
            refine ⟨?_, trivial⟩
            refine h.put 1 rfl rfl rfl (fun w235 h nw235 => ?_)
            refine ⟨?_, trivial⟩
            refine h.put 0 rfl rfl rfl (fun w236 h nw236 => ?_)
            exact ⟨_, tw194, lw194, rfl, ((((((((h.dropAt 0).front (n := 6) rfl).front (n := 6) rfl).front (n := 4) rfl).front (n := 4) rfl).front (n := 6) rfl).front (n := 6) rfl).front (n := 6) rfl)⟩
          · skip
            refine ⟨?_, trivial⟩
            refine h.alloc (fun w201 h ew201 nw201 => ?_)
            refine ⟨⟨_, h.rdR 3 rfl hqa hget rfl, _, h.rdR 3 rfl hqa hget rfl, _, h.rdR 3 rfl hqa hget rfl, rfl⟩, ?_⟩
            refine ⟨⟨_, h.cell 5 rfl rfl, _, h.cell 5 rfl rfl, t, h.cell 5 rfl rfl, l, h.cell 5 rfl rfl, rfl⟩, ?_⟩
            refine ⟨?_, trivial⟩
            refine h.alloc (fun w209 h ew209 nw209 => ?_)
            refine ⟨⟨_, h.rdR 4 rfl hqa hget rfl, _, h.rdR 4 rfl hqa hget rfl, _, h.rdR 4 rfl hqa hget rfl, rfl⟩, ?_⟩
            refine ⟨⟨_, h.cell 6 rfl rfl, _, h.cell 6 rfl rfl, t, h.cell 6 rfl rfl, l, h.cell 6 rfl rfl, rfl⟩, ?_⟩
            refine ⟨?_, trivial⟩
            refine h.put 0 rfl rfl rfl (fun w217 h nw217 => ?_)
            refine ⟨?_, trivial⟩
            refine h.put 1 rfl rfl rfl (fun w218 h nw218 => ?_)
            exact ⟨_, tw194, lw194, rfl, ((((((((h.dropAt 1).front (n := 6) rfl).front (n := 6) rfl).front (n := 4) rfl).front (n := 4) rfl).front (n := 6) rfl).front (n := 6) rfl).front (n := 6) rfl)⟩
        · skip
          refine ⟨?_, ?_⟩
          · skip
            refine h.alloc (fun w149 h ew149 nw149 => ?_)
            refine ⟨⟨_, h.rdR 1 rfl hqa hget rfl, _, h.rdR 1 rfl hqa hget rfl, _, h.rdR 1 rfl hqa hget rfl, rfl⟩, ?_⟩
            refine ⟨⟨_, h.cell 5 rfl rfl, _, h.cell 5 rfl rfl, t, h.cell 5 rfl rfl, l, h.cell 5 rfl rfl, rfl⟩, ?_⟩
            refine ⟨?_, ?_⟩
            · skip
              refine (s61 ((h.front (n := 4) rfl).front (n := 4) rfl) hie (by omega) (by omega)).mono ?_
              rintro _ w176 ⟨tw176, lw176, rfl, h⟩
              refine ⟨_, _, tw176, lw176, _, _, rfl, ?_⟩
              refine ⟨?_, trivial⟩
              refine h.alloc (fun w183 h ew183 nw183 => ?_)
              refine ⟨⟨_, h.rdR 4 rfl hqa hget rfl, _, h.rdR 4 rfl hqa hget rfl, _, h.rdR 4 rfl hqa hget rfl, rfl⟩, ?_⟩
              refine ⟨⟨_, h.cell 6 rfl rfl, _, h.cell 6 rfl rfl, t, h.cell 6 rfl rfl, l, h.cell 6 rfl rfl, rfl⟩, ?_⟩
              refine ⟨?_, trivial⟩
              refine h.put 3 rfl rfl rfl (fun w191 h nw191 => ?_)
              refine ⟨?_, trivial⟩
              refine h.put 0 rfl rfl rfl (fun w192 h nw192 => ?_)
              exact ⟨_, tw176, lw176, rfl, ((((((((h.dropAt 0).front (n := 6) rfl).front (n := 6) rfl).front (n := 3) rfl).front (n := 3) rfl).front (n := 6) rfl).front (n := 6) rfl).front (n := 6) rfl)⟩
            · skip
              refine ⟨?_, trivial⟩
              refine h.alloc (fun w157 h ew157 nw157 => ?_)
              refine ⟨⟨_, h.rdR 2 rfl hqa hget rfl, _, h.rdR 2 rfl hqa hget rfl, _, h.rdR 2 rfl hqa hget rfl, rfl⟩, ?_⟩
              refine ⟨⟨_, h.cell 6 rfl rfl, _, h.cell 6 rfl rfl, t, h.cell 6 rfl rfl, l, h.cell 6 rfl rfl, rfl⟩, ?_⟩
              refine ⟨?_, trivial⟩
              refine (s61 ((h.front (n := 5) rfl).front (n := 5) rfl) hie (by omega) (by omega)).mono ?_
              rintro _ w166 ⟨tw166, lw166, rfl, h⟩
              refine ⟨_, _, tw166, lw166, _, _, rfl, ?_⟩
              refine ⟨?_, trivial⟩
              refine h.put 3 rfl rfl rfl (fun w173 h nw173 => ?_)
              refine ⟨?_, trivial⟩
              refine h.put 2 rfl rfl rfl (fun w174 h nw174 => ?_)
              exact ⟨_, tw166, lw166, rfl, ((((((((h.dropAt 2).front (n := 6) rfl).front (n := 6) rfl).front (n := 3) rfl).front (n := 3) rfl).front (n := 6) rfl).front (n := 6) rfl).front (n := 6) rfl)⟩
          · skip
            refine ⟨?_, trivial⟩
            refine h.alloc (fun w105 h ew105 nw105 => ?_)
            refine ⟨⟨_, h.rdR 1 rfl hqa hget rfl, _, h.rdR 1 rfl hqa hget rfl, _, h.rdR 1 rfl hqa hget rfl, rfl⟩, ?_⟩
            refine ⟨⟨_, h.cell 5 rfl rfl, _, h.cell 5 rfl rfl, t, h.cell 5 rfl rfl, l, h.cell 5 rfl rfl, rfl⟩, ?_⟩
            refine ⟨?_, ?_⟩
            · skip
              refine (s61 ((h.front (n := 4) rfl).front (n := 4) rfl) hie (by omega) (by omega)).mono ?_
              rintro _ w132 ⟨tw132, lw132, rfl, h⟩
              refine ⟨_, _, tw132, lw132, _, _, rfl, ?_⟩
              refine ⟨?_, trivial⟩
              refine h.alloc (fun w139 h ew139 nw139 => ?_)
              refine ⟨⟨_, h.rdR 4 rfl hqa hget rfl, _, h.rdR 4 rfl hqa hget rfl, _, h.rdR 4 rfl hqa hget rfl, rfl⟩, ?_⟩
              refine ⟨⟨_, h.cell 6 rfl rfl, _, h.cell 6 rfl rfl, t, h.cell 6 rfl rfl, l, h.cell 6 rfl rfl, rfl⟩, ?_⟩
              refine ⟨?_, trivial⟩
              refine h.put 0 rfl rfl rfl (fun w147 h nw147 => ?_)
              refine ⟨?_, trivial⟩
              refine h.put 3 rfl rfl rfl (fun w148 h nw148 => ?_)
              exact ⟨_, tw132, lw132, rfl, ((((((((h.dropAt 3).front (n := 6) rfl).front (n := 6) rfl).front (n := 4) rfl).front (n := 4) rfl).front (n := 6) rfl).front (n := 6) rfl).front (n := 6) rfl)⟩
            · skip
              refine ⟨?_, trivial⟩
              refine h.alloc (fun w113 h ew113 nw113 => ?_)
              refine ⟨⟨_, h.rdR 2 rfl hqa hget rfl, _, h.rdR 2 rfl hqa hget rfl, _, h.rdR 2 rfl hqa hget rfl, rfl⟩, ?_⟩
              refine ⟨⟨_, h.cell 6 rfl rfl, _, h.cell 6 rfl rfl, t, h.cell 6 rfl rfl, l, h.cell 6 rfl rfl, rfl⟩, ?_⟩
              refine ⟨?_, trivial⟩
              refine (s61 ((h.front (n := 5) rfl).front (n := 5) rfl) hie (by omega) (by omega)).mono ?_
              rintro _ w122 ⟨tw122, lw122, rfl, h⟩
              refine ⟨_, _, tw122, lw122, _, _, rfl, ?_⟩
              refine ⟨?_, trivial⟩
              refine h.put 2 rfl rfl rfl (fun w129 h nw129 => ?_)
              refine ⟨?_, trivial⟩
              refine h.put 3 rfl rfl rfl (fun w130 h nw130 => ?_)
              exact ⟨_, tw122, lw122, rfl, ((((((((h.dropAt 3).front (n := 6) rfl).front (n := 6) rfl).front (n := 3) rfl).front (n := 3) rfl).front (n := 6) rfl).front (n := 6) rfl).front (n := 6) rfl)⟩
      · rintro (p : Option Addr) w90 ⟨b, t', l', rfl, h⟩
        refine addrOf_mk ?_
        refine ⟨_, h.cellP 0 rfl rfl, _, h.cellP 0 rfl rfl, t', h.cellP 0 rfl rfl, l', h.cellP 0 rfl rfl, ?_⟩
        refine h.put 5 rfl rfl rfl (fun w96 h n96 => ?_)
        exact hJ _ _ ⟨k + 1, _, t', l', by omega, by omega, hw2, h.drop⟩ (by omega)
    · exact ⟨k, e, cops, t, l, by omega, hway, by omega, h⟩
  clear h
  rintro (l5 : Sl) w7 ⟨k0, e0, ops0, t0, l0, hk0, hway0, hops0, h⟩
  refine LoopW.m2 (fun (l8 : Sl) (i : Int) w' => ∃ (m k : Nat) (e : DSched) (ops : List DSchedOp) (t l : Sl), i = m ∧ (m : Int) ≤ n ∧ k ≤ 12 + 30 * m ∧ Way k e ∧ ops.length ≤ 12 + 30 * m ∧ SH w0 w' (RS3 l8 ops :: aC cb s :: RT t e.Threads :: RL l e.Locks :: BSt w1.heap.size e t l :: aB w.heap.size (ZS.map Ce.v) :: F)) (fun _ (i : Int) _ => (n - i).toNat) ⟨0, k0, e0, ops0, t0, l0, rfl, by omega, by omega, hway0, by omega, h⟩ ?_
  clear h
  rintro (l8 : Sl) (i : Int) w11 ⟨m, k, e, ops, t, l, rfl, hm, hk, hway, hops, h⟩ J hJ
  refine BIf.dec (fun hlt => ?_) (fun hge => ?_)
  · have hf := hway.inv.few
    refine ⟨_, h.cell 4 rfl rfl, _, h.cell 4 rfl rfl, t, h.cell 4 rfl rfl, l, h.cell 4 rfl rfl, ?_⟩
    refine (s87 (F := RS3 l8 ops :: BSt w1.heap.size e t l :: aB w.heap.size (ZS.map Ce.v) :: F) (((h.front (n := 3) rfl).front (n := 3) rfl).front (n := 3) rfl) hb ⟨by omega, by omega⟩).mono ?_
    rintro _ w17 ⟨x, y, z, rfl, h⟩
    have h : SH w0 w17 (RS3 l8 ops :: aC cb s :: RT t e.Threads :: RL l e.Locks :: BSt w1.heap.size e t l :: aB w.heap.size (ZS.map Ce.v) :: F) := h.front (n := 3) rfl
    refine ⟨x, y, z, rfl, ?_⟩
    refine h.alloc (fun w21 h e21 n21 => ?_)
    refine h.put 0 rfl rfl rfl (fun w22 h n22 => ?_)
    have h : SH w0 w22 (RS3 l8 ops :: aC cb s :: RT t e.Threads :: RL l e.Locks :: BSt w1.heap.size e t l :: aB w17.heap.size ([Value.int .i64 x, .int .i64 y, .int .i64 z].map Ce.v) :: aB w.heap.size (ZS.map Ce.v) :: F) := ((((h.front (n := 5) rfl).front (n := 5) rfl).front (n := 5) rfl).front (n := 5) rfl).front (n := 5) rfl
    refine JoinW.cut1 (fun (r : Int) w' => (0 ≤ r ∧ r ≤ 30) ∧ SH w0 w' (RS3 l8 ops :: aC cb s :: RT t e.Threads :: RL l e.Locks :: BSt w1.heap.size e t l :: aB w17.heap.size ([Value.int .i64 x, .int .i64 y, .int .i64 z].map Ce.v) :: aB w.heap.size (ZS.map Ce.v) :: F)) ?_ ?_
    · refine ⟨_, h.cell 5 rfl rfl, BIf.of (fun h3 => ?_) (fun h3 => ⟨by omega, h⟩)⟩
      refine (s77 h 1 rfl hb).mono ?_
      rintro _ w62 ⟨n63, rfl, hn63, h⟩
      refine ⟨n63, rfl, (s78 h 1 rfl hb).mono ?_⟩
      rintro _ w65 ⟨b66, rfl, h⟩
      obtain ⟨ha, hc⟩ := hn63
      refine ⟨b66, rfl, BIf.of (fun _ => ⟨by omega, h⟩) (fun _ => ⟨?_, h⟩)⟩
      rw [w64 (by omega) (by omega)]; omega
    clear h
    rintro (r : Int) w25 ⟨hr, h⟩
    refine LoopW.m2 (fun (l26 : Sl) (i : Int) w' => ∃ (m2 k2 : Nat) (e : DSched) (ops2 : List DSchedOp) (t l : Sl), i = m2 ∧ (m2 : Int) ≤ r ∧ k2 ≤ k + m2 ∧ Way k2 e ∧ ops2.length ≤ ops.length + m2 ∧ SH w0 w' (RS3 l26 ops2 :: aC cb s :: RT t e.Threads :: RL l e.Locks :: BSt w1.heap.size e t l :: aB w17.heap.size ([Value.int .i64 x, .int .i64 y, .int .i64 z].map Ce.v) :: aB w.heap.size (ZS.map Ce.v) :: F)) (fun _ (i : Int) _ => (r - i).toNat) ⟨0, k, e, ops, t, l, rfl, by omega, by omega, hway, by omega, h⟩ ?_
    clear h
    rintro (l26 : Sl) (i : Int) w29 ⟨m2, k2, e2, ops2, t2, l2, rfl, hm2, hk2, hway2, hops2, h⟩ J2 hJ2
    refine BIf.dec (fun hlt2 => ?_) (fun hge2 => ?_)
    · have hw3 := hway2.step (by omega) x y z
      have hen := hway2.now
      have hes := hway2.seq
      refine ⟨_, h.cell 4 rfl rfl, _, h.cell 4 rfl rfl, t2, h.cell 4 rfl rfl, l2, h.cell 4 rfl rfl, _, h.cell 5 rfl rfl, _, h.cell 5 rfl rfl, _, h.cell 5 rfl rfl, ?_⟩
      refine (s61 ((h.front (n := 3) rfl).front (n := 3) rfl) hway2.inv (by omega) (by omega)).mono ?_
      rintro _ w38 ⟨t3, l3, rfl, h⟩
      refine ⟨_, _, t3, l3, _, _, rfl, ?_⟩
      refine h.alloc (fun w45 h e45 n45 => ?_)
      refine h.alloc (fun w46 h e46 n46 => ?_)
      refine h.put 1 rfl rfl rfl (fun w47 h n47 => ?_)
      refine h.put 0 rfl rfl rfl (fun w48 h n48 => ?_)
      refine ⟨_, h.cell 1 rfl rfl, _, h.cell 1 rfl rfl, t3, h.cell 1 rfl rfl, l3, h.cell 1 rfl rfl, ?_⟩
      refine h.put 6 rfl rfl rfl (fun w53 h n53 => ?_)
      refine ⟨_, h.cell 7 rfl rfl, _, h.cell 7 rfl rfl, _, h.cell 7 rfl rfl, ?_⟩
      rw [w64 (n := (m2 : Int) + 1) (by omega) (by omega)]
      refine LetW_iff.2 (SH.appendR1 (f := DSchedOp.cells) (x := ⟨x, y, z⟩) (((h.dropAt 1).dropAt 0).front (n := 2) rfl) rfl rfl rfl (by decide) (by show _ * 24 ≤ _; omega) (plain_op _) (fun l58 w59 h hl58 _ => ?_))
      refine hJ2 _ _ _ ⟨m2 + 1, k2 + 1, (stepF e2 x y z).1, ops2 ++ [⟨x, y, z⟩], t3, l3, by omega, by omega, by omega, hw3, by rw [List.length_append]; simp; omega, ?_⟩ (by omega)
      exact ((h.front (n := 3) rfl).front (n := 1) rfl)
    · refine (by rw [w64 (n := (m : Int) + 1) (by omega) (by omega)]; exact hJ _ _ _ ⟨m + 1, k2, e2, ops2, t2, l2, by omega, by omega, by omega, hway2, by omega, h.dropAt 5⟩ (by omega))
  · refine ⟨_, h.cell 4 rfl rfl, _, h.cell 4 rfl rfl, t, h.cell 4 rfl rfl, l, h.cell 4 rfl rfl, ?_⟩
    refine h.put 5 rfl rfl rfl (fun w71 h n71 => ?_)
    refine ⟨_, h.cell 5 rfl rfl, _, h.cell 5 rfl rfl, t, h.cell 5 rfl rfl, l, h.cell 5 rfl rfl, ?_⟩
    have hn0 := hway.now
    have hs0 := hway.seq
    exact ⟨e, t, l, l8, ops, rfl, ⟨hway.inv, by omega, by omega⟩, by omega, (h.dropAt 5).dropAt 4⟩
end Go.Proofs.Yteigefjiifihpaa

/- Draws: what a run of the scheduler is drawn to be. Conditions: none. -/
set_option linter.unusedVariables false
set_option linter.unusedSimpArgs false
namespace Go.Proofs.Yteigefjiifihpaa
open Go Go.Den
end Go.Proofs.Yteigefjiifihpaa

/- The bytes of a draw as a parameter. Conditions: none. -/
namespace Go.Proofs.Yteigefjiifihpaa
open Go Go.Den
theorem o5 : Opens Try.prog 5 (cInt .u8) := opens_int Try.underlying5
theorem o55 : Opens Try.prog 55 (cSlice (cInt .u8)) := opens_slice Try.underlying55 (by kernel_rfl) o5
theorem curb_of {bs : List Int} {w : World} {s : Sl} (h : IsD w (.sl 1 (bs.map (Dat.int .u8))) [.slice s.a s.len s.cap]) (hl : s.len ≤ 1048576) : CurB w s := by
  refine ⟨hl, fun k hk => ?_⟩
  have hlen := (isD_len h).1
  have hget : bs[k]? = some bs[k] := List.getElem?_eq_getElem (by omega)
  obtain ⟨p, es, hp, _, hc, hi⟩ := isD_elem h hget
  obtain ⟨rfl, hwf⟩ := isD_int hi
  have h0 := hc 0 _ rfl
  refine ⟨p, _, hp, h0, ?_⟩
  simp [Lit.wf, IntKind.min, IntKind.max, IntKind.signed, IntKind.bits] at hwf
  omega
end Go.Proofs.Yteigefjiifihpaa
