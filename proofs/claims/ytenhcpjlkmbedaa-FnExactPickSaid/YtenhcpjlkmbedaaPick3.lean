/- Part 3 of 3: plain readings of code, rules for them, and a proof over them, joined by a program. Conditions: none. -/
import Derived.Test.YtenhcpjlkmbedaaPick2
import Derived.Test.YtenhcpjlkmbedaaRows
import Derived.WalkKit
import Derived.ProofKit
import Derived.OpenShut
import Derived.ShutString
import Derived.ChangeOld
import Derived.Below
import Derived.Carry
import Derived.SizedLaws
/- FnExactPick: the state in memory, and the small functions of both sides. Conditions: none. -/
set_option linter.unusedVariables false
set_option linter.unusedSimpArgs false
namespace Go.Proofs.Ytenhcpjlkmbedaa
open Go Go.Den
def thrs (l : List DThread) : List Value := l.flatMap DThread.cells
def lcks (l : List DLock) : List Value := l.flatMap DLock.cells
/-- Threads and locks, in memory. -/
structure SAt (w : World) (t l : Sl) (d : DSched) : Prop where
  tl : t.len = d.Threads.length
  tr : RowAt w t.a (t.len * 8) (thrs d.Threads)
  ll : l.len = d.Locks.length
  lr : RowAt w l.a (l.len * 2) (lcks d.Locks)
  few : d.Threads.length ≤ 1048576 ∧ d.Locks.length ≤ 1048576
theorem SAt.ext {w w' : World} {t l : Sl} {d : DSched} (h : SAt w t l d) (e : Ext w w') : SAt w' t l d := ⟨h.tl, e.row h.tr, h.ll, e.row h.lr, h.few⟩
theorem SAt.thr {w : World} {t l : Sl} {d : DSched} (h : SAt w t l d) {i : Nat} {x : DThread} (hx : d.Threads[i]? = some x) : ∃ p, t.a = some p ∧ ∀ j v, x.cells[j]? = some v → w.cell? ((p.add (i * 8)).add j) = some v :=
  RowAt.elem (f := DThread.cells) (z := 8) (fun _ => rfl) h.tr hx (by omega)
theorem SAt.lck {w : World} {t l : Sl} {d : DSched} (h : SAt w t l d) {i : Nat} {x : DLock} (hx : d.Locks[i]? = some x) : ∃ p, l.a = some p ∧ ∀ j v, x.cells[j]? = some v → w.cell? ((p.add (i * 2)).add j) = some v :=
  RowAt.elem (f := DLock.cells) (z := 2) (fun _ => rfl) h.lr hx (by omega)
/-- The state's own cells. -/
def sCells (n q : Int) (t l : Sl) : List Value := [.int .i64 n, .int .i64 q, .slice t.a t.len t.cap, .slice l.a l.len l.cap]
def sAgg (n q : Int) (t l : Sl) : Value := .agg #[.int .i64 n, .int .i64 q, .slice t.a t.len t.cap, .slice l.a l.len l.cap]
def idT (d : DSched) (id : Int) : Int := idxFrom (fun x : DThread => x.Id == id) d.Threads 0
def idL (d : DSched) (id : Int) : Int := idxFrom (fun x : DLock => x.Id == id) d.Locks 0
theorem c107 {n : Int} {w : World} : CallW Try.prog 107 #[.int .i64 n] w (fun v w' => v = .bool (decide (n ≥ 0) && decide (n ≤ 1099511627776)) ∧ w' = w) := by
  refine go107 ?_
  unfold W107
  simp only [join_and]
  exact ⟨by trivial, by trivial⟩
theorem c108 {n q : Int} {t l : Sl} {d : DSched} {id : Int} {w : World} (h : SAt w t l d) : CallW Try.prog 108 #[sAgg n q t l, .int .i64 id] w (fun v w' => v = .int .i64 (idT d id) ∧ Ext w w') := by
  refine go108 ?_
  unfold W108
  refine LetW_iff.2 ?_
  have hb : Blk (w.alloc (.cells #[.int .i64 n, .int .i64 q, .slice t.a t.len t.cap, .slice l.a l.len l.cap] 31)) w.heap.size (sCells n q t l) := blk_alloc w _ _
  have e1 := ext_alloc w (.cells #[.int .i64 n, .int .i64 q, .slice t.a t.len t.cap, .slice l.a l.len l.cap] 31)
  generalize w.alloc (.cells #[.int .i64 n, .int .i64 q, .slice t.a t.len t.cap, .slice l.a l.len l.cap] 31) = w1 at *
  have h1 := h.ext e1
  have hfew := h.few.1
  have htl := h.tl
  refine LoopW.m1 (fun (i : Int) w' => 0 ≤ i ∧ i ≤ t.len ∧ idxFrom (fun x : DThread => x.Id == id) (d.Threads.drop i.toNat) i.toNat = idT d id ∧ w' = w1) (fun (i : Int) _ => (t.len - i).toNat) ⟨by omega, by omega, rfl, rfl⟩ ?_
  rintro (i : Int) w1 ⟨hi0, hi1, hr, rfl⟩ J hJ
  obtain ⟨k, rfl⟩ := Int.eq_ofNat_of_zero_le hi0
  rw [Int.toNat_natCast] at hr ⊢
  refine ⟨t, hb.cell 2, BIf.dec (fun hlt => ?_) (fun hge => ?_)⟩
  · have hk : k < d.Threads.length := by omega
    have hget : d.Threads[k]? = some d.Threads[k] := List.getElem?_eq_getElem hk
    obtain ⟨p, hp, hc⟩ := h1.thr hget
    rw [idxFrom_step _ _ _ hk] at hr
    refine ⟨t, hb.cell 2, hi0, hlt, p, hp, _, hc 0 _ rfl, BIf.eq (fun e => ?_) (fun e => ?_)⟩
    · rw [if_pos (by simpa using e)] at hr
      exact ⟨by rw [hr], e1⟩
    · rw [if_neg (by simpa using e)] at hr
      rw [w64 (by omega) (by omega)]
      exact hJ _ _ ⟨by omega, by omega, hr, rfl⟩ (by omega)
  · rw [idxFrom_end _ _ _ (by omega)] at hr
    exact ⟨by rw [← hr], e1⟩
theorem c158 {n q : Int} {t l : Sl} {d : DSched} {id : Int} {w : World} (h : SAt w t l d) : CallW Try.prog 158 #[sAgg n q t l, .int .i64 id] w (fun v w' => v = .int .i64 (idL d id) ∧ Ext w w') := by
  refine go158 ?_
  unfold W158
  refine LetW_iff.2 ?_
  have hb : Blk (w.alloc (.cells #[.int .i64 n, .int .i64 q, .slice t.a t.len t.cap, .slice l.a l.len l.cap] 31)) w.heap.size (sCells n q t l) := blk_alloc w _ _
  have e1 := ext_alloc w (.cells #[.int .i64 n, .int .i64 q, .slice t.a t.len t.cap, .slice l.a l.len l.cap] 31)
  generalize w.alloc (.cells #[.int .i64 n, .int .i64 q, .slice t.a t.len t.cap, .slice l.a l.len l.cap] 31) = w1 at *
  have h1 := h.ext e1
  have hfew := h.few.2
  have htl := h.ll
  refine LoopW.m1 (fun (i : Int) w' => 0 ≤ i ∧ i ≤ l.len ∧ idxFrom (fun x : DLock => x.Id == id) (d.Locks.drop i.toNat) i.toNat = idL d id ∧ w' = w1) (fun (i : Int) _ => (l.len - i).toNat) ⟨by omega, by omega, rfl, rfl⟩ ?_
  rintro (i : Int) w1 ⟨hi0, hi1, hr, rfl⟩ J hJ
  obtain ⟨k, rfl⟩ := Int.eq_ofNat_of_zero_le hi0
  rw [Int.toNat_natCast] at hr ⊢
  refine ⟨l, hb.cell 3, BIf.dec (fun hlt => ?_) (fun hge => ?_)⟩
  · have hk : k < d.Locks.length := by omega
    have hget : d.Locks[k]? = some d.Locks[k] := List.getElem?_eq_getElem hk
    obtain ⟨p, hp, hc⟩ := h1.lck hget
    rw [idxFrom_step _ _ _ hk] at hr
    refine ⟨l, hb.cell 3, hi0, hlt, p, hp, _, hc 0 _ rfl, BIf.eq (fun e => ?_) (fun e => ?_)⟩
    · rw [if_pos (by simpa using e)] at hr
      exact ⟨by rw [hr], e1⟩
    · rw [if_neg (by simpa using e)] at hr
      rw [w64 (by omega) (by omega)]
      exact hJ _ _ ⟨by omega, by omega, hr, rfl⟩ (by omega)
  · rw [idxFrom_end _ _ _ (by omega)] at hr
    exact ⟨by rw [← hr], e1⟩
/-- The program's side: the state lies at an address. -/
def PAt (w : World) (s : Addr) (n q : Int) (t l : Sl) : Prop := ∀ j v, (sCells n q t l)[j]? = some v → w.cell? (s.add j) = some v
/-- A thread's, a lock's address, by its place. -/
def ptrAt (a : Option Addr) (z : Nat) (i : Int) : Option Addr := if i < 0 then none else a.map (fun p => p.add (i.toNat * z))
theorem c115 {s : Addr} {n q : Int} {t l : Sl} {d : DSched} {id : Int} {w : World} (hs : PAt w s n q t l) (h : SAt w t l d) : CallW Try.prog 115 #[.pointer (some s), .int .i64 id] w (fun v w' => v = .pointer (ptrAt t.a 8 (idT d id)) ∧ w' = w) := by
  refine go115 ?_
  unfold W115
  have hfew := h.few.1
  have htl := h.tl
  refine ⟨s, rfl, t, hs 2 _ rfl, ?_⟩
  refine LoopW.m1 (fun (i : Int) w' => 0 ≤ i ∧ i ≤ t.len ∧ idxFrom (fun x : DThread => x.Id == id) (d.Threads.drop i.toNat) i.toNat = idT d id ∧ w' = w) (fun (i : Int) _ => (t.len - i).toNat) ⟨by omega, by omega, rfl, rfl⟩ ?_
  rintro (i : Int) w ⟨hi0, hi1, hr, rfl⟩ J hJ
  obtain ⟨k, rfl⟩ := Int.eq_ofNat_of_zero_le hi0
  rw [Int.toNat_natCast] at hr ⊢
  refine BIf.dec (fun hlt => ?_) (fun hge => ?_)
  · have hk : k < d.Threads.length := by omega
    have hget : d.Threads[k]? = some d.Threads[k] := List.getElem?_eq_getElem hk
    obtain ⟨p, hp, hc⟩ := h.thr hget
    rw [idxFrom_step _ _ _ hk] at hr
    refine ⟨s, rfl, t, hs 2 _ rfl, hi0, hlt, p, hp, _, hc 0 _ rfl, BIf.eq (fun e => ?_) (fun e => ?_)⟩
    · rw [if_pos (by simpa using e)] at hr
      refine ⟨s, rfl, t, hs 2 _ rfl, hi0, hlt, p, hp, ?_, rfl⟩
      unfold ptrAt
      rw [← hr, if_neg (by omega), hp, Int.toNat_natCast]; rfl
    · rw [if_neg (by simpa using e)] at hr
      rw [w64 (by omega) (by omega)]
      exact hJ _ _ ⟨by omega, by omega, hr, rfl⟩ (by omega)
  · rw [idxFrom_end _ _ _ (by omega)] at hr
    refine ⟨?_, rfl⟩
    unfold ptrAt
    rw [← hr]; rfl
theorem c114 {s : Addr} {n q : Int} {t l : Sl} {d : DSched} {id : Int} {w : World} (hs : PAt w s n q t l) (h : SAt w t l d) : CallW Try.prog 114 #[.pointer (some s), .int .i64 id] w (fun v w' => v = .pointer (ptrAt l.a 2 (idL d id)) ∧ w' = w) := by
  refine go114 ?_
  unfold W114
  have hfew := h.few.2
  have htl := h.ll
  refine ⟨s, rfl, l, hs 3 _ rfl, ?_⟩
  refine LoopW.m1 (fun (i : Int) w' => 0 ≤ i ∧ i ≤ l.len ∧ idxFrom (fun x : DLock => x.Id == id) (d.Locks.drop i.toNat) i.toNat = idL d id ∧ w' = w) (fun (i : Int) _ => (l.len - i).toNat) ⟨by omega, by omega, rfl, rfl⟩ ?_
  rintro (i : Int) w ⟨hi0, hi1, hr, rfl⟩ J hJ
  obtain ⟨k, rfl⟩ := Int.eq_ofNat_of_zero_le hi0
  rw [Int.toNat_natCast] at hr ⊢
  refine BIf.dec (fun hlt => ?_) (fun hge => ?_)
  · have hk : k < d.Locks.length := by omega
    have hget : d.Locks[k]? = some d.Locks[k] := List.getElem?_eq_getElem hk
    obtain ⟨p, hp, hc⟩ := h.lck hget
    rw [idxFrom_step _ _ _ hk] at hr
    refine ⟨s, rfl, l, hs 3 _ rfl, hi0, hlt, p, hp, _, hc 0 _ rfl, BIf.eq (fun e => ?_) (fun e => ?_)⟩
    · rw [if_pos (by simpa using e)] at hr
      refine ⟨s, rfl, l, hs 3 _ rfl, hi0, hlt, p, hp, ?_, rfl⟩
      unfold ptrAt
      rw [← hr, if_neg (by omega), hp, Int.toNat_natCast]; rfl
    · rw [if_neg (by simpa using e)] at hr
      rw [w64 (by omega) (by omega)]
      exact hJ _ _ ⟨by omega, by omega, hr, rfl⟩ (by omega)
  · rw [idxFrom_end _ _ _ (by omega)] at hr
    refine ⟨?_, rfl⟩
    unfold ptrAt
    rw [← hr]; rfl
end Go.Proofs.Ytenhcpjlkmbedaa

/- FnExactPick: whom a thread waits for, on the reference's side. Conditions: none. -/
set_option linter.unusedVariables false
set_option linter.unusedSimpArgs false
namespace Go.Proofs.Ytenhcpjlkmbedaa
open Go Go.Den
theorem idxFrom_find {α : Type} (p : α → Bool) : ∀ (l : List α) (k : Nat), (idxFrom p l k = -1 ∧ l.find? p = none) ∨ ∃ i x, idxFrom p l k = ((k + i : Nat) : Int) ∧ l[i]? = some x ∧ l.find? p = some x
  | [], k => .inl ⟨rfl, rfl⟩
  | x :: r, k => by
    unfold idxFrom
    by_cases hp : p x = true
    · rw [if_pos hp]
      exact .inr ⟨0, x, rfl, rfl, by simp [List.find?, hp]⟩
    · rw [if_neg hp]
      have hp : p x = false := by simpa using hp
      rcases idxFrom_find p r (k + 1) with ⟨h1, h2⟩ | ⟨i, y, h1, h2, h3⟩
      · exact .inl ⟨h1, by simp [List.find?, hp, h2]⟩
      · exact .inr ⟨i + 1, y, by rw [h1]; congr 1; omega, by simpa using h2, by simp [List.find?, hp, h3]⟩
def thrOf (d : DSched) (id : Int) : Option DThread := d.Threads.find? (fun x => x.Id == id)
def lckOf (d : DSched) (id : Int) : Option DLock := d.Locks.find? (fun x => x.Id == id)
theorem idT_find (d : DSched) (id : Int) : (idT d id = -1 ∧ thrOf d id = none) ∨ ∃ i x, idT d id = ((i : Nat) : Int) ∧ d.Threads[i]? = some x ∧ thrOf d id = some x := by
  rcases idxFrom_find (fun x : DThread => x.Id == id) d.Threads 0 with h | ⟨i, x, h1, h2, h3⟩
  · exact .inl h
  · exact .inr ⟨i, x, by rw [← Nat.zero_add i]; exact h1, h2, h3⟩
theorem idL_find (d : DSched) (id : Int) : (idL d id = -1 ∧ lckOf d id = none) ∨ ∃ i x, idL d id = ((i : Nat) : Int) ∧ d.Locks[i]? = some x ∧ lckOf d id = some x := by
  rcases idxFrom_find (fun x : DLock => x.Id == id) d.Locks 0 with h | ⟨i, x, h1, h2, h3⟩
  · exact .inl h
  · exact .inr ⟨i, x, by rw [← Nat.zero_add i]; exact h1, h2, h3⟩
/-- Who has the lock that a thread waits for. -/
def nxt (d : DSched) (id : Int) : Int := match thrOf d id with
  | none => -1
  | some t => if t.State = 2 then (match lckOf d t.Wait with | none => -1 | some k => k.Owner) else -1
theorem c159 {n q : Int} {t l : Sl} {d : DSched} {id : Int} {w : World} (h : SAt w t l d) : CallW Try.prog 159 #[sAgg n q t l, .int .i64 id] w (fun v w' => v = .int .i64 (nxt d id) ∧ Ext w w') := by
  refine go159 ?_
  unfold W159
  refine LetW_iff.2 ?_
  have hb : Blk (w.alloc (.cells #[.int .i64 n, .int .i64 q, .slice t.a t.len t.cap, .slice l.a l.len l.cap] 31)) w.heap.size (sCells n q t l) := blk_alloc w _ _
  have e1 := ext_alloc w (.cells #[.int .i64 n, .int .i64 q, .slice t.a t.len t.cap, .slice l.a l.len l.cap] 31)
  generalize w.alloc (.cells #[.int .i64 n, .int .i64 q, .slice t.a t.len t.cap, .slice l.a l.len l.cap] 31) = w1 at *
  have h1 := h.ext e1
  have htl := h.tl
  have hll := h.ll
  refine ⟨n, hb.cell 0, q, hb.cell 1, t, hb.cell 2, l, hb.cell 3, (c108 h1).mono ?_⟩
  rintro _ w2 ⟨rfl, e2⟩
  have hb2 := hb.ext e2
  have h2 := h1.ext e2
  refine ⟨_, rfl, ?_⟩
  rcases idT_find d id with ⟨hi, hf⟩ | ⟨i, x, hi, hx, hf⟩
  · rw [hi]
    refine JoinW.each (BIf.t rfl (BIf.t rfl ⟨?_, Only.trans e1 e2⟩))
    unfold nxt; rw [hf]
  · have hil := (List.getElem?_eq_some_iff.1 hx).1
    rw [hi, Int.toNat_natCast]
    obtain ⟨p, hp, hc⟩ := h2.thr hx
    refine JoinW.each (BIf.f (decide_eq_false (by omega)) ⟨t, hb2.cell 2, by omega, by omega, p, hp, _, hc 2 _ rfl, ?_⟩)
    refine BIf.ne (fun hst => ⟨?_, Only.trans e1 e2⟩) (fun hst => ?_)
    · unfold nxt; rw [hf]; simp [hst]
    · have hb3 := hb2.ext (ext_drew w2)
      have h3 := h2.ext (ext_drew w2)
      obtain ⟨p', hp', hc'⟩ := h3.thr hx
      refine ⟨n, hb3.cell 0, q, hb3.cell 1, t, hb3.cell 2, l, hb3.cell 3, t, hb3.cell 2, by omega, by omega, p', hp', _, hc' 7 _ rfl, (c158 h3).mono ?_⟩
      rintro _ w4 ⟨rfl, e4⟩
      have hb4 := hb3.ext e4
      have h4 := h3.ext e4
      have eall : Ext w w4 := Only.trans e1 (Only.trans e2 (Only.trans (ext_drew w2) e4))
      have hn : nxt d id = match lckOf d x.Wait with | none => -1 | some k => k.Owner := by unfold nxt; rw [hf]; simp only [hst, if_true]
      refine ⟨_, rfl, ?_⟩
      rcases idL_find d x.Wait with ⟨hi, hf⟩ | ⟨j, y, hi, hy, hf⟩
      · rw [hi]
        exact BIf.t rfl ⟨by rw [hn, hf], eall⟩
      · have hjl := (List.getElem?_eq_some_iff.1 hy).1
        rw [hi, Int.toNat_natCast]
        obtain ⟨r, hr, hcr⟩ := h4.lck hy
        refine BIf.f (decide_eq_false (by omega)) ⟨l, hb4.cell 3, by omega, by omega, r, hr, _, hcr 1 _ rfl, ?_, eall⟩
        rw [hn, hf]
/-- Does the way from at come to 'on', within n steps? -/
def waitsN (d : DSched) (on : Int) : Nat → Int → Bool
  | 0, _ => false
  | n + 1, at_ => if at_ < 0 then false else if at_ = on then true else waitsN d on n (nxt d at_)
def waits (d : DSched) (id on : Int) : Bool := waitsN d on (d.Threads.length + 1) (nxt d id)
theorem c110 {n q : Int} {t l : Sl} {d : DSched} {id on : Int} {w : World} (h : SAt w t l d) : CallW Try.prog 110 #[sAgg n q t l, .int .i64 id, .int .i64 on] w (fun v w' => v = .bool (waits d id on) ∧ Ext w w') := by
  refine go110 ?_
  unfold W110
  refine LetW_iff.2 ?_
  have hb : Blk (w.alloc (.cells #[.int .i64 n, .int .i64 q, .slice t.a t.len t.cap, .slice l.a l.len l.cap] 31)) w.heap.size (sCells n q t l) := blk_alloc w _ _
  have e1 := ext_alloc w (.cells #[.int .i64 n, .int .i64 q, .slice t.a t.len t.cap, .slice l.a l.len l.cap] 31)
  generalize w.alloc (.cells #[.int .i64 n, .int .i64 q, .slice t.a t.len t.cap, .slice l.a l.len l.cap] 31) = w1 at *
  have h1 := h.ext e1
  have htl := h.tl
  have hfew := h.few.1
  refine ⟨n, hb.cell 0, q, hb.cell 1, t, hb.cell 2, l, hb.cell 3, (c159 h1).mono ?_⟩
  rintro _ w2 ⟨rfl, e2⟩
  refine ⟨_, rfl, ?_⟩
  refine LoopW.m2 (fun (a i : Int) w' => 0 ≤ i ∧ i ≤ t.len + 1 ∧ waitsN d on (t.len + 1 - i).toNat a = waits d id on ∧ Ext w1 w') (fun _ (i : Int) _ => (t.len + 1 - i).toNat) ⟨by omega, by omega, ?_, e2⟩ ?_
  · unfold waits; congr 1; omega
  rintro (a : Int) (i : Int) w3 ⟨hi0, hi1, hr, e3⟩ J hJ
  have hb3 := hb.ext e3
  have h3 := h1.ext e3
  refine ⟨t, hb3.cell 2, ?_⟩
  simp only [join_and]
  refine BIf.of (fun hc => ?_) (fun hc => ?_)
  · simp only [Bool.and_eq_true, decide_eq_true_eq] at hc
    rw [show (t.len + 1 - i).toNat = (t.len - i).toNat + 1 by omega] at hr
    rw [waitsN, if_neg (by omega)] at hr
    refine BIf.eq (fun e => ?_) (fun e => ?_)
    · rw [if_pos e] at hr
      exact ⟨by rw [← hr], Only.trans e1 e3⟩
    · rw [if_neg e] at hr
      refine ⟨n, hb3.cell 0, q, hb3.cell 1, t, hb3.cell 2, l, hb3.cell 3, (c159 h3).mono ?_⟩
      rintro _ w4 ⟨rfl, e4⟩
      refine ⟨_, rfl, ?_⟩
      rw [w64 (by omega) (by omega)]
      exact hJ _ _ _ ⟨by omega, by omega, by rw [← hr]; congr 1; omega, Only.trans e3 e4⟩ (by omega)
  · refine ⟨?_, Only.trans e1 e3⟩
    simp only [Bool.and_eq_false_iff, decide_eq_false_iff_not] at hc
    rw [← hr]
    rcases hc with hc | hc
    · rw [show (t.len + 1 - i).toNat = 0 by omega]; rfl
    · cases hk : (t.len + 1 - i).toNat with
      | zero => rfl
      | succ k => rw [waitsN, if_pos (by omega)]
end Go.Proofs.Ytenhcpjlkmbedaa

/- FnExactPick: one thread, on the reference's side. Conditions: none. -/
set_option linter.unusedVariables false
set_option linter.unusedSimpArgs false
namespace Go.Proofs.Ytenhcpjlkmbedaa
open Go Go.Den
def tAgg (x : DThread) : Value := .agg #[.int .i64 x.Id, .int .i64 x.Base, .int .i64 x.State, .int .i64 x.Line, .int .i64 x.Left, .int .i64 x.Since, .int .i64 x.Until, .int .i64 x.Wait]
def thrBad (d : DSched) (x : DThread) : Bool := decide (x.Id < 0) || decide (x.Id ≥ 32) || decide (x.Base < 0) || decide (x.Base > 7) || decide (x.Line < 1) || decide (x.Line > d.Seq) || decide (x.Left < 1) || decide (x.Left > 4) || decide (x.Since < 0) || decide (x.Since > d.Now)
def thrOk (d : DSched) (x : DThread) : Bool := if thrBad d x = true then false else if x.State = 1 then (x.Wait == -1 && x.Until == 0) else if x.State = 2 then (decide (idL d x.Wait ≥ 0) && x.Until == 0) else (x.State == 3 && x.Wait == -1 && decide (x.Until > 0))
theorem c109 {t l : Sl} {d : DSched} {x : DThread} {w : World} (h : SAt w t l d) : CallW Try.prog 109 #[sAgg d.Now d.Seq t l, tAgg x] w (fun v w' => v = .bool (thrOk d x) ∧ Ext w w') := by
  refine go109 ?_
  unfold W109
  refine LetW_iff.2 ?_
  have hb : Blk (w.alloc (.cells #[.int .i64 d.Now, .int .i64 d.Seq, .slice t.a t.len t.cap, .slice l.a l.len l.cap] 31)) w.heap.size (sCells d.Now d.Seq t l) := blk_alloc w _ _
  have e1 := ext_alloc w (.cells #[.int .i64 d.Now, .int .i64 d.Seq, .slice t.a t.len t.cap, .slice l.a l.len l.cap] 31)
  generalize w.alloc (.cells #[.int .i64 d.Now, .int .i64 d.Seq, .slice t.a t.len t.cap, .slice l.a l.len l.cap] 31) = w1 at *
  refine LetW_iff.2 ?_
  have hx : Blk (w1.alloc (.cells #[.int .i64 x.Id, .int .i64 x.Base, .int .i64 x.State, .int .i64 x.Line, .int .i64 x.Left, .int .i64 x.Since, .int .i64 x.Until, .int .i64 x.Wait] 86)) w1.heap.size x.cells := blk_alloc w1 _ _
  have e2 := ext_alloc w1 (.cells #[.int .i64 x.Id, .int .i64 x.Base, .int .i64 x.State, .int .i64 x.Line, .int .i64 x.Left, .int .i64 x.Since, .int .i64 x.Until, .int .i64 x.Wait] 86)
  generalize w1.alloc (.cells #[.int .i64 x.Id, .int .i64 x.Base, .int .i64 x.State, .int .i64 x.Line, .int .i64 x.Left, .int .i64 x.Since, .int .i64 x.Until, .int .i64 x.Wait] 86) = w2 at *
  have hb := hb.ext e2
  have e12 := Only.trans e1 e2
  have h2 := h.ext e12
  refine ⟨_, hx.cell 0, ?_⟩
  refine join_or_ex _ (hx.cell 0) ?_
  refine join_or_ex _ (hx.cell 1) ?_
  refine join_or_ex _ (hx.cell 1) ?_
  refine join_or_ex _ (hx.cell 3) ?_
  refine join_or_ex2 _ _ (hx.cell 3) (hb.cell 1) ?_
  refine join_or_ex _ (hx.cell 4) ?_
  refine join_or_ex _ (hx.cell 4) ?_
  refine join_or_ex _ (hx.cell 5) ?_
  refine join_or_ex2 _ _ (hx.cell 5) (hb.cell 0) ?_
  unfold thrOk
  refine BIf.of (fun hbad => ?_) (fun hgood => ?_)
  · rw [if_pos (show thrBad d x = true from hbad)]
    exact ⟨rfl, e12⟩
  · rw [if_neg (by rw [show thrBad d x = false from hgood]; simp)]
    refine ⟨_, hx.cell 2, BIf.eq (fun hs => ?_) (fun hs => BIf.eq (fun hs2 => ?_) (fun hs2 => ?_))⟩
    · rw [if_pos hs]
      refine ⟨_, hx.cell 7, join_and_ex _ (hx.cell 6) ⟨rfl, e12⟩⟩
    · rw [if_neg hs, if_pos hs2]
      refine ⟨_, hb.cell 0, _, hb.cell 1, t, hb.cell 2, l, hb.cell 3, _, hx.cell 7, (c158 h2).mono ?_⟩
      rintro _ w3 ⟨rfl, e3⟩
      refine ⟨_, rfl, join_and_ex _ ((hx.ext e3).cell 6) ⟨rfl, Only.trans e12 e3⟩⟩
    · rw [if_neg hs, if_neg hs2]
      refine ⟨_, hx.cell 2, join_and_ex _ (hx.cell 7) (join_and_ex _ (hx.cell 6) ⟨rfl, e12⟩)⟩
/-- A thread's own priority. -/
def own (d : DSched) (x : DThread) : Int := if (if x.State = 1 then x.Base + (d.Now - x.Since) / 16 else x.Base) > 7 then 7 else (if x.State = 1 then x.Base + (d.Now - x.Since) / 16 else x.Base)
/-- What is needed of the numbers. -/
def thrNum (d : DSched) (x : DThread) : Prop := 0 ≤ x.Base ∧ x.Base ≤ 7 ∧ 0 ≤ x.Since ∧ x.Since ≤ d.Now ∧ d.Now ≤ 1099511627776
theorem c160 {q : Int} {t l : Sl} {d : DSched} {x : DThread} {w : World} (hx : thrNum d x) : CallW Try.prog 160 #[sAgg d.Now q t l, tAgg x] w (fun v w' => v = .int .i64 (own d x) ∧ Ext w w') := by
  obtain ⟨n0, n1, n2, n3, n4⟩ := hx
  refine go160 ?_
  unfold W160
  refine LetW_iff.2 ?_
  have hb : Blk (w.alloc (.cells #[.int .i64 d.Now, .int .i64 q, .slice t.a t.len t.cap, .slice l.a l.len l.cap] 31)) w.heap.size (sCells d.Now q t l) := blk_alloc w _ _
  have e1 := ext_alloc w (.cells #[.int .i64 d.Now, .int .i64 q, .slice t.a t.len t.cap, .slice l.a l.len l.cap] 31)
  generalize w.alloc (.cells #[.int .i64 d.Now, .int .i64 q, .slice t.a t.len t.cap, .slice l.a l.len l.cap] 31) = w1 at *
  refine LetW_iff.2 ?_
  have hx : Blk (w1.alloc (.cells #[.int .i64 x.Id, .int .i64 x.Base, .int .i64 x.State, .int .i64 x.Line, .int .i64 x.Left, .int .i64 x.Since, .int .i64 x.Until, .int .i64 x.Wait] 86)) w1.heap.size x.cells := blk_alloc w1 _ _
  have e2 := ext_alloc w1 (.cells #[.int .i64 x.Id, .int .i64 x.Base, .int .i64 x.State, .int .i64 x.Line, .int .i64 x.Left, .int .i64 x.Since, .int .i64 x.Until, .int .i64 x.Wait] 86)
  generalize w1.alloc (.cells #[.int .i64 x.Id, .int .i64 x.Base, .int .i64 x.State, .int .i64 x.Line, .int .i64 x.Left, .int .i64 x.Since, .int .i64 x.Until, .int .i64 x.Wait] 86) = w2 at *
  have hb := hb.ext e2
  have e12 := Only.trans e1 e2
  refine ⟨_, hx.cell 1, JoinW.cut1 (fun (p : Int) w' => p = (if x.State = 1 then x.Base + (d.Now - x.Since) / 16 else x.Base) ∧ w' = w2) ?_ ?_⟩
  · refine ⟨_, hx.cell 2, BIf.eq (fun hs => ?_) (fun hs => ?_)⟩
    · refine ⟨_, hb.cell 0, _, hx.cell 5, by omega, ?_, rfl⟩
      rw [if_pos hs, w64 (n := d.Now - x.Since) (by omega) (by omega), Int.tdiv_eq_ediv_of_nonneg (by omega), w64 (n := (d.Now - x.Since) / 16) (by omega) (by omega), w64 (by omega) (by omega)]
    · exact ⟨by rw [if_neg hs], rfl⟩
  · rintro (p : Int) w2 ⟨hp, rfl⟩
    unfold own
    rw [← hp]
    refine BIf.dec (fun h7 => ?_) (fun h7 => ?_)
    · rw [if_pos h7]; exact ⟨rfl, e12⟩
    · rw [if_neg h7]; exact ⟨rfl, e12⟩
end Go.Proofs.Ytenhcpjlkmbedaa

/- FnExactPick: a thread's priority, and who is picked, on the reference's side. Conditions: none. -/
set_option linter.unusedVariables false
set_option linter.unusedSimpArgs false
namespace Go.Proofs.Ytenhcpjlkmbedaa
open Go Go.Den
def prioL (d : DSched) (id : Int) : List DThread → Int → Int
  | [], p => p
  | x :: r, p => prioL d id r (if waits d x.Id id = true then (if own d x > p then own d x else p) else p)
def prio (d : DSched) (x : DThread) : Int := prioL d x.Id d.Threads (own d x)
theorem own_range {d : DSched} {x : DThread} (h : thrNum d x) : 0 ≤ own d x ∧ own d x ≤ 7 := by
  obtain ⟨n0, n1, n2, n3, n4⟩ := h
  unfold own
  split <;> split <;> omega
theorem c111 {t l : Sl} {d : DSched} {x : DThread} {id : Int} {w : World} (h : SAt w t l d) (hx : thrOf d id = some x) (hid : x.Id = id) (hnum : ∀ y, y ∈ d.Threads → thrNum d y) : CallW Try.prog 111 #[sAgg d.Now d.Seq t l, .int .i64 id] w (fun v w' => v = .int .i64 (prio d x) ∧ Ext w w') := by
  refine go111 ?_
  unfold W111
  refine LetW_iff.2 ?_
  have hb0 : Blk (w.alloc (.cells #[.int .i64 d.Now, .int .i64 d.Seq, .slice t.a t.len t.cap, .slice l.a l.len l.cap] 31)) w.heap.size (sCells d.Now d.Seq t l) := blk_alloc w _ _
  have e0 := ext_alloc w (.cells #[.int .i64 d.Now, .int .i64 d.Seq, .slice t.a t.len t.cap, .slice l.a l.len l.cap] 31)
  generalize w.alloc (.cells #[.int .i64 d.Now, .int .i64 d.Seq, .slice t.a t.len t.cap, .slice l.a l.len l.cap] 31) = w0 at *
  have e1 := Only.trans e0 (ext_drew w0)
  have hb := hb0.ext (ext_drew w0)
  have h1 := h.ext e1
  have htl := h.tl
  have hfew := h.few.1
  generalize w0.drew = w1 at *
  refine ⟨_, hb.cell 0, _, hb.cell 1, t, hb.cell 2, l, hb.cell 3, t, hb.cell 2, _, hb.cell 0, _, hb.cell 1, t, hb.cell 2, l, hb.cell 3, (c108 h1).mono ?_⟩
  rintro _ w2 ⟨rfl, e2⟩
  have hb2 := hb.ext e2
  have h2 := h1.ext e2
  have e02 := Only.trans e1 e2
  refine ⟨_, rfl, ⟨t, hb2.cell 2, rfl⟩, ⟨_, hb2.cell 0, _, hb2.cell 1, t, hb2.cell 2, l, hb2.cell 3, rfl⟩, ?_⟩
  rcases idT_find d id with ⟨_, hf⟩ | ⟨i, x', hi, hxi, hf⟩
  · rw [hf] at hx; cases hx
  rw [hf] at hx; cases hx
  have hil := (List.getElem?_eq_some_iff.1 hxi).1
  rw [hi, Int.toNat_natCast]
  obtain ⟨p, hp, hc⟩ := h2.thr hxi
  refine ⟨by omega, by omega, p, hp, _, hc 0 _ rfl, _, hc 1 _ rfl, _, hc 2 _ rfl, _, hc 3 _ rfl, _, hc 4 _ rfl, _, hc 5 _ rfl, _, hc 6 _ rfl, _, hc 7 _ rfl, ?_⟩
  refine (c160 (hnum x (List.mem_of_getElem? hxi))).mono ?_
  rintro _ w3 ⟨rfl, e3⟩
  have hb3 := hb2.ext e3
  have h3 := h2.ext e3
  have e03 := Only.trans e02 e3
  refine ⟨_, rfl, ?_⟩
  refine LoopW.m2 (fun (p i : Int) w' => 0 ≤ i ∧ i ≤ t.len ∧ prioL d id (d.Threads.drop i.toNat) p = prio d x ∧ Ext w3 w') (fun _ (i : Int) _ => (t.len - i).toNat) ⟨by omega, by omega, by unfold prio; rw [hid]; rfl, Only.refl _ _⟩ ?_
  rintro (pr : Int) (i : Int) w4 ⟨hi0, hi1, hr, e4⟩ J hJ
  obtain ⟨k, rfl⟩ := Int.eq_ofNat_of_zero_le hi0
  rw [Int.toNat_natCast] at hr ⊢
  have hb4 := hb3.ext e4
  refine ⟨t, hb4.cell 2, BIf.dec (fun hlt => ?_) (fun hge => ?_)⟩
  · have hk : k < d.Threads.length := by omega
    have hget : d.Threads[k]? = some d.Threads[k] := List.getElem?_eq_getElem hk
    have e5 := Only.trans e4 (ext_drew w4)
    have hb5 := hb3.ext e5
    have h5 := h3.ext e5
    generalize w4.drew = w5 at *
    obtain ⟨p5, hp5, hc5⟩ := h5.thr hget
    rw [List.drop_eq_getElem_cons hk, prioL] at hr
    refine ⟨_, hb5.cell 0, _, hb5.cell 1, t, hb5.cell 2, l, hb5.cell 3, t, hb5.cell 2, hi0, hlt, p5, hp5, _, hc5 0 _ rfl, (c110 h5).mono ?_⟩
    rintro _ w6 ⟨rfl, e6⟩
    refine ⟨_, rfl, ?_⟩
    rw [w64 (n := (k : Int) + 1) (by omega) (by omega)]
    refine BIf.of (fun hw => ?_) (fun hw => ?_)
    · rw [if_pos hw] at hr
      have e7 := Only.trans e5 (Only.trans e6 (ext_drew w6))
      have hb7 := hb3.ext e7
      have h7 := h3.ext e7
      generalize w6.drew = w7 at *
      obtain ⟨p7, hp7, hc7⟩ := h7.thr hget
      refine ⟨_, hb7.cell 0, _, hb7.cell 1, t, hb7.cell 2, l, hb7.cell 3, t, hb7.cell 2, hi0, hlt, p7, hp7, _, hc7 0 _ rfl, _, hc7 1 _ rfl, _, hc7 2 _ rfl, _, hc7 3 _ rfl, _, hc7 4 _ rfl, _, hc7 5 _ rfl, _, hc7 6 _ rfl, _, hc7 7 _ rfl, ?_⟩
      refine (c160 (hnum d.Threads[k] (List.getElem_mem hk))).mono ?_
      rintro _ w8 ⟨rfl, e8⟩
      refine ⟨_, rfl, BIf.dec (fun hgt => ?_) (fun hng => ?_)⟩
      · rw [if_pos hgt] at hr
        exact hJ _ _ _ ⟨by omega, by omega, hr, Only.trans e7 e8⟩ (by omega)
      · rw [if_neg hng] at hr
        exact hJ _ _ _ ⟨by omega, by omega, hr, Only.trans e7 e8⟩ (by omega)
    · rw [if_neg (by rw [hw]; simp)] at hr
      exact hJ _ _ _ ⟨by omega, by omega, hr, Only.trans e5 e6⟩ (by omega)
  · rw [List.drop_eq_nil_of_le (by omega)] at hr
    exact ⟨by rw [← hr]; rfl, Only.trans e03 e4⟩
end Go.Proofs.Ytenhcpjlkmbedaa

/- FnExactPick: who is picked, on the reference's side. Conditions: none. -/
set_option linter.unusedVariables false
set_option linter.unusedSimpArgs false
namespace Go.Proofs.Ytenhcpjlkmbedaa
open Go Go.Den
def lineAt (d : DSched) (b : Int) : Int := match d.Threads[b.toNat]? with | some y => y.Line | none => 0
def pickL (d : DSched) : List DThread → Nat → Int → Int → Int
  | [], _, b, _ => b
  | x :: r, i, b, m => if x.State = 1 then (if prio d x > m ∨ (prio d x = m ∧ x.Line < lineAt d b) then pickL d r (i + 1) i (prio d x) else pickL d r (i + 1) b m) else pickL d r (i + 1) b m
def pickS (d : DSched) : Int := if pickL d d.Threads 0 (-1) (-1) < 0 then -1 else match d.Threads[(pickL d d.Threads 0 (-1) (-1)).toNat]? with | some y => y.Id | none => -1
theorem prioL_ge (d : DSched) (id : Int) : ∀ (l : List DThread) (p : Int), p ≤ prioL d id l p
  | [], p => Int.le_refl _
  | x :: r, p => by
    unfold prioL
    refine Int.le_trans ?_ (prioL_ge d id r _)
    split
    · split <;> omega
    · exact Int.le_refl _
theorem prio_ge {d : DSched} {x : DThread} (h : thrNum d x) : 0 ≤ prio d x := Int.le_trans (own_range h).1 (prioL_ge _ _ _ _)
theorem thr_put {w : World} {b : Nat} {cs : List Value} (h : Blk w b cs) (hl : cs.length = 8) (x : DThread) {Q : World → Prop} (hq : ∀ w', Only (fun k => k = b) w w' → Blk w' b x.cells → Q w') :
    MayN w ⟨b, 0, none⟩ 8 ∧ LetW (puts w ⟨b, 0, none⟩ 0 [.int .i64 x.Id, .int .i64 x.Base, .int .i64 x.State, .int .i64 x.Line, .int .i64 x.Left, .int .i64 x.Since, .int .i64 x.Until, .int .i64 x.Wait]) Q := by
  refine ⟨h.mayN (by omega), LetW_iff.2 (hq _ (only_puts x.cells w ⟨b, 0, none⟩ 0) ?_)⟩
  have hb := Blk.puts x.cells h 0 0
  have he : setAll cs (0 + 0) x.cells = x.cells := by
    rw [setAll_eq _ _ _ (by rw [hl]; exact Nat.le_refl _)]
    have : List.drop 8 cs = [] := List.drop_eq_nil_of_le (by omega)
    simp [DThread.cells, this]
  rw [he] at hb
  exact hb
theorem c49 {t l : Sl} {d : DSched} {w : World} (h : SAt w t l d) (hfind : ∀ x, x ∈ d.Threads → thrOf d x.Id = some x) (hnum : ∀ y, y ∈ d.Threads → thrNum d y) : CallW Try.prog 49 #[sAgg d.Now d.Seq t l] w (fun v w' => v = .int .i64 (pickS d) ∧ Ext w w') := by
  refine go49 ?_
  unfold W49
  refine LetW_iff.2 ?_
  have hb : Blk (w.alloc (.cells #[.int .i64 d.Now, .int .i64 d.Seq, .slice t.a t.len t.cap, .slice l.a l.len l.cap] 31)) w.heap.size (sCells d.Now d.Seq t l) := blk_alloc w _ _
  have e0 := ext_alloc w (.cells #[.int .i64 d.Now, .int .i64 d.Seq, .slice t.a t.len t.cap, .slice l.a l.len l.cap] 31)
  generalize w.alloc (.cells #[.int .i64 d.Now, .int .i64 d.Seq, .slice t.a t.len t.cap, .slice l.a l.len l.cap] 31) = w0 at *
  have h0 := h.ext e0
  have htl := h.tl
  have hfew := h.few.1
  refine LoopW.m3 (fun (b m i : Int) w' => 0 ≤ i ∧ i ≤ t.len ∧ ((b = -1 ∧ m = -1) ∨ (0 ≤ b ∧ b < i ∧ 0 ≤ m)) ∧ pickL d (d.Threads.drop i.toNat) i.toNat b m = pickL d d.Threads 0 (-1) (-1) ∧ Ext w0 w') (fun _ _ (i : Int) _ => (t.len - i).toNat) ⟨by omega, by omega, .inl ⟨rfl, rfl⟩, rfl, Only.refl _ _⟩ ?_
  rintro (b : Int) (m : Int) (i : Int) w1 ⟨hi0, hi1, hbm, hr, e1⟩ J hJ
  obtain ⟨k, rfl⟩ := Int.eq_ofNat_of_zero_le hi0
  rw [Int.toNat_natCast] at hr ⊢
  have hb1 := hb.ext e1
  have h1 := h0.ext e1
  refine ⟨t, hb1.cell 2, BIf.dec (fun hlt => ?_) (fun hge => ?_)⟩
  · have hk : k < d.Threads.length := by omega
    have hget : d.Threads[k]? = some d.Threads[k] := List.getElem?_eq_getElem hk
    have hmem := List.getElem_mem hk
    rw [List.drop_eq_getElem_cons hk, pickL] at hr
    obtain ⟨p, hp, hc⟩ := h1.thr hget
    generalize d.Threads[k] = x at *
    refine ⟨t, hb1.cell 2, hi0, hlt, p, hp, _, hc 0 _ rfl, _, hc 1 _ rfl, _, hc 2 _ rfl, _, hc 3 _ rfl, _, hc 4 _ rfl, _, hc 5 _ rfl, _, hc 6 _ rfl, _, hc 7 _ rfl, LetW_iff.2 ?_⟩
    have hz : Blk (w1.alloc (.cells #[.int .i64 0, .int .i64 0, .int .i64 0, .int .i64 0, .int .i64 0, .int .i64 0, .int .i64 0, .int .i64 0] 86)) w1.heap.size _ := blk_alloc w1 _ _
    have e2 := ext_alloc w1 (.cells #[.int .i64 0, .int .i64 0, .int .i64 0, .int .i64 0, .int .i64 0, .int .i64 0, .int .i64 0, .int .i64 0] 86)
    refine thr_put hz rfl x (fun w3 o3 hx3 => ?_)
    have e13 : Ext w1 w3 := Ext.own e2 o3 (by rintro k rfl; exact Nat.le_refl _)
    have e3 := Only.trans e1 e13
    have hb3 := hb.ext e3
    have h3 := h0.ext e3
    rw [w64 (n := (k : Int) + 1) (by omega) (by omega)]
    refine ⟨_, hx3.cell 2, BIf.ne (fun hs => ?_) (fun hs => ?_)⟩
    · rw [if_neg hs] at hr
      exact hJ _ _ _ _ ⟨by omega, by omega, by omega, hr, e3⟩ (by omega)
    · rw [if_pos hs] at hr
      refine ⟨_, hb3.cell 0, _, hb3.cell 1, t, hb3.cell 2, l, hb3.cell 3, _, hx3.cell 0, (c111 h3 (hfind x hmem) rfl hnum).mono ?_⟩
      rintro _ w4 ⟨rfl, e4⟩
      have e5 := Only.trans e3 (Only.trans e4 (ext_drew w4))
      have hx5 := hx3.ext (Only.trans e4 (ext_drew w4))
      have hb5 := hb.ext e5
      have h5 := h0.ext e5
      have hpr := prio_ge (hnum x hmem)
      refine ⟨_, rfl, JoinW.cut1 (fun (c : Bool) w' => c = decide (prio d x > m ∨ (prio d x = m ∧ x.Line < lineAt d b)) ∧ w' = w4.drew) ?_ ?_⟩
      · refine BIf.dec (fun h1 => ⟨?_, rfl⟩) (fun h1 => BIf.eq (fun h2 => ?_) (fun h2 => ⟨?_, rfl⟩))
        · exact (decide_eq_true (.inl h1)).symm
        · have hbb : 0 ≤ b ∧ b < k := by omega
          have hbl : b.toNat < d.Threads.length := by omega
          have hgb : d.Threads[b.toNat]? = some d.Threads[b.toNat] := List.getElem?_eq_getElem hbl
          obtain ⟨r, hr', hcr⟩ := h5.thr hgb
          refine ⟨_, hx5.cell 3, t, hb5.cell 2, by omega, by omega, r, hr', _, hcr 3 _ rfl, ?_, rfl⟩
          have hla : lineAt d b = d.Threads[b.toNat].Line := by unfold lineAt; rw [hgb]
          rw [hla]
          apply decide_eq_decide.2
          exact ⟨fun h => .inr ⟨h2, h⟩, fun h => by rcases h with h | h; exact absurd h h1; exact h.2⟩
        · exact (decide_eq_false (by rintro (h | h); exact h1 h; exact h2 h.1)).symm
      · rintro (c : Bool) w5 ⟨hcc, rfl⟩
        refine BIf.of (fun hc1 => ?_) (fun hc1 => ?_)
        · rw [hc1] at hcc
          rw [if_pos (of_decide_eq_true hcc.symm)] at hr
          exact hJ _ _ _ _ ⟨by omega, by omega, .inr ⟨by omega, by omega, hpr⟩, hr, e5⟩ (by omega)
        · rw [hc1] at hcc
          rw [if_neg (of_decide_eq_false hcc.symm)] at hr
          exact hJ _ _ _ _ ⟨by omega, by omega, by omega, hr, e5⟩ (by omega)
  · rw [List.drop_eq_nil_of_le (by omega)] at hr
    have hr : pickL d d.Threads 0 (-1) (-1) = b := hr.symm
    have e01 := Only.trans e0 e1
    unfold pickS
    rw [hr]
    refine BIf.dec (fun hneg => ?_) (fun hpos => ?_)
    · rw [if_pos hneg]; exact ⟨rfl, e01⟩
    · rw [if_neg hpos]
      have hbl : b.toNat < d.Threads.length := by omega
      have hgb : d.Threads[b.toNat]? = some d.Threads[b.toNat] := List.getElem?_eq_getElem hbl
      obtain ⟨r, hr', hcr⟩ := h1.thr hgb
      refine ⟨t, hb1.cell 2, by omega, by omega, r, hr', _, hcr 0 _ rfl, ?_, e01⟩
      rw [hgb]
end Go.Proofs.Ytenhcpjlkmbedaa

/- FnExactPick: when a state can be, on the reference's side. Conditions: none. -/
set_option linter.unusedVariables false
set_option linter.unusedSimpArgs false
namespace Go.Proofs.Ytenhcpjlkmbedaa
open Go Go.Den
def cnt (n : Int) : Bool := decide (n ≥ 0) && decide (n ≤ 1099511627776)
def headBad (d : DSched) : Bool := ((!cnt d.Now || !cnt d.Seq) || decide ((d.Threads.length : Int) > 32)) || decide ((d.Locks.length : Int) > 16)
def LckOk (d : DSched) (i : Nat) (y : DLock) : Prop := 0 ≤ y.Id ∧ y.Id < 16 ∧ (∀ z, 0 < i → d.Locks[i - 1]? = some z → z.Id < y.Id) ∧ 0 ≤ idT d y.Owner
def ThrOk (d : DSched) (i : Nat) (x : DThread) : Prop := (∀ z, 0 < i → d.Threads[i - 1]? = some z → z.Id < x.Id) ∧ thrOk d x = true ∧ waits d x.Id x.Id = false
def LineOk (d : DSched) (i : Nat) (x : DThread) : Prop := ∀ j z, j < i → d.Threads[j]? = some z → z.Line ≠ x.Line
structure SOk (d : DSched) : Prop where
  head : headBad d = false
  lck : ∀ i y, d.Locks[i]? = some y → LckOk d i y
  thr : ∀ i x, d.Threads[i]? = some x → ThrOk d i x ∧ LineOk d i x
theorem lck_put {w : World} {b : Nat} {cs : List Value} (h : Blk w b cs) (hl : cs.length = 2) (x : DLock) {Q : World → Prop} (hq : ∀ w', Only (fun k => k = b) w w' → Blk w' b x.cells → Q w') :
    MayN w ⟨b, 0, none⟩ 2 ∧ LetW (puts w ⟨b, 0, none⟩ 0 [.int .i64 x.Id, .int .i64 x.Owner]) Q := by
  refine ⟨h.mayN (by omega), LetW_iff.2 (hq _ (only_puts x.cells w ⟨b, 0, none⟩ 0) ?_)⟩
  have hb := Blk.puts x.cells h 0 0
  have he : setAll cs (0 + 0) x.cells = x.cells := by
    rw [setAll_eq _ _ _ (by rw [hl]; exact Nat.le_refl _)]
    have : List.drop 2 cs = [] := List.drop_eq_nil_of_le (by omega)
    simp [DLock.cells, this]
  rw [he] at hb
  exact hb
def KOk (d : DSched) (w : World) (v : Value) (w' : World) : Prop := ∃ b : Bool, v = .bool b ∧ (b = true ↔ SOk d) ∧ Ext w w'
theorem c48 {t l : Sl} {d : DSched} {w : World} (h : SAt w t l d) : CallW Try.prog 48 #[sAgg d.Now d.Seq t l] w (KOk d w) := by
  refine go48 ?_
  unfold W48
  refine LetW_iff.2 ?_
  have hb : Blk (w.alloc (.cells #[.int .i64 d.Now, .int .i64 d.Seq, .slice t.a t.len t.cap, .slice l.a l.len l.cap] 31)) w.heap.size (sCells d.Now d.Seq t l) := blk_alloc w _ _
  have e0 := ext_alloc w (.cells #[.int .i64 d.Now, .int .i64 d.Seq, .slice t.a t.len t.cap, .slice l.a l.len l.cap] 31)
  generalize w.alloc (.cells #[.int .i64 d.Now, .int .i64 d.Seq, .slice t.a t.len t.cap, .slice l.a l.len l.cap] 31) = w1 at *
  have h1 := h.ext e0
  have htl := h.tl
  have hll := h.ll
  have hfew := h.few
  refine ⟨_, hb.cell 0, c107.mono ?_⟩
  rintro _ w1 ⟨rfl, rfl⟩
  refine ⟨_, rfl, JoinW.cut1 (fun (b : Bool) w' => b = (!cnt d.Now || !cnt d.Seq) ∧ w' = w1) ?_ ?_⟩
  · refine BIf.of (fun hc => ⟨?_, rfl⟩) (fun hc => ⟨_, hb.cell 1, c107.mono ?_⟩)
    · rw [show (!cnt d.Now) = true from hc]; rfl
    · rintro _ w1 ⟨rfl, rfl⟩
      refine ⟨_, rfl, ?_, rfl⟩
      rw [show (!cnt d.Now) = false from hc]; rfl
  rintro (b : Bool) w1 ⟨hbb, rfl⟩
  refine join_or_ex t (hb.cell 2) ?_
  refine join_or_ex l (hb.cell 3) ?_
  have hhead : ((b || decide (((t.len : Nat) : Int) > 32)) || decide (((l.len : Nat) : Int) > 16)) = headBad d := by
    unfold headBad; rw [hbb, htl, hll]
  rw [hhead]
  refine BIf.of (fun hbad => ⟨false, rfl, ⟨(fun h => nomatch h), fun h => by rw [h.head] at hbad; cases hbad⟩, e0⟩) (fun hgood => ?_)
  refine LoopW.m1 (fun (i : Int) w' => 0 ≤ i ∧ i ≤ l.len ∧ Ext w1 w' ∧ ∀ (j : Nat) y, (j : Int) < i → d.Locks[j]? = some y → LckOk d j y) (fun (i : Int) _ => (l.len - i).toNat) ⟨by omega, by omega, Only.refl _ _, fun j y hj => by omega⟩ ?_
  rintro (i : Int) w2 ⟨hi0, hi1, e2, hall⟩ J hJ
  obtain ⟨k, rfl⟩ := Int.eq_ofNat_of_zero_le hi0
  have hb2 := hb.ext e2
  have h2 := h1.ext e2
  rw [Int.toNat_natCast]
  refine ⟨l, hb2.cell 3, BIf.dec (fun hlt => ?_) (fun hge => ?_)⟩
  · have hk : k < d.Locks.length := by omega
    have hget : d.Locks[k]? = some d.Locks[k] := List.getElem?_eq_getElem hk
    obtain ⟨p, hp, hc⟩ := h2.lck hget
    generalize d.Locks[k] = y at *
    refine ⟨l, hb2.cell 3, hi0, hlt, p, hp, _, hc 0 _ rfl, _, hc 1 _ rfl, LetW_iff.2 ?_⟩
    have hz : Blk (w2.alloc (.cells #[.int .i64 0, .int .i64 0] 149)) w2.heap.size _ := blk_alloc w2 _ _
    have ez := ext_alloc w2 (.cells #[.int .i64 0, .int .i64 0] 149)
    refine lck_put hz rfl y (fun w3 o3 hy3 => ?_)
    have e3 := Only.trans e2 (Only.trans (Ext.own ez o3 (by rintro k rfl; exact Nat.le_refl _)) (ext_drew w3))
    have hy := hy3.ext (ext_drew w3)
    have hb3 := hb.ext e3
    have h3 := h1.ext e3
    generalize w3.drew = w4 at *
    have own : (LckOk d k y ↔ 0 ≤ idT d y.Owner) → ∀ (J26 : Bool → World → Prop), (∀ b w', (b = false ↔ LckOk d k y) → Ext w1 w' → J26 b w') → ∃ n34 : Int, w4.cell? ⟨w.heap.size, 0, none⟩ = some (.int .i64 n34) ∧ ∃ n35 : Int, w4.cell? ⟨w.heap.size, 1, none⟩ = some (.int .i64 n35) ∧ ∃ l36 : Sl, w4.cell? ⟨w.heap.size, 2, none⟩ = some (.slice l36.a l36.len l36.cap) ∧ ∃ l37 : Sl, w4.cell? ⟨w.heap.size, 3, none⟩ = some (.slice l37.a l37.len l37.cap) ∧ ∃ n38 : Int, w4.cell? ⟨w2.heap.size, 1, none⟩ = some (.int .i64 n38) ∧ CallW Try.prog 108 #[.agg #[.int .i64 n34, .int .i64 n35, .slice l36.a l36.len l36.cap, .slice l37.a l37.len l37.cap], .int .i64 n38] w4 fun v39 w40 => ∃ n41 : Int, v39 = .int .i64 n41 ∧ J26 (decide ((n41 : Int) < 0)) w40 := by
      intro hiff J26 hJ26
      refine ⟨_, hb3.cell 0, _, hb3.cell 1, t, hb3.cell 2, l, hb3.cell 3, _, hy.cell 1, (c108 h3).mono ?_⟩
      rintro _ w5 ⟨rfl, e5⟩
      refine ⟨_, rfl, hJ26 _ _ ?_ (Only.trans e3 e5)⟩
      rw [hiff, decide_eq_false_iff_not]; omega
    refine JoinW.cut1 (fun (b : Bool) w' => (b = false ↔ LckOk d k y) ∧ Ext w1 w') ?_ ?_
    · have no : ¬ LckOk d k y → (true = false ↔ LckOk d k y) ∧ Ext w1 w4 := fun hn => ⟨⟨(fun h => nomatch h), fun h => absurd h hn⟩, e3⟩
      refine ⟨_, hy.cell 0, BIf.dec (fun hc0 => no (fun h => by have := h.1; omega)) (fun hc0 => ⟨_, hy.cell 0, BIf.dec (fun hc1 => no (fun h => by have := h.2.1; omega)) (fun hc1 => BIf.dec (fun hk0 => ?_) (fun hk0 => ?_))⟩)⟩
      · rw [w64 (n := (k : Int) - 1) (by omega) (by omega), show ((k : Int) - 1).toNat = k - 1 by omega]
        have hk1 : k - 1 < d.Locks.length := by omega
        have hget1 : d.Locks[k - 1]? = some d.Locks[k - 1] := List.getElem?_eq_getElem hk1
        obtain ⟨q, hq, hcq⟩ := h3.lck hget1
        refine ⟨l, hb3.cell 3, by omega, by omega, q, hq, _, hcq 0 _ rfl, _, hy.cell 0, BIf.dec (fun hge => no (fun h => ?_)) (fun hlt1 => ?_)⟩
        · have := h.2.2.1 _ (by omega) hget1; omega
        · refine own ⟨fun h => h.2.2.2, fun h => ⟨by omega, by omega, fun z _ hz => ?_, h⟩⟩ (fun b w' => (b = false ↔ LckOk d k y) ∧ Ext w1 w') (fun b w' h1 h2 => ⟨h1, h2⟩)
          rw [hget1] at hz; cases hz; omega
      · exact own ⟨fun h => h.2.2.2, fun h => ⟨by omega, by omega, fun z hk _ => absurd hk (by omega), h⟩⟩ (fun b w' => (b = false ↔ LckOk d k y) ∧ Ext w1 w') (fun b w' h1 h2 => ⟨h1, h2⟩)
    · rintro (b : Bool) w5 ⟨hbl, e5⟩
      refine BIf.of (fun hbt => ⟨false, rfl, ⟨(fun h => nomatch h), fun h => ?_⟩, Only.trans e0 e5⟩) (fun hbf => ?_)
      · have := hbl.2 (h.lck k y hget); rw [this] at hbt; cases hbt
      · rw [w64 (by omega) (by omega)]
        refine hJ _ _ ⟨by omega, by omega, e5, fun j z hj hz => ?_⟩ (by omega)
        by_cases hjk : j = k
        · subst hjk; rw [hget] at hz; cases hz; exact hbl.1 hbf
        · exact hall j z (by omega) hz
  · have hlck : ∀ i y, d.Locks[i]? = some y → LckOk d i y := fun i y hy => hall i y (by have := (List.getElem?_eq_some_iff.1 hy).1; omega) hy
    clear hJ J
    refine LoopW.m1 (fun (i : Int) w' => 0 ≤ i ∧ i ≤ t.len ∧ Ext w1 w' ∧ ∀ (j : Nat) x, (j : Int) < i → d.Threads[j]? = some x → ThrOk d j x ∧ LineOk d j x) (fun (i : Int) _ => (t.len - i).toNat) ⟨by omega, by omega, e2, fun j y hj => by omega⟩ ?_
    rintro (i : Int) w2 ⟨hi0, hi1, e2, hthr⟩ J hJ
    obtain ⟨k, rfl⟩ := Int.eq_ofNat_of_zero_le hi0
    have hb2 := hb.ext e2
    have h2 := h1.ext e2
    rw [Int.toNat_natCast]
    refine ⟨t, hb2.cell 2, BIf.dec (fun hlt => ?_) (fun hge => ?_)⟩
    · have hk : k < d.Threads.length := by omega
      have hget : d.Threads[k]? = some d.Threads[k] := List.getElem?_eq_getElem hk
      obtain ⟨p, hp, hc⟩ := h2.thr hget
      generalize d.Threads[k] = x at *
      refine ⟨t, hb2.cell 2, hi0, hlt, p, hp, _, hc 0 _ rfl, _, hc 1 _ rfl, _, hc 2 _ rfl, _, hc 3 _ rfl, _, hc 4 _ rfl, _, hc 5 _ rfl, _, hc 6 _ rfl, _, hc 7 _ rfl, LetW_iff.2 ?_⟩
      have hz : Blk (w2.alloc (.cells #[.int .i64 0, .int .i64 0, .int .i64 0, .int .i64 0, .int .i64 0, .int .i64 0, .int .i64 0, .int .i64 0] 86)) w2.heap.size _ := blk_alloc w2 _ _
      have ez := ext_alloc w2 (.cells #[.int .i64 0, .int .i64 0, .int .i64 0, .int .i64 0, .int .i64 0, .int .i64 0, .int .i64 0, .int .i64 0] 86)
      refine thr_put hz rfl x (fun w3 o3 hx3 => ?_)
      have e23 : Ext w2 w3 := Ext.own ez o3 (by rintro k rfl; exact Nat.le_refl _)
      have e3 := Only.trans e2 (Only.trans e23 (ext_drew w3))
      have hx := hx3.ext (ext_drew w3)
      have hb3 := hb.ext e3
      have h3 := h1.ext e3
      have own : (ThrOk d k x ↔ thrOk d x = true ∧ waits d x.Id x.Id = false) → ∀ (J26 : Bool → World → Prop), (∀ b w', (b = false ↔ ThrOk d k x) → Ext w1 w' → Ext w3 w' → J26 b w') → ∃ n80 : Int, w3.drew.cell? ⟨w.heap.size, 0, none⟩ = some (.int .i64 n80) ∧ ∃ n81 : Int, w3.drew.cell? ⟨w.heap.size, 1, none⟩ = some (.int .i64 n81) ∧ ∃ l82 : Sl, w3.drew.cell? ⟨w.heap.size, 2, none⟩ = some (.slice l82.a l82.len l82.cap) ∧ ∃ l83 : Sl, w3.drew.cell? ⟨w.heap.size, 3, none⟩ = some (.slice l83.a l83.len l83.cap) ∧ ∃ n84 : Int, w3.drew.cell? ⟨w2.heap.size, 0, none⟩ = some (.int .i64 n84) ∧ ∃ n85 : Int, w3.drew.cell? ⟨w2.heap.size, 1, none⟩ = some (.int .i64 n85) ∧ ∃ n86 : Int, w3.drew.cell? ⟨w2.heap.size, 2, none⟩ = some (.int .i64 n86) ∧ ∃ n87 : Int, w3.drew.cell? ⟨w2.heap.size, 3, none⟩ = some (.int .i64 n87) ∧ ∃ n88 : Int, w3.drew.cell? ⟨w2.heap.size, 4, none⟩ = some (.int .i64 n88) ∧ ∃ n89 : Int, w3.drew.cell? ⟨w2.heap.size, 5, none⟩ = some (.int .i64 n89) ∧ ∃ n90 : Int, w3.drew.cell? ⟨w2.heap.size, 6, none⟩ = some (.int .i64 n90) ∧ ∃ n91 : Int, w3.drew.cell? ⟨w2.heap.size, 7, none⟩ = some (.int .i64 n91) ∧ CallW Try.prog 109 #[.agg #[.int .i64 n80, .int .i64 n81, .slice l82.a l82.len l82.cap, .slice l83.a l83.len l83.cap], .agg #[.int .i64 n84, .int .i64 n85, .int .i64 n86, .int .i64 n87, .int .i64 n88, .int .i64 n89, .int .i64 n90, .int .i64 n91]] w3.drew fun v92 w93 => ∃ b94 : Bool, v92 = .bool b94 ∧ BIf (!b94) (J26 true w93) (∃ n95 : Int, w93.cell? ⟨w.heap.size, 0, none⟩ = some (.int .i64 n95) ∧ ∃ n96 : Int, w93.cell? ⟨w.heap.size, 1, none⟩ = some (.int .i64 n96) ∧ ∃ l97 : Sl, w93.cell? ⟨w.heap.size, 2, none⟩ = some (.slice l97.a l97.len l97.cap) ∧ ∃ l98 : Sl, w93.cell? ⟨w.heap.size, 3, none⟩ = some (.slice l98.a l98.len l98.cap) ∧ ∃ n99 : Int, w93.cell? ⟨w2.heap.size, 0, none⟩ = some (.int .i64 n99) ∧ ∃ n100 : Int, w93.cell? ⟨w2.heap.size, 0, none⟩ = some (.int .i64 n100) ∧ CallW Try.prog 110 #[.agg #[.int .i64 n95, .int .i64 n96, .slice l97.a l97.len l97.cap, .slice l98.a l98.len l98.cap], .int .i64 n99, .int .i64 n100] w93 fun v101 w102 => ∃ b103 : Bool, v101 = .bool b103 ∧ J26 b103 w102) := by
        intro hiff J26 hJ26
        refine ⟨_, hb3.cell 0, _, hb3.cell 1, t, hb3.cell 2, l, hb3.cell 3, _, hx.cell 0, _, hx.cell 1, _, hx.cell 2, _, hx.cell 3, _, hx.cell 4, _, hx.cell 5, _, hx.cell 6, _, hx.cell 7, (c109 (x := x) h3).mono ?_⟩
        rintro _ w5 ⟨rfl, e5⟩
        have hb5 := hb3.ext e5
        have hx5 := hx.ext e5
        refine ⟨_, rfl, BIf.of (fun hn => ?_) (fun hy => ?_)⟩
        · refine hJ26 _ _ ?_ (Only.trans e3 e5) (Only.trans (ext_drew w3) e5)
          rw [hiff]
          exact ⟨(fun h => nomatch h), fun h => by rw [h.1] at hn; cases hn⟩
        · refine ⟨_, hb5.cell 0, _, hb5.cell 1, t, hb5.cell 2, l, hb5.cell 3, _, hx5.cell 0, _, hx5.cell 0, (c110 (h3.ext e5)).mono ?_⟩
          rintro _ w6 ⟨rfl, e6⟩
          refine ⟨_, rfl, hJ26 _ _ ?_ (Only.trans e3 (Only.trans e5 e6)) (Only.trans (ext_drew w3) (Only.trans e5 e6))⟩
          rw [hiff]
          exact ⟨fun h => ⟨by simpa using hy, h⟩, fun h => h.2⟩
      refine JoinW.cut1 (fun (b : Bool) w' => (b = false ↔ ThrOk d k x) ∧ Ext w1 w' ∧ Ext w3 w') ?_ ?_
      · refine BIf.dec (fun hk0 => ?_) (fun hk0 => ?_)
        · rw [w64 (n := (k : Int) - 1) (by omega) (by omega), show ((k : Int) - 1).toNat = k - 1 by omega]
          have hk1 : k - 1 < d.Threads.length := by omega
          have hget1 : d.Threads[k - 1]? = some d.Threads[k - 1] := List.getElem?_eq_getElem hk1
          obtain ⟨q, hq, hcq⟩ := h3.thr hget1
          refine ⟨t, hb3.cell 2, by omega, by omega, q, hq, _, hcq 0 _ rfl, _, hx.cell 0, BIf.dec (fun hge => ⟨⟨(fun h => nomatch h), fun h => ?_⟩, e3, ext_drew w3⟩) (fun hlt1 => ?_)⟩
          · have := h.1 _ (by omega) hget1; omega
          · refine own ⟨fun h => h.2, fun h => ⟨fun z _ hz => ?_, h⟩⟩ (fun b w' => (b = false ↔ ThrOk d k x) ∧ Ext w1 w' ∧ Ext w3 w') (fun b w' h1 h2 h3 => ⟨h1, h2, h3⟩)
            rw [hget1] at hz; cases hz; omega
        · exact own ⟨fun h => h.2, fun h => ⟨fun z hk _ => absurd hk (by omega), h⟩⟩ (fun b w' => (b = false ↔ ThrOk d k x) ∧ Ext w1 w' ∧ Ext w3 w') (fun b w' h1 h2 h3 => ⟨h1, h2, h3⟩)
      · rintro (b : Bool) w5 ⟨hbl, e5, e35⟩
        have hx5 := hx3.ext e35
        refine BIf.of (fun hbt => ⟨false, rfl, ⟨(fun h => nomatch h), fun h => ?_⟩, Only.trans e0 e5⟩) (fun hbf => ?_)
        · have := hbl.2 (h.thr k x hget).1; rw [this] at hbt; cases hbt
        · refine LoopW.m1 (fun (j : Int) w' => 0 ≤ j ∧ j ≤ k ∧ Ext w5 w' ∧ ∀ (i : Nat) z, (i : Int) < j → d.Threads[i]? = some z → z.Line ≠ x.Line) (fun (j : Int) _ => (k - j).toNat) ⟨by omega, by omega, Only.refl _ _, fun i z hi => by omega⟩ ?_
          rintro (j : Int) w6 ⟨hj0, hj1, e6, hlines⟩ J2 hJ2
          obtain ⟨m, rfl⟩ := Int.eq_ofNat_of_zero_le hj0
          rw [Int.toNat_natCast]
          refine BIf.dec (fun hlt2 => ?_) (fun hge2 => ?_)
          · have e7 := Only.trans e6 (ext_drew w6)
            have hx7 := hx5.ext e7
            have e17 := Only.trans e5 e7
            have hb7 := hb.ext e17
            have h7 := h1.ext e17
            have hm : m < d.Threads.length := by omega
            have hgetm : d.Threads[m]? = some d.Threads[m] := List.getElem?_eq_getElem hm
            obtain ⟨q, hq, hcq⟩ := h7.thr hgetm
            refine ⟨t, hb7.cell 2, by omega, by omega, q, hq, _, hcq 3 _ rfl, _, hx7.cell 3, BIf.eq (fun he => ⟨false, rfl, ⟨(fun h => nomatch h), fun h => ?_⟩, Only.trans e0 e17⟩) (fun hne => ?_)⟩
            · exact absurd he ((h.thr k x hget).2 m _ (by omega) hgetm)
            · rw [w64 (by omega) (by omega)]
              refine hJ2 _ _ ⟨by omega, by omega, e7, fun i z hi hz => ?_⟩ (by omega)
              by_cases him : i = m
              · subst him; rw [hgetm] at hz; cases hz; exact hne
              · exact hlines i z (by omega) hz
          · rw [w64 (by omega) (by omega)]
            refine hJ _ _ ⟨by omega, by omega, Only.trans e5 e6, fun i z hi hz => ?_⟩ (by omega)
            by_cases hik : i = k
            · subst hik; rw [hget] at hz; cases hz
              exact ⟨hbl.1 hbf, fun a y ha hy => hlines a y (by omega) hy⟩
            · exact hthr i z (by omega) hz
    · exact ⟨true, rfl, ⟨fun _ => ⟨hgood, hlck, fun i x hx => hthr i x (by have := (List.getElem?_eq_some_iff.1 hx).1; omega) hx⟩, fun _ => rfl⟩, Only.trans e0 e2⟩
end Go.Proofs.Ytenhcpjlkmbedaa

/- FnExactPick: Pick, on the reference's side. Conditions: none. -/
set_option linter.unusedVariables false
set_option linter.unusedSimpArgs false
namespace Go.Proofs.Ytenhcpjlkmbedaa
open Go Go.Den
theorem SOk.now {d : DSched} (h : SOk d) : 0 ≤ d.Now ∧ d.Now ≤ 1099511627776 ∧ 0 ≤ d.Seq ∧ d.Seq ≤ 1099511627776 ∧ d.Threads.length ≤ 32 ∧ d.Locks.length ≤ 16 := by
  have := h.head
  unfold headBad cnt at this
  simp only [Bool.or_eq_false_iff, Bool.not_eq_false', Bool.and_eq_true, decide_eq_true_eq, decide_eq_false_iff_not] at this
  omega
theorem SOk.num {d : DSched} (h : SOk d) : ∀ y, y ∈ d.Threads → thrNum d y := by
  intro y hy
  obtain ⟨i, hi, he⟩ := List.getElem_of_mem hy
  have hk := (h.thr i y (by rw [List.getElem?_eq_getElem hi, he])).1.2.1
  have hn := h.now
  unfold thrOk at hk
  split at hk
  · cases hk
  · rename_i hb
    unfold thrBad at hb
    simp only [Bool.or_eq_true, decide_eq_true_eq] at hb
    unfold thrNum
    omega
theorem SOk.rise {d : DSched} (h : SOk d) : ∀ (n i : Nat) (x y : DThread), d.Threads[i]? = some x → d.Threads[i + n + 1]? = some y → x.Id < y.Id
  | 0, i, x, y, hx, hy => (h.thr (i + 0 + 1) y hy).1.1 x (by omega) hx
  | n + 1, i, x, y, hx, hy => by
    have hl := (List.getElem?_eq_some_iff.1 hy).1
    have hz : d.Threads[i + n + 1]? = some d.Threads[i + n + 1] := List.getElem?_eq_getElem (by omega)
    have h1 := SOk.rise h n i x _ hx hz
    have h2 := (h.thr (i + (n + 1) + 1) y hy).1.1 _ (by omega) (by rw [show i + (n + 1) + 1 - 1 = i + n + 1 by omega]; exact hz)
    omega
theorem SOk.uniq {d : DSched} (h : SOk d) {i j : Nat} {x y : DThread} (hx : d.Threads[i]? = some x) (hy : d.Threads[j]? = some y) (he : x.Id = y.Id) : x = y := by
  rcases Nat.lt_trichotomy i j with hlt | rfl | hgt
  · have := h.rise (j - i - 1) i x y hx (by rw [show i + (j - i - 1) + 1 = j by omega]; exact hy); omega
  · rw [hx] at hy; cases hy; rfl
  · have := h.rise (i - j - 1) j y x hy (by rw [show j + (i - j - 1) + 1 = i by omega]; exact hx); omega
theorem thrOf_id {d : DSched} {id : Int} {x : DThread} (h : thrOf d id = some x) : x.Id = id ∧ x ∈ d.Threads := by
  unfold thrOf at h
  exact ⟨by simpa using List.find?_some h, List.mem_of_find?_eq_some h⟩
theorem SOk.find {d : DSched} (h : SOk d) : ∀ x, x ∈ d.Threads → thrOf d x.Id = some x := by
  intro x hx
  obtain ⟨i, hi, he⟩ := List.getElem_of_mem hx
  have hxi : d.Threads[i]? = some x := by rw [List.getElem?_eq_getElem hi, he]
  rcases hf : thrOf d x.Id with _ | y
  · unfold thrOf at hf
    have := List.find?_eq_none.1 hf x hx
    simp at this
  · obtain ⟨hid, hmem⟩ := thrOf_id hf
    obtain ⟨j, hj, hje⟩ := List.getElem_of_mem hmem
    have hyj : d.Threads[j]? = some y := by rw [List.getElem?_eq_getElem hj, hje]
    rw [h.uniq hyj hxi hid]
/-- What both Picks answer. -/
def KPick (d : DSched) (w : World) (v : Value) (w' : World) : Prop := ∃ n : Int, v = .int .i64 n ∧ (SOk d → n = pickS d) ∧ (¬ SOk d → n = -1) ∧ Ext w w'
theorem c10 {t l : Sl} {d : DSched} {w : World} (h : SAt w t l d) : CallW Try.prog 10 #[sAgg d.Now d.Seq t l] w (KPick d w) := by
  refine go10 ?_
  unfold W10
  refine LetW_iff.2 ?_
  have hb : Blk (w.alloc (.cells #[.int .i64 d.Now, .int .i64 d.Seq, .slice t.a t.len t.cap, .slice l.a l.len l.cap] 31)) w.heap.size (sCells d.Now d.Seq t l) := blk_alloc w _ _
  have e0 := ext_alloc w (.cells #[.int .i64 d.Now, .int .i64 d.Seq, .slice t.a t.len t.cap, .slice l.a l.len l.cap] 31)
  generalize w.alloc (.cells #[.int .i64 d.Now, .int .i64 d.Seq, .slice t.a t.len t.cap, .slice l.a l.len l.cap] 31) = w1 at *
  have h1 := h.ext e0
  refine ⟨_, hb.cell 0, _, hb.cell 1, t, hb.cell 2, l, hb.cell 3, (c48 h1).mono ?_⟩
  rintro _ w2 ⟨b, rfl, hiff, e2⟩
  have hb2 := hb.ext e2
  have e02 := Only.trans e0 e2
  refine ⟨_, rfl, BIf.of (fun hn => ?_) (fun hy => ?_)⟩
  · have hno : ¬ SOk d := fun h => by rw [hiff.2 h] at hn; cases hn
    exact ⟨-1, rfl, fun h => absurd h hno, fun _ => rfl, e02⟩
  · have hs : SOk d := hiff.1 (by simpa using hy)
    refine ⟨_, hb2.cell 0, _, hb2.cell 1, t, hb2.cell 2, l, hb2.cell 3, (c49 (h1.ext e2) hs.find hs.num).mono ?_⟩
    rintro _ w3 ⟨rfl, e3⟩
    exact ⟨_, rfl, _, rfl, fun _ => rfl, fun hn => absurd hs hn, Only.trans e02 e3⟩
end Go.Proofs.Ytenhcpjlkmbedaa

/- FnExactPick: whom a thread waits for, on the program's side. Conditions: none. -/
set_option linter.unusedVariables false
set_option linter.unusedSimpArgs false
namespace Go.Proofs.Ytenhcpjlkmbedaa
open Go Go.Den
def stepI (d : DSched) (id : Int) : Option Int := match thrOf d id with
  | none => none
  | some t => if t.State = 2 then (match lckOf d t.Wait with | none => none | some k => some k.Owner) else none
def waitsI (d : DSched) (to_ : Int) : Nat → Int → Bool
  | 0, _ => false
  | n + 1, at_ => match stepI d at_ with
    | none => false
    | some o => if o = to_ then true else waitsI d to_ n o
theorem ptr_none {a : Option Addr} {z : Nat} : ptrAt a z (-1) = none := rfl
theorem ptr_some {a : Option Addr} {z : Nat} {p : Addr} (h : a = some p) (i : Nat) : ptrAt a z (i : Int) = some (p.add (i * z)) := by
  unfold ptrAt; rw [if_neg (by omega), h, Int.toNat_natCast]; rfl
theorem c116 {s : Addr} {n q : Int} {t l : Sl} {d : DSched} {from_ to_ : Int} {w : World} (hs : PAt w s n q t l) (h : SAt w t l d) : CallW Try.prog 116 #[.pointer (some s), .int .i64 from_, .int .i64 to_] w (fun v w' => v = .bool (waitsI d to_ 34 from_) ∧ w' = w) := by
  refine go116 ?_
  unfold W116
  refine LoopW.m2 (fun (a i : Int) w' => 0 ≤ i ∧ i ≤ 34 ∧ waitsI d to_ (34 - i).toNat a = waitsI d to_ 34 from_ ∧ w' = w) (fun _ (i : Int) _ => (34 - i).toNat) ⟨by omega, by omega, rfl, rfl⟩ ?_
  rintro (a : Int) (i : Int) w ⟨hi0, hi1, hr, rfl⟩ J hJ
  refine BIf.dec (fun hlt => (c115 hs h).mono ?_) (fun hge => ?_)
  · rintro _ w ⟨rfl, rfl⟩
    rw [show (34 - i).toNat = (34 - (i + 1)).toNat + 1 by omega, waitsI] at hr
    refine ⟨_, rfl, ?_⟩
    rcases idT_find d a with ⟨hi, hf⟩ | ⟨k, x, hi, hx, hf⟩
    · rw [hi, ptr_none]
      have : stepI d a = none := by unfold stepI; rw [hf]
      rw [this] at hr
      exact JoinW.each (BIf.t rfl (BIf.t rfl ⟨by rw [← hr], rfl⟩))
    · obtain ⟨p, hp, hc⟩ := h.thr hx
      rw [hi, ptr_some hp]
      refine JoinW.each (BIf.f rfl ⟨_, rfl, _, hc 2 _ rfl, ?_⟩)
      refine BIf.ne (fun hst => ?_) (fun hst => ?_)
      · have : stepI d a = none := by unfold stepI; rw [hf]; simp [hst]
        rw [this] at hr
        exact ⟨by rw [← hr], rfl⟩
      · refine ⟨_, rfl, _, hc 7 _ rfl, (c114 hs h).mono ?_⟩
        rintro _ w ⟨rfl, rfl⟩
        have hstep : stepI d a = match lckOf d x.Wait with | none => none | some k => some k.Owner := by unfold stepI; rw [hf]; simp only [hst, if_true]
        refine ⟨_, rfl, ?_⟩
        rcases idL_find d x.Wait with ⟨hi, hf⟩ | ⟨j, y, hi, hy, hf⟩
        · rw [hi, ptr_none]
          rw [hstep, hf] at hr
          exact BIf.t rfl ⟨by rw [← hr], rfl⟩
        · obtain ⟨r, hr', hcr⟩ := h.lck hy
          rw [hi, ptr_some hr']
          rw [hstep, hf] at hr
          refine BIf.f rfl ⟨_, rfl, _, hcr 1 _ rfl, BIf.eq (fun he => ?_) (fun hne => ?_)⟩
          · simp only [he, if_true] at hr
            exact ⟨by rw [← hr], rfl⟩
          · simp only [hne, if_false] at hr
            rw [w64 (by omega) (by omega)]
            exact hJ _ _ _ ⟨by omega, by omega, hr, rfl⟩ (by omega)
  · rw [show (34 - i).toNat = 0 by omega] at hr
    exact ⟨by rw [← hr]; rfl, rfl⟩
end Go.Proofs.Ytenhcpjlkmbedaa

/- FnExactPick, plain law: waiting comes to its end within as many steps as there are threads. Conditions: none. -/
set_option linter.unusedVariables false
set_option linter.unusedSimpArgs false
namespace Go.Proofs.Ytenhcpjlkmbedaa
open Go Go.Den
theorem nodup_le : ∀ (l s : List Int), l.Nodup → (∀ x, x ∈ l → x ∈ s) → l.length ≤ s.length
  | [], s, _, _ => Nat.zero_le _
  | a :: r, s, hn, hs => by
    have ha := hs a (by simp)
    have hn' := List.nodup_cons.1 hn
    have := nodup_le r (s.erase a) hn'.2 (fun x hx => (List.mem_erase_of_ne (by rintro rfl; exact hn'.1 hx)).2 (hs x (by simp [hx])))
    rw [List.length_erase_of_mem ha] at this
    have := List.length_pos_of_mem ha
    simp; omega
def iter (d : DSched) : Nat → Int → Int
  | 0, a => a
  | n + 1, a => iter d n (nxt d a)
theorem iter_add (d : DSched) : ∀ (m n : Nat) (a : Int), iter d (m + n) a = iter d n (iter d m a)
  | 0, n, a => by rw [Nat.zero_add]; rfl
  | m + 1, n, a => by rw [Nat.succ_add]; exact iter_add d m n (nxt d a)
theorem waitsN_iff (d : DSched) (on : Int) : ∀ (n : Nat) (a : Int), waitsN d on n a = true ↔ ∃ m, m < n ∧ (∀ j, j ≤ m → 0 ≤ iter d j a) ∧ iter d m a = on
  | 0, a => by simp [waitsN]
  | n + 1, a => by
    unfold waitsN
    by_cases h0 : a < 0
    · rw [if_pos h0]
      refine ⟨(fun h => nomatch h), ?_⟩
      rintro ⟨m, _, h, _⟩
      have : 0 ≤ a := h 0 (Nat.zero_le _)
      omega
    · rw [if_neg h0]
      by_cases ho : a = on
      · rw [if_pos ho]
        exact ⟨fun _ => ⟨0, by omega, fun j hj => by rw [Nat.le_zero.1 hj]; show 0 ≤ a; omega, ho⟩, fun _ => rfl⟩
      · rw [if_neg ho, waitsN_iff d on n (nxt d a)]
        constructor
        · rintro ⟨m, h1, h2, h3⟩
          refine ⟨m + 1, by omega, fun j hj => ?_, h3⟩
          cases j with
          | zero => show 0 ≤ a; omega
          | succ j => exact h2 j (by omega)
        · rintro ⟨m, h1, h2, h3⟩
          cases m with
          | zero => exact absurd h3 ho
          | succ m => exact ⟨m, by omega, fun j hj => h2 (j + 1) (by omega), h3⟩
theorem nxt_thr {d : DSched} {a : Int} (h : 0 ≤ nxt d a) : a ∈ d.Threads.map (·.Id) := by
  unfold nxt at h
  rcases hf : thrOf d a with _ | x
  · rw [hf] at h; simp at h
  · obtain ⟨h1, h2⟩ := thrOf_id hf
    exact List.mem_map.2 ⟨x, h2, h1⟩
/-- The least number with a property. -/
theorem least {p : Nat → Prop} : ∀ (n : Nat), p n → ∃ m, p m ∧ m ≤ n ∧ ∀ k, k < m → ¬ p k := by
  intro n
  induction n using Nat.strongRecOn with
  | _ n ih =>
    intro hp
    by_cases h : ∃ k, k < n ∧ p k
    · obtain ⟨k, hk, hpk⟩ := h
      obtain ⟨m, h1, h2, h3⟩ := ih k hk hpk
      exact ⟨m, h1, by omega, h3⟩
    · exact ⟨n, hp, Nat.le_refl _, fun k hk hpk => h ⟨k, hk, hpk⟩⟩
theorem waitsN_short {d : DSched} {on a : Int} {n : Nat} (h : waitsN d on n a = true) : waitsN d on (d.Threads.length + 1) a = true := by
  obtain ⟨m0, _, h2, h3⟩ := (waitsN_iff d on n a).1 h
  obtain ⟨m, hm, hle, hmin⟩ := least (p := fun m => iter d m a = on) m0 h3
  have hpos : ∀ j, j ≤ m → 0 ≤ iter d j a := fun j hj => h2 j (by omega)
  refine (waitsN_iff d on _ a).2 ⟨m, ?_, hpos, hm⟩
  have hnd : ((List.range m).map (fun j => iter d j a)).Nodup := by
    rw [List.nodup_iff_pairwise_ne, List.pairwise_map]
    refine List.Pairwise.imp_of_mem ?_ List.pairwise_lt_range
    intro i j hi hj hij he
    have hi' := List.mem_range.1 hi
    have hj' := List.mem_range.1 hj
    refine hmin (i + (m - j)) (by omega) ?_
    rw [iter_add, he, ← iter_add, show j + (m - j) = m by omega, hm]
  have := nodup_le _ (d.Threads.map (·.Id)) hnd (fun x hx => by
    obtain ⟨j, hj, rfl⟩ := List.mem_map.1 hx
    have hj' := List.mem_range.1 hj
    refine nxt_thr ?_
    have := hpos (j + 1) (by omega)
    rw [iter_add] at this
    exact this)
  simp at this
  omega
theorem waitsN_mono {d : DSched} {on a : Int} {n k : Nat} (hk : n ≤ k) (h : waitsN d on n a = true) : waitsN d on k a = true := by
  obtain ⟨m, h1, h2⟩ := (waitsN_iff d on n a).1 h
  exact (waitsN_iff d on k a).2 ⟨m, by omega, h2⟩
/-- Every lock's owner is a thread. -/
def Owned (d : DSched) : Prop := ∀ y, y ∈ d.Locks → 0 ≤ y.Owner
theorem stepI_nxt {d : DSched} (ho : Owned d) (a : Int) : (stepI d a = none ∧ nxt d a = -1) ∨ ∃ o, stepI d a = some o ∧ nxt d a = o ∧ 0 ≤ o := by
  unfold stepI nxt
  rcases hf : thrOf d a with _ | x
  · exact .inl ⟨rfl, rfl⟩
  · simp only
    by_cases hs : x.State = 2
    · rw [if_pos hs, if_pos hs]
      rcases hl : lckOf d x.Wait with _ | y
      · exact .inl ⟨rfl, rfl⟩
      · exact .inr ⟨_, rfl, rfl, ho y (List.mem_of_find?_eq_some hl)⟩
    · rw [if_neg hs, if_neg hs]; exact .inl ⟨rfl, rfl⟩
theorem waitsI_N {d : DSched} (ho : Owned d) (on : Int) : ∀ (n : Nat) (a : Int), waitsI d on n a = waitsN d on n (nxt d a)
  | 0, a => rfl
  | n + 1, a => by
    unfold waitsI waitsN
    rcases stepI_nxt ho a with ⟨h1, h2⟩ | ⟨o, h1, h2, h3⟩
    · rw [h1, h2]; rfl
    · rw [h1, h2, if_neg (by omega)]
      simp only
      rw [waitsI_N ho on n o]
theorem waits_same {d : DSched} (ho : Owned d) (hl : d.Threads.length ≤ 32) (a on : Int) : waitsI d on 34 a = waits d a on := by
  rw [waitsI_N ho]
  unfold waits
  apply Bool.eq_iff_iff.2
  exact ⟨waitsN_short, waitsN_mono (by omega)⟩
end Go.Proofs.Ytenhcpjlkmbedaa

/- FnExactPick: when a state can be, on the program's side. Conditions: none. -/
set_option linter.unusedVariables false
set_option linter.unusedSimpArgs false
namespace Go.Proofs.Ytenhcpjlkmbedaa
open Go Go.Den
def ThrP (d : DSched) (i : Nat) (x : DThread) : Prop := (∀ z, 0 < i → d.Threads[i - 1]? = some z → z.Id < x.Id) ∧ thrOk d x = true ∧ LineOk d i x
def badI (d : DSched) (last : Int) (ks : List Int) (x : DThread) : Bool := ((((((((((decide (x.Id ≤ last) || decide (x.Id ≥ 32)) || decide (x.Base < 0)) || decide (x.Base > 7)) || decide (x.Line < 1)) || decide (x.Line > d.Seq)) || decide (x.Line ∈ ks)) || decide (x.Left < 1)) || decide (x.Left > 4)) || decide (x.Since < 0)) || decide (x.Since > d.Now))
def LastAt (d : DSched) (i : Nat) (last : Int) : Prop := (i = 0 ∧ last = -1) ∨ ∃ z, 0 < i ∧ d.Threads[i - 1]? = some z ∧ last = z.Id ∧ 0 ≤ z.Id
def LinesAt (d : DSched) (i : Nat) (ks : List Int) : Prop := ∀ n, n ∈ ks ↔ ∃ j z, j < i ∧ d.Threads[j]? = some z ∧ z.Line = n
theorem badI_iff {d : DSched} {i : Nat} {last : Int} {ks : List Int} {x : DThread} (hl : LastAt d i last) (hk : LinesAt d i ks) : badI d last ks x = false ↔ (∀ z, 0 < i → d.Threads[i - 1]? = some z → z.Id < x.Id) ∧ thrBad d x = false ∧ LineOk d i x := by
  unfold badI thrBad
  simp only [Bool.or_eq_false_iff, decide_eq_false_iff_not]
  constructor
  · rintro ⟨⟨⟨⟨⟨⟨⟨⟨⟨⟨h1, h2⟩, h3⟩, h4⟩, h5⟩, h6⟩, h7⟩, h8⟩, h9⟩, h10⟩, h11⟩
    refine ⟨fun z hi hz => ?_, ⟨⟨⟨⟨⟨⟨⟨⟨⟨?_, h2⟩, h3⟩, h4⟩, h5⟩, h6⟩, h8⟩, h9⟩, h10⟩, h11⟩, fun j z hj hz he => h7 ((hk _).2 ⟨j, z, hj, hz, he⟩)⟩
    · rcases hl with ⟨h, _⟩ | ⟨y, _, hy, he, _⟩
      · omega
      · rw [hy] at hz; cases hz; omega
    · rcases hl with ⟨_, h⟩ | ⟨y, _, hy, he, h0⟩ <;> omega
  · rintro ⟨ha, ⟨⟨⟨⟨⟨⟨⟨⟨⟨h1, h2⟩, h3⟩, h4⟩, h5⟩, h6⟩, h8⟩, h9⟩, h10⟩, h11⟩, hb⟩
    refine ⟨⟨⟨⟨⟨⟨⟨⟨⟨⟨?_, h2⟩, h3⟩, h4⟩, h5⟩, h6⟩, fun hm => ?_⟩, h8⟩, h9⟩, h10⟩, h11⟩
    · rcases hl with ⟨_, h⟩ | ⟨y, hi, hy, he, h0⟩
      · omega
      · have := ha y hi hy; omega
    · obtain ⟨j, z, hj, hz, he⟩ := (hk _).1 hm
      exact hb j z hj hz he
theorem join_or_get {c : Bool} {w : World} {q : Nat} {ks : List Int} {p : Addr} {n : Int} {k : Bool → World → Prop} (hn : w.cell? p = some (.int .i64 n)) (hq : SetAt w q ks) (h : k (c || decide (n ∈ ks)) w) :
    JoinW [.bool] (fun J => BIf c (J true w) (∃ n : Int, w.cell? p = some (.int .i64 n) ∧ MapGetW w (some q) (.int .i64 n) fun o => ∃ b : Bool, valOr o (.bool false) = (.bool b : Value) ∧ J b w)) k := by
  refine ⟨k, fun _ _ h => h, ?_⟩
  cases c
  · exact ⟨n, hn, hq.get n (fun o ho => ⟨_, ho, h⟩)⟩
  · exact h
end Go.Proofs.Ytenhcpjlkmbedaa

/- FnExactPick: the threads of a state that can be, on the program's side. Conditions: none. -/
set_option linter.unusedVariables false
set_option linter.unusedSimpArgs false
namespace Go.Proofs.Ytenhcpjlkmbedaa
open Go Go.Den
theorem pat_of {w : World} {b : Nat} {n q : Int} {t l : Sl} (hb : Blk w b (sCells n q t l)) : PAt w ⟨b, 0, none⟩ n q t l := fun j v hj => by rw [add_mk, hb.cell, Nat.zero_add]; exact hj
theorem ptr_isNone {w : World} {t l : Sl} {d : DSched} (h : SAt w t l d) (id : Int) : Option.isNone (ptrAt t.a 8 (idT d id)) = decide (idT d id < 0) := by
  rcases idT_find d id with ⟨hi, hf⟩ | ⟨k, x, hi, hx, hf⟩
  · rw [hi]; rfl
  · obtain ⟨p, hp, _⟩ := h.thr hx
    rw [hi, ptr_some hp, decide_eq_false (by omega)]; rfl
theorem ptr_isNoneL {w : World} {t l : Sl} {d : DSched} (h : SAt w t l d) (id : Int) : Option.isNone (ptrAt l.a 2 (idL d id)) = decide (idL d id < 0) := by
  rcases idL_find d id with ⟨hi, hf⟩ | ⟨k, x, hi, hx, hf⟩
  · rw [hi]; rfl
  · obtain ⟨p, hp, _⟩ := h.lck hx
    rw [hi, ptr_some hp, decide_eq_false (by omega)]; rfl
/-- A thread's state, in itself. -/
def stOk (d : DSched) (x : DThread) : Bool := if x.State = 1 then (x.Wait == -1 && x.Until == 0) else if x.State = 2 then (decide (idL d x.Wait ≥ 0) && x.Until == 0) else (x.State == 3 && x.Wait == -1 && decide (x.Until > 0))
theorem thrOk_iff (d : DSched) (x : DThread) : thrOk d x = true ↔ thrBad d x = false ∧ stOk d x = true := by
  unfold thrOk stOk
  cases hb : thrBad d x
  · simp
  · simp
theorem last_next {d : DSched} {k : Nat} {x : DThread} (hx : d.Threads[k]? = some x) (h : thrBad d x = false) : LastAt d (k + 1) x.Id := by
  refine .inr ⟨x, by omega, by simpa using hx, rfl, ?_⟩
  unfold thrBad at h
  simp only [Bool.or_eq_false_iff, decide_eq_false_iff_not] at h
  omega
theorem lines_next {d : DSched} {k : Nat} {x : DThread} {ks : List Int} (hx : d.Threads[k]? = some x) (h : LinesAt d k ks) : LinesAt d (k + 1) (ks ++ [x.Line]) := by
  intro n
  rw [List.mem_append, h n]
  constructor
  · rintro (⟨j, z, h1, h2⟩ | h1)
    · exact ⟨j, z, by omega, h2⟩
    · exact ⟨k, x, by omega, hx, (List.mem_singleton.1 h1).symm⟩
  · rintro ⟨j, z, h1, h2, h3⟩
    by_cases hj : j = k
    · subst hj; rw [hx] at h2; cases h2; exact .inr (by simp [h3])
    · exact .inl ⟨j, z, by omega, h2, h3⟩
theorem thrP_of {d : DSched} {k : Nat} {x : DThread} {last : Int} {ks : List Int} (hl : LastAt d k last) (hk : LinesAt d k ks) : ThrP d k x ↔ badI d last ks x = false ∧ stOk d x = true := by
  rw [badI_iff hl hk]
  unfold ThrP
  rw [thrOk_iff]
  constructor
  · rintro ⟨h1, ⟨h2, h3⟩, h4⟩; exact ⟨⟨h1, h2, h4⟩, h3⟩
  · rintro ⟨⟨h1, h2, h4⟩, h3⟩; exact ⟨h1, ⟨h2, h3⟩, h4⟩
theorem bad_thr {d : DSched} {k : Nat} {x : DThread} {last : Int} {ks : List Int} (hl : LastAt d k last) (hk : LinesAt d k ks) (h : badI d last ks x = false) : thrBad d x = false ∧ x.Line ∉ ks := by
  refine ⟨((badI_iff hl hk).1 h).2.1, ?_⟩
  unfold badI at h
  simp only [Bool.or_eq_false_iff, decide_eq_false_iff_not] at h
  exact h.1.1.1.1.2
theorem SOk.thrP {d : DSched} (h : SOk d) {k : Nat} {x : DThread} (hx : d.Threads[k]? = some x) : ThrP d k x := by
  have := h.thr k x hx
  exact ⟨this.1.1, this.1.2.1, this.2⟩
/-- All parts together. -/
theorem sok_of {d : DSched} (hh : headBad d = false) (ht : ∀ k x, d.Threads[k]? = some x → ThrP d k x) (hl : ∀ k y, d.Locks[k]? = some y → LckOk d k y) (hw : ∀ x, x ∈ d.Threads → waitsI d x.Id 34 x.Id = false) : SOk d := by
  have howned : Owned d := by
    intro y hy
    obtain ⟨k, hk, he⟩ := List.getElem_of_mem hy
    have hyk : d.Locks[k]? = some y := by rw [List.getElem?_eq_getElem hk, he]
    have h0 := (hl k y hyk).2.2.2
    rcases idT_find d y.Owner with ⟨hi, _⟩ | ⟨i, x, hi, hx, hf⟩
    · omega
    · have hid := (thrOf_id hf).1
      have := (thrOk_iff d x).1 (ht i x hx).2.1
      have := this.1
      unfold thrBad at this
      simp only [Bool.or_eq_false_iff, decide_eq_false_iff_not] at this
      omega
  have hlen : d.Threads.length ≤ 32 := by
    unfold headBad at hh
    simp only [Bool.or_eq_false_iff, decide_eq_false_iff_not] at hh
    omega
  refine ⟨hh, hl, fun k x hx => ⟨⟨(ht k x hx).1, (ht k x hx).2.1, ?_⟩, (ht k x hx).2.2⟩⟩
  rw [← waits_same howned hlen]
  exact hw x (List.mem_of_getElem? hx)
theorem SOk.owned {d : DSched} (h : SOk d) : Owned d := by
  intro y hy
  obtain ⟨k, hk, he⟩ := List.getElem_of_mem hy
  have hyk : d.Locks[k]? = some y := by rw [List.getElem?_eq_getElem hk, he]
  have h0 := (h.lck k y hyk).2.2.2
  rcases idT_find d y.Owner with ⟨hi, _⟩ | ⟨i, x, hi, hx, hf⟩
  · omega
  · have hid := (thrOf_id hf).1
    have := ((thrOk_iff d x).1 (h.thr i x hx).1.2.1).1
    unfold thrBad at this
    simp only [Bool.or_eq_false_iff, decide_eq_false_iff_not] at this
    omega
theorem SOk.waitsI {d : DSched} (h : SOk d) {x : DThread} (hx : x ∈ d.Threads) : waitsI d x.Id 34 x.Id = false := by
  obtain ⟨k, hk, he⟩ := List.getElem_of_mem hx
  rw [waits_same h.owned h.now.2.2.2.2.1]
  exact (h.thr k x (by rw [List.getElem?_eq_getElem hk, he])).1.2.2
end Go.Proofs.Ytenhcpjlkmbedaa

/- FnExactPick: when a state can be, on the program's side: the walk. Conditions: none. -/
set_option linter.unusedVariables false
set_option linter.unusedSimpArgs false
namespace Go.Proofs.Ytenhcpjlkmbedaa
open Go Go.Den
def LLast (d : DSched) (i : Nat) (last : Int) : Prop := (i = 0 ∧ last = -1) ∨ ∃ z, 0 < i ∧ d.Locks[i - 1]? = some z ∧ last = z.Id ∧ 0 ≤ z.Id
theorem head_same (d : DSched) : ((((decide (d.Now < 0) || decide (d.Now > 1099511627776)) || decide (d.Seq < 0)) || decide (d.Seq > 1099511627776)) || decide ((d.Threads.length : Int) > 32) || decide ((d.Locks.length : Int) > 16)) = headBad d := by
  apply Bool.eq_iff_iff.2
  unfold headBad cnt
  simp only [Bool.or_eq_true, Bool.not_eq_true', Bool.and_eq_false_iff, decide_eq_true_eq, decide_eq_false_iff_not]
  omega
theorem c52 {t l : Sl} {d : DSched} {w : World} (h : SAt w t l d) : CallW Try.prog 52 #[sAgg d.Now d.Seq t l] w (KOk d w) := by
  refine go52 ?_
  unfold W52
  refine LetW_iff.2 ?_
  have hb : Blk (w.alloc (.cells #[.int .i64 d.Now, .int .i64 d.Seq, .slice t.a t.len t.cap, .slice l.a l.len l.cap] 31)) w.heap.size (sCells d.Now d.Seq t l) := blk_alloc w _ _
  have e0 := ext_alloc w (.cells #[.int .i64 d.Now, .int .i64 d.Seq, .slice t.a t.len t.cap, .slice l.a l.len l.cap] 31)
  generalize w.alloc (.cells #[.int .i64 d.Now, .int .i64 d.Seq, .slice t.a t.len t.cap, .slice l.a l.len l.cap] 31) = w1 at *
  have h1 := h.ext e0
  have htl := h.tl
  have hll := h.ll
  have hfew := h.few
  have hbl := hb.lt
  refine ⟨_, hb.cell 0, ?_⟩
  refine join_or_ex _ (hb.cell 0) ?_
  refine join_or_ex _ (hb.cell 1) ?_
  refine join_or_ex _ (hb.cell 1) ?_
  refine join_or_ex t (hb.cell 2) ?_
  refine join_or_ex l (hb.cell 3) ?_
  rw [htl, hll, head_same]
  refine BIf.of (fun hbad => ⟨false, rfl, ⟨(fun h => nomatch h), fun h => by rw [h.head] at hbad; cases hbad⟩, e0⟩) (fun hgood => LetW_iff.2 ?_)
  have hq0 := setAt_new w1
  have eq0 := ext_alloc w1 (.map #[] 0)
  have hq1 : w1.heap.size < (w1.alloc (.map #[] 0)).heap.size := by rw [size_alloc]; omega
  generalize w1.alloc (.map #[] 0) = wm at *
  refine ⟨t, (hb.ext eq0).cell 2, ?_⟩
  refine LoopW.m2 (fun (last i : Int) w' => 0 ≤ i ∧ i ≤ t.len ∧ Ext w1 w' ∧ w1.heap.size < w'.heap.size ∧ (∀ (j : Nat) x, (j : Int) < i → d.Threads[j]? = some x → ThrP d j x) ∧ LastAt d i.toNat last ∧ ∃ ks, LinesAt d i.toNat ks ∧ SetAt w' w1.heap.size ks) (fun _ (i : Int) _ => (t.len - i).toNat)
    ⟨by omega, by omega, eq0, hq1, fun j y hj => by omega, .inl ⟨rfl, rfl⟩, [], fun n => ⟨fun h => (by cases h), fun ⟨j, _, hj, _⟩ => absurd hj (Nat.not_lt_zero _)⟩, hq0⟩ ?_
  rintro (last : Int) (i : Int) w2 ⟨hi0, hi1, e2, hsz2, hall, hlast, ks, hks, hset⟩ J hJ
  obtain ⟨k, rfl⟩ := Int.eq_ofNat_of_zero_le hi0
  have hb2 := hb.ext e2
  have h2 := h1.ext e2
  rw [Int.toNat_natCast] at *
  refine BIf.dec (fun hlt => ?_) (fun hge => ?_)
  · have hk : k < d.Threads.length := by omega
    have hget : d.Threads[k]? = some d.Threads[k] := List.getElem?_eq_getElem hk
    obtain ⟨p, hp, hc⟩ := h2.thr hget
    generalize d.Threads[k] = x at *
    refine ⟨hi0, hlt, p, hp, _, hc 0 _ rfl, _, hc 1 _ rfl, _, hc 2 _ rfl, _, hc 3 _ rfl, _, hc 4 _ rfl, _, hc 5 _ rfl, _, hc 6 _ rfl, _, hc 7 _ rfl, LetW_iff.2 ?_⟩
    have hz : Blk (w2.alloc (.cells #[.int .i64 0, .int .i64 0, .int .i64 0, .int .i64 0, .int .i64 0, .int .i64 0, .int .i64 0, .int .i64 0] 86)) w2.heap.size _ := blk_alloc w2 _ _
    have ez := ext_alloc w2 (.cells #[.int .i64 0, .int .i64 0, .int .i64 0, .int .i64 0, .int .i64 0, .int .i64 0, .int .i64 0, .int .i64 0] 86)
    refine thr_put hz rfl x (fun w3 o3 hx => ?_)
    have e23 : Ext w2 w3 := Ext.own ez o3 (by rintro k rfl; exact Nat.le_refl _)
    have e3 := Only.trans e2 e23
    have hb3 := hb.ext e3
    have hset3 := hset.ext e23
    refine ⟨_, hx.cell 0, ?_⟩
    refine join_or_ex _ (hx.cell 0) ?_
    refine join_or_ex _ (hx.cell 1) ?_
    refine join_or_ex _ (hx.cell 1) ?_
    refine join_or_ex _ (hx.cell 3) ?_
    refine join_or_ex2 _ _ (hx.cell 3) (hb3.cell 1) ?_
    refine join_or_get (hx.cell 3) hset3 ?_
    refine join_or_ex _ (hx.cell 4) ?_
    refine join_or_ex _ (hx.cell 4) ?_
    refine join_or_ex _ (hx.cell 5) ?_
    refine join_or_ex2 _ _ (hx.cell 5) (hb3.cell 0) ?_
    have no : ∀ w', Ext w1 w' → ¬ ThrP d k x → KOk d w (.bool false) w' := fun w' e' hn => ⟨false, rfl, ⟨(fun h => nomatch h), fun h => absurd (h.thrP hget) hn⟩, Only.trans e0 e'⟩
    refine BIf.of (fun hbad => no _ e3 (fun hp => ?_)) (fun hok => ?_)
    · have := ((thrP_of hlast hks).1 hp).1
      rw [show badI d last ks x = true from hbad] at this; cases this
    · have hok : badI d last ks x = false := hok
      obtain ⟨hbt, hfresh⟩ := bad_thr hlast hks hok
      refine ⟨_, hx.cell 0, _, hx.cell 3, hset3.put hfresh (fun w4 hset4 o4 => ?_)⟩
      have e4 : Ext w1 w4 := Ext.own e3 o4 (by rintro k rfl; exact Nat.le_refl _)
      have hx4 := hx.only o4 (by omega)
      have hb4 := hb.ext e4
      have h4 := h1.ext e4
      have hsz4 : w1.heap.size < w4.heap.size := hset4.lt
      have done : ∀ (bad : Bool), bad = !stOk d x → ∀ w', w' = w4 → BIf bad (KOk d w (.bool false) w') (J x.Id (IntKind.wrap .i64 ((k : Int) + 1)) w') := by
        rintro bad hbad w' rfl
        refine BIf.of (fun hb1 => no _ e4 (fun hp => ?_)) (fun hb1 => ?_)
        · rw [((thrP_of hlast hks).1 hp).2] at hbad; rw [hbad] at hb1; cases hb1
        · have hst : stOk d x = true := by rw [hb1] at hbad; simpa using hbad.symm
          rw [w64 (by omega) (by omega)]
          refine hJ _ _ _ ⟨by omega, by omega, e4, hsz4, fun j z hj hz => ?_, ?_, ks ++ [x.Line], ?_, hset4⟩ (by omega)
          · by_cases hjk : j = k
            · subst hjk; rw [hget] at hz; cases hz; exact (thrP_of hlast hks).2 ⟨hok, hst⟩
            · exact hall j z (by omega) hz
          · exact last_next hget hbt
          · exact lines_next hget hks
      have hst0 : stOk d x = if x.State = 1 then (x.Wait == -1 && x.Until == 0) else if x.State = 2 then (decide (idL d x.Wait ≥ 0) && x.Until == 0) else (x.State == 3 && x.Wait == -1 && decide (x.Until > 0)) := rfl
      refine ⟨_, hx4.cell 2, BIf.eq (fun hs => ?_) (fun hs => BIf.eq (fun hs2 => ?_) (fun hs2 => BIf.eq (fun hs3 => ?_) (fun hs3 => ?_)))⟩
      · rw [if_pos hs] at hst0
        refine ⟨_, hx4.cell 7, join_or_ex _ (hx4.cell 6) (done _ ?_ _ rfl)⟩
        rw [hst0]; simp [bne]
      · rw [if_neg hs, if_pos hs2] at hst0
        refine ⟨_, hx4.cell 6, JoinW.cut1 (fun (b : Bool) w' => b = (!stOk d x) ∧ w' = w4) ?_ ?_⟩
        · refine BIf.of (fun hu => ⟨?_, rfl⟩) (fun hu => ⟨_, hx4.cell 7, (c114 (pat_of hb4) h4).mono ?_⟩)
          · rw [hst0]; simp [bne] at hu; simp [hu]
          · rintro _ w5 ⟨rfl, rfl⟩
            refine ⟨_, rfl, ?_, rfl⟩
            rw [ptr_isNoneL h4, hst0]
            have hu : x.Until = 0 := by simpa [bne] using hu
            by_cases hl0 : idL d x.Wait < 0
            · rw [decide_eq_true hl0, decide_eq_false (by omega)]; rfl
            · rw [decide_eq_false hl0, decide_eq_true (by omega), hu]; rfl
        · rintro (b : Bool) w5 ⟨hbb, rfl⟩
          exact done _ hbb _ rfl
      · rw [if_neg hs, if_neg hs2] at hst0
        refine ⟨_, hx4.cell 7, join_or_ex _ (hx4.cell 6) (done _ ?_ _ rfl)⟩
        rw [hst0, hs3]
        apply Bool.eq_iff_iff.2
        simp [bne]
      · rw [if_neg hs, if_neg hs2] at hst0
        refine no _ e4 (fun hp => ?_)
        have := ((thrP_of hlast hks).1 hp).2
        rw [hst0] at this
        simp [hs3] at this
  · have hthr : ∀ j x, d.Threads[j]? = some x → ThrP d j x := fun j x hx => hall j x (by have := (List.getElem?_eq_some_iff.1 hx).1; omega) hx
    clear hJ J
    refine ⟨l, hb2.cell 3, ?_⟩
    refine LoopW.m2 (fun (last i : Int) w' => 0 ≤ i ∧ i ≤ l.len ∧ Ext w1 w' ∧ (∀ (j : Nat) y, (j : Int) < i → d.Locks[j]? = some y → LckOk d j y) ∧ LLast d i.toNat last) (fun _ (i : Int) _ => (l.len - i).toNat)
      ⟨by omega, by omega, e2, fun j y hj => by omega, .inl ⟨rfl, rfl⟩⟩ ?_
    clear hlast hall hks hset hi0 hi1 hge
    rintro (last : Int) (i : Int) w3 ⟨hi0, hi1, e3, hall, hlast⟩ J hJ
    obtain ⟨k, rfl⟩ := Int.eq_ofNat_of_zero_le hi0
    have hb3 := hb.ext e3
    have h3 := h1.ext e3
    rw [Int.toNat_natCast] at *
    refine BIf.dec (fun hlt => ?_) (fun hge => ?_)
    · have hk : k < d.Locks.length := by omega
      have hget : d.Locks[k]? = some d.Locks[k] := List.getElem?_eq_getElem hk
      obtain ⟨p, hp, hc⟩ := h3.lck hget
      generalize d.Locks[k] = y at *
      refine ⟨hi0, hlt, p, hp, _, hc 0 _ rfl, _, hc 1 _ rfl, LetW_iff.2 ?_⟩
      have hz : Blk (w3.alloc (.cells #[.int .i64 0, .int .i64 0] 149)) w3.heap.size _ := blk_alloc w3 _ _
      have ez := ext_alloc w3 (.cells #[.int .i64 0, .int .i64 0] 149)
      refine lck_put hz rfl y (fun w4 o4 hy => ?_)
      have e4 := Only.trans e3 (Ext.own ez o4 (by rintro k rfl; exact Nat.le_refl _))
      have hb4 := hb.ext e4
      have h4 := h1.ext e4
      refine ⟨_, hy.cell 0, ?_⟩
      refine join_or_ex _ (hy.cell 0) ?_
      refine JoinW.cut1 (fun (b : Bool) w' => b = ((decide (y.Id ≤ last) || decide (y.Id ≥ 16)) || decide (idT d y.Owner < 0)) ∧ w' = w4) ?_ ?_
      · refine BIf.of (fun hu => ⟨?_, rfl⟩) (fun hu => ⟨_, hy.cell 1, (c115 (pat_of hb4) h4).mono ?_⟩)
        · rw [hu]; rfl
        · rintro _ w5 ⟨rfl, rfl⟩
          refine ⟨_, rfl, ?_, rfl⟩
          rw [ptr_isNone h4, hu]; rfl
      · rintro (b : Bool) w5 ⟨hbb, rfl⟩
        have hiff : b = false ↔ LckOk d k y := by
          rw [hbb]
          simp only [Bool.or_eq_false_iff, decide_eq_false_iff_not]
          unfold LckOk
          constructor
          · rintro ⟨⟨h1, h2⟩, h3⟩
            refine ⟨?_, by omega, fun z hz1 hz => ?_, by omega⟩
            · rcases hlast with ⟨_, he⟩ | ⟨z, _, _, he, h0⟩ <;> omega
            · rcases hlast with ⟨h0, _⟩ | ⟨z', _, hz', he, _⟩
              · omega
              · rw [hz'] at hz; cases hz; omega
          · rintro ⟨h1, h2, h3, h4⟩
            refine ⟨⟨?_, by omega⟩, by omega⟩
            rcases hlast with ⟨_, he⟩ | ⟨z, hk0, hz, he, h0⟩
            · omega
            · have := h3 z hk0 hz; omega
        refine BIf.of (fun hbt => ⟨false, rfl, ⟨(fun h => nomatch h), fun h => ?_⟩, Only.trans e0 e4⟩) (fun hbf => ⟨_, hy.cell 0, ?_⟩)
        · rw [hiff.2 (h.lck k y hget)] at hbt; cases hbt
        · have hok := hiff.1 hbf
          rw [w64 (by omega) (by omega)]
          refine hJ _ _ _ ⟨by omega, by omega, e4, fun j z hj hz => ?_, .inr ⟨y, Nat.succ_pos k, by show d.Locks[k + 1 - 1]? = _; simpa using hget, rfl, hok.1⟩⟩ (by omega)
          by_cases hjk : j = k
          · subst hjk; rw [hget] at hz; cases hz; exact hok
          · exact hall j z (by omega) hz
    · have hlck : ∀ j y, d.Locks[j]? = some y → LckOk d j y := fun j y hy => hall j y (by have := (List.getElem?_eq_some_iff.1 hy).1; omega) hy
      clear hJ J hall hlast hi0 hi1 hge
      refine ⟨t, hb3.cell 2, ?_⟩
      refine LoopW.m1 (fun (i : Int) w' => 0 ≤ i ∧ i ≤ t.len ∧ Ext w1 w' ∧ ∀ (j : Nat) x, (j : Int) < i → d.Threads[j]? = some x → waitsI d x.Id 34 x.Id = false) (fun (i : Int) _ => (t.len - i).toNat) ⟨by omega, by omega, e3, fun j y hj => by omega⟩ ?_
      rintro (i : Int) w4 ⟨hi0, hi1, e4, hall⟩ J hJ
      obtain ⟨m, rfl⟩ := Int.eq_ofNat_of_zero_le hi0
      have h4 := h1.ext e4
      rw [Int.toNat_natCast] at *
      refine BIf.dec (fun hlt => ?_) (fun hge => ?_)
      · have hk : m < d.Threads.length := by omega
        have hget : d.Threads[m]? = some d.Threads[m] := List.getElem?_eq_getElem hk
        obtain ⟨p, hp, hc⟩ := h4.thr hget
        generalize d.Threads[m] = x at *
        refine ⟨hi0, hlt, p, hp, _, hc 0 _ rfl, _, hc 1 _ rfl, _, hc 2 _ rfl, _, hc 3 _ rfl, _, hc 4 _ rfl, _, hc 5 _ rfl, _, hc 6 _ rfl, _, hc 7 _ rfl, LetW_iff.2 ?_⟩
        have hz : Blk (w4.alloc (.cells #[.int .i64 0, .int .i64 0, .int .i64 0, .int .i64 0, .int .i64 0, .int .i64 0, .int .i64 0, .int .i64 0] 86)) w4.heap.size _ := blk_alloc w4 _ _
        have ez := ext_alloc w4 (.cells #[.int .i64 0, .int .i64 0, .int .i64 0, .int .i64 0, .int .i64 0, .int .i64 0, .int .i64 0, .int .i64 0] 86)
        refine thr_put hz rfl x (fun w5 o5 hx => ?_)
        have e5 := Only.trans e4 (Ext.own ez o5 (by rintro k rfl; exact Nat.le_refl _))
        refine ⟨_, hx.cell 0, _, hx.cell 0, (c116 (pat_of (hb.ext e5)) (h1.ext e5)).mono ?_⟩
        rintro _ w5 ⟨rfl, rfl⟩
        refine ⟨_, rfl, BIf.of (fun hw => ⟨false, rfl, ⟨(fun h => nomatch h), fun h => ?_⟩, Only.trans e0 e5⟩) (fun hw => ?_)⟩
        · rw [h.waitsI (List.mem_of_getElem? hget)] at hw; cases hw
        · rw [w64 (by omega) (by omega)]
          refine hJ _ _ ⟨by omega, by omega, e5, fun j z hj hz => ?_⟩ (by omega)
          by_cases hjk : j = m
          · subst hjk; rw [hget] at hz; cases hz; exact hw
          · exact hall j z (by omega) hz
      · refine ⟨true, rfl, ⟨fun _ => sok_of hgood hthr hlck (fun x hx => ?_), fun _ => rfl⟩, Only.trans e0 e4⟩
        obtain ⟨j, hj, he⟩ := List.getElem_of_mem hx
        exact hall j x (by omega) (by rw [List.getElem?_eq_getElem hj, he])
end Go.Proofs.Ytenhcpjlkmbedaa

/- FnExactPick, plain law: a priority is the greatest of one's own and of those that wait. Conditions: none. -/
set_option linter.unusedVariables false
set_option linter.unusedSimpArgs false
namespace Go.Proofs.Ytenhcpjlkmbedaa
open Go Go.Den
theorem prioL_char (d : DSched) (id : Int) : ∀ (l : List DThread) (p : Int), p ≤ prioL d id l p ∧ (∀ y, y ∈ l → waits d y.Id id = true → own d y ≤ prioL d id l p) ∧ (prioL d id l p = p ∨ ∃ y, y ∈ l ∧ waits d y.Id id = true ∧ prioL d id l p = own d y)
  | [], p => ⟨Int.le_refl _, (fun y hy => by cases hy), .inl rfl⟩
  | x :: r, p => by
    unfold prioL
    by_cases hw : waits d x.Id id = true
    · rw [if_pos hw]
      by_cases hg : own d x > p
      · rw [if_pos hg]
        obtain ⟨h1, h2, h3⟩ := prioL_char d id r (own d x)
        refine ⟨by omega, fun y hy hwy => ?_, ?_⟩
        · cases hy with
          | head => exact h1
          | tail _ hy => exact h2 y hy hwy
        · rcases h3 with h3 | ⟨y, hy, h4, h5⟩
          · exact .inr ⟨x, by simp, hw, h3⟩
          · exact .inr ⟨y, by simp [hy], h4, h5⟩
      · rw [if_neg hg]
        obtain ⟨h1, h2, h3⟩ := prioL_char d id r p
        refine ⟨h1, fun y hy hwy => ?_, ?_⟩
        · cases hy with
          | head => omega
          | tail _ hy => exact h2 y hy hwy
        · rcases h3 with h3 | ⟨y, hy, h4, h5⟩
          · exact .inl h3
          · exact .inr ⟨y, by simp [hy], h4, h5⟩
    · rw [if_neg hw]
      obtain ⟨h1, h2, h3⟩ := prioL_char d id r p
      refine ⟨h1, fun y hy hwy => ?_, ?_⟩
      · cases hy with
        | head => exact absurd hwy hw
        | tail _ hy => exact h2 y hy hwy
      · rcases h3 with h3 | ⟨y, hy, h4, h5⟩
        · exact .inl h3
        · exact .inr ⟨y, by simp [hy], h4, h5⟩
/-- Waiting, in steps. -/
theorem waits_iff (d : DSched) (a on : Int) : waits d a on = true ↔ ∃ m, (∀ j, j ≤ m → 0 ≤ iter d (j + 1) a) ∧ iter d (m + 1) a = on := by
  unfold waits
  constructor
  · intro h
    obtain ⟨m, _, h2, h3⟩ := (waitsN_iff d on _ _).1 h
    exact ⟨m, h2, h3⟩
  · rintro ⟨m, h2, h3⟩
    exact waitsN_short ((waitsN_iff d on (m + 1) _).2 ⟨m, by omega, h2, h3⟩)
theorem waits_last {d : DSched} {a on : Int} : waits d a on = true ↔ (0 ≤ on ∧ nxt d a = on) ∨ ∃ b, waits d a b = true ∧ 0 ≤ on ∧ nxt d b = on := by
  rw [waits_iff]
  constructor
  · rintro ⟨m, h1, h2⟩
    cases m with
    | zero => exact .inl ⟨h2 ▸ h1 0 (Nat.le_refl _), h2⟩
    | succ m =>
      refine .inr ⟨iter d (m + 1) a, (waits_iff d a _).2 ⟨m, fun j hj => h1 j (by omega), rfl⟩, h2 ▸ h1 (m + 1) (Nat.le_refl _), ?_⟩
      rw [iter_add d (m + 1) 1 a] at h2
      exact h2
  · rintro (⟨h0, h1⟩ | ⟨b, hb, h0, h1⟩)
    · exact ⟨0, fun j hj => by rw [Nat.le_zero.1 hj]; show 0 ≤ nxt d a; omega, h1⟩
    · obtain ⟨m, h2, h3⟩ := (waits_iff d a b).1 hb
      have he : iter d (m + 1 + 1) a = on := by rw [iter_add d (m + 1) 1 a, h3]; exact h1
      refine ⟨m + 1, fun j hj => ?_, he⟩
      by_cases hjm : j ≤ m
      · exact h2 j hjm
      · rw [show j = m + 1 by omega, he]; exact h0
/-- The greatest of one's own and of those that wait for oneself at once. -/
theorem prio_fold {d : DSched} {x : DThread} {r : Int} (h0 : 0 ≤ x.Id) (hA : own d x ≤ r) (hB : ∀ w, w ∈ d.Threads → nxt d w.Id = x.Id → prio d w ≤ r)
    (hC : r = own d x ∨ ∃ w, w ∈ d.Threads ∧ nxt d w.Id = x.Id ∧ r = prio d w) : r = prio d x := by
  obtain ⟨p1, p2, p3⟩ := prioL_char d x.Id d.Threads (own d x)
  have hle : r ≤ prio d x := by
    rcases hC with hC | ⟨w, hw, hn, hC⟩
    · rw [hC]; exact p1
    · obtain ⟨q1, q2, q3⟩ := prioL_char d w.Id d.Threads (own d w)
      rcases q3 with q3 | ⟨y, hy, hyw, q3⟩
      · rw [hC, show prio d w = own d w from q3]
        exact p2 w hw (waits_last.2 (.inl ⟨h0, hn⟩))
      · rw [hC, show prio d w = own d y from q3]
        exact p2 y hy (waits_last.2 (.inr ⟨w.Id, hyw, h0, hn⟩))
  have hge : prio d x ≤ r := by
    rcases p3 with p3 | ⟨y, hy, hyx, p3⟩
    · rw [show prio d x = own d x from p3]; exact hA
    · rw [show prio d x = own d y from p3]
      rcases waits_last.1 hyx with ⟨_, hn⟩ | ⟨b, hyb, _, hn⟩
      · exact Int.le_trans (prioL_ge _ _ _ _) (hB y hy hn)
      · obtain ⟨w, hw, hwb⟩ := List.mem_map.1 (nxt_thr (show 0 ≤ nxt d b by omega))
        have hwb : w.Id = b := hwb
        subst hwb
        exact Int.le_trans ((prioL_char d w.Id d.Threads (own d w)).2.1 y hy hyb) (hB w hw hn)
  omega
end Go.Proofs.Ytenhcpjlkmbedaa

/- FnExactPick: the measure of the program's priority. Conditions: none. -/
set_option linter.unusedVariables false
set_option linter.unusedSimpArgs false
namespace Go.Proofs.Ytenhcpjlkmbedaa
open Go Go.Den
/-- How many wait for one. -/
def waiters (d : DSched) (id : Int) : Nat := (d.Threads.filter (fun y => waits d y.Id id)).length
theorem filter_lt {α : Type} {p q : α → Bool} : ∀ (l : List α), (∀ x, x ∈ l → p x = true → q x = true) → (∃ x, x ∈ l ∧ p x = false ∧ q x = true) → (l.filter p).length < (l.filter q).length
  | [], _, ⟨x, hx, _⟩ => by cases hx
  | a :: r, h, hex => by
    have hle : (r.filter p).length ≤ (r.filter q).length := by
      clear hex
      induction r with
      | nil => exact Nat.le_refl _
      | cons b r ih =>
        have ih := ih (fun x hx => h x (by rcases List.mem_cons.1 hx with hx | hx <;> simp [hx]))
        have hb := h b (by simp)
        by_cases hp : p b = true
        · rw [List.filter_cons_of_pos hp, List.filter_cons_of_pos (hb hp)]; simp; exact ih
        · rw [List.filter_cons_of_neg hp]
          by_cases hq : q b = true
          · rw [List.filter_cons_of_pos hq]; simp; omega
          · rw [List.filter_cons_of_neg hq]; exact ih
    have ha := h a (by simp)
    by_cases hp : p a = true
    · rw [List.filter_cons_of_pos hp, List.filter_cons_of_pos (ha hp)]
      obtain ⟨x, hx, h1, h2⟩ := hex
      cases hx with
      | head => rw [h1] at hp; cases hp
      | tail _ hx =>
        have := filter_lt r (fun x hx => h x (by simp [hx])) ⟨x, hx, h1, h2⟩
        simp; exact this
    · rw [List.filter_cons_of_neg hp]
      by_cases hq : q a = true
      · rw [List.filter_cons_of_pos hq]; simp; omega
      · obtain ⟨x, hx, h1, h2⟩ := hex
        cases hx with
        | head => exact absurd h2 hq
        | tail _ hx =>
          rw [List.filter_cons_of_neg hq]
          exact filter_lt r (fun x hx => h x (by simp [hx])) ⟨x, hx, h1, h2⟩
/-- Fewer wait for one who waits. -/
theorem waiters_lt {d : DSched} (hs : SOk d) {w x : DThread} (hw : w ∈ d.Threads) (h0 : 0 ≤ x.Id) (hn : nxt d w.Id = x.Id) : waiters d w.Id < waiters d x.Id := by
  unfold waiters
  refine filter_lt _ (fun y hy hyw => waits_last.2 (.inr ⟨w.Id, hyw, h0, hn⟩)) ⟨w, hw, ?_, waits_last.2 (.inl ⟨h0, hn⟩)⟩
  obtain ⟨k, hk, he⟩ := List.getElem_of_mem hw
  exact (hs.thr k w (by rw [List.getElem?_eq_getElem hk, he])).1.2.2
theorem SOk.riseL {d : DSched} (h : SOk d) : ∀ (n i : Nat) (x y : DLock), d.Locks[i]? = some x → d.Locks[i + n + 1]? = some y → x.Id < y.Id
  | 0, i, x, y, hx, hy => (h.lck (i + 0 + 1) y hy).2.2.1 x (by omega) hx
  | n + 1, i, x, y, hx, hy => by
    have hl := (List.getElem?_eq_some_iff.1 hy).1
    have hz : d.Locks[i + n + 1]? = some d.Locks[i + n + 1] := List.getElem?_eq_getElem (by omega)
    have h1 := SOk.riseL h n i x _ hx hz
    have h2 := (h.lck (i + (n + 1) + 1) y hy).2.2.1 _ (by omega) (by rw [show i + (n + 1) + 1 - 1 = i + n + 1 by omega]; exact hz)
    omega
theorem SOk.uniqL {d : DSched} (h : SOk d) {i j : Nat} {x y : DLock} (hx : d.Locks[i]? = some x) (hy : d.Locks[j]? = some y) (he : x.Id = y.Id) : x = y := by
  rcases Nat.lt_trichotomy i j with hlt | rfl | hgt
  · have := h.riseL (j - i - 1) i x y hx (by rw [show i + (j - i - 1) + 1 = j by omega]; exact hy); omega
  · rw [hx] at hy; cases hy; rfl
  · have := h.riseL (i - j - 1) j y x hy (by rw [show j + (i - j - 1) + 1 = i by omega]; exact hx); omega
theorem SOk.findL {d : DSched} (h : SOk d) {j : Nat} {k : DLock} (hk : d.Locks[j]? = some k) : lckOf d k.Id = some k := by
  rcases idL_find d k.Id with ⟨_, hf⟩ | ⟨i, y, _, hy, hf⟩
  · unfold lckOf at hf
    have := List.find?_eq_none.1 hf k (List.mem_of_getElem? hk)
    simp at this
  · have hid : y.Id = k.Id := by unfold lckOf at hf; simpa using List.find?_some hf
    rw [hf, h.uniqL hy hk hid]
/-- Who waits at once: by which lock. -/
theorem SOk.direct {d : DSched} (h : SOk d) {w : DThread} (hw : w ∈ d.Threads) {id : Int} (h0 : 0 ≤ id) : nxt d w.Id = id ↔ w.State = 2 ∧ ∃ (j : Nat) (k : DLock), d.Locks[j]? = some k ∧ k.Id = w.Wait ∧ k.Owner = id := by
  unfold nxt
  rw [h.find w hw]
  simp only
  constructor
  · intro hn
    by_cases hs : w.State = 2
    · rw [if_pos hs] at hn
      rcases idL_find d w.Wait with ⟨_, hf⟩ | ⟨j, k, _, hk, hf⟩
      · rw [hf] at hn; simp only at hn; omega
      · rw [hf] at hn
        exact ⟨hs, j, k, hk, by unfold lckOf at hf; simpa using List.find?_some hf, hn⟩
    · rw [if_neg hs] at hn; omega
  · rintro ⟨hs, j, k, hk, hid, ho⟩
    rw [if_pos hs, ← hid, h.findL hk]
    exact ho
end Go.Proofs.Ytenhcpjlkmbedaa

/- FnExactPick: a thread's priority, on the program's side. Conditions: none. -/
set_option linter.unusedVariables false
set_option linter.unusedSimpArgs false
namespace Go.Proofs.Ytenhcpjlkmbedaa
open Go Go.Den
theorem c118 {p : Addr} {x : DThread} {w : World} (hc : ∀ j v, x.cells[j]? = some v → w.cell? (p.add j) = some v) : CallW Try.prog 118 #[.pointer (some p)] w (fun v w' => v = .bool (x.State == 1) ∧ w' = w) := by
  refine go118 ?_
  unfold W118
  exact ⟨p, rfl, _, hc 2 _ rfl, rfl, rfl⟩
/-- What the folding over locks 0 .. j-1 (and the threads 0 .. m-1 of lock j) has seen. -/
def Seen (d : DSched) (x : DThread) (j m : Nat) (r : Int) : Prop :=
  own d x ≤ r ∧ (∀ a k b y, d.Locks[a]? = some k → d.Threads[b]? = some y → k.Owner = x.Id → y.State = 2 → y.Wait = k.Id → (a < j ∨ (a = j ∧ b < m)) → prio d y ≤ r) ∧
  (r = own d x ∨ ∃ y, y ∈ d.Threads ∧ nxt d y.Id = x.Id ∧ r = prio d y)
theorem seen_end {d : DSched} (hs : SOk d) {x : DThread} (h0 : 0 ≤ x.Id) {r : Int} (h : Seen d x d.Locks.length 0 r) : r = prio d x := by
  refine prio_fold h0 h.1 (fun w hw hn => ?_) h.2.2
  obtain ⟨h2, j, k, hk, hid, ho⟩ := (hs.direct hw h0).1 hn
  obtain ⟨b, hb, he⟩ := List.getElem_of_mem hw
  exact h.2.1 j k b w hk (by rw [List.getElem?_eq_getElem hb, he]) ho h2 hid.symm (.inl (List.getElem?_eq_some_iff.1 hk).1)
theorem SOk.id0 {d : DSched} (h : SOk d) {x : DThread} (hx : x ∈ d.Threads) : 0 ≤ x.Id := by
  obtain ⟨k, hk, he⟩ := List.getElem_of_mem hx
  have := ((thrOk_iff d x).1 (h.thr k x (by rw [List.getElem?_eq_getElem hk, he])).1.2.1).1
  unfold thrBad at this
  simp only [Bool.or_eq_false_iff, decide_eq_false_iff_not] at this
  omega
theorem c161 {s : Addr} {t l : Sl} {d : DSched} (hs : SOk d) : ∀ (n : Nat) (i : Nat) (x : DThread) (p : Addr) (w : World), waiters d x.Id = n → d.Threads[i]? = some x → t.a = some p → PAt w s d.Now d.Seq t l → SAt w t l d →
    CallW Try.prog 161 #[.pointer (some s), .pointer (some (p.add (i * 8)))] w (fun v w' => v = .int .i64 (prio d x) ∧ Ext w w') := by
  intro n
  induction n using Nat.strongRecOn with
  | _ n ih =>
  intro i x p w hn hx hp hpat h
  have hmem := List.mem_of_getElem? hx
  have h0 := hs.id0 hmem
  obtain ⟨n0, n1, n2, n3, n4⟩ := hs.num x hmem
  have hll := h.ll
  have htl := h.tl
  have hfew := h.few
  have pat : ∀ {w'}, Ext w w' → PAt w' s d.Now d.Seq t l := fun e j v hj => e.cell (hpat j v hj)
  have xat : ∀ {w'}, Ext w w' → ∀ j v, x.cells[j]? = some v → w'.cell? ((p.add (i * 8)).add j) = some v := by
    intro w' e
    obtain ⟨p', hp', hc⟩ := (h.ext e).thr hx
    rw [hp] at hp'; cases hp'
    exact hc
  refine go161 ?_
  unfold W161
  have er : Ext w w := Only.refl _ _
  refine ⟨_, rfl, _, xat er 1 _ rfl, JoinW.cut1 (fun (p : Int) w' => p = own d x ∧ Ext w w') ?_ ?_⟩
  · refine ⟨_, rfl, _, xat er 2 _ rfl, BIf.eq (fun hst => ?_) (fun hst => ?_)⟩
    · refine ⟨s, rfl, _, pat (ext_drew w) 0 _ rfl, _, rfl, _, xat (ext_drew w) 5 _ rfl, by omega, ?_, ext_drew w⟩
      rw [w64 (n := d.Now - x.Since) (by omega) (by omega), Int.tdiv_eq_ediv_of_nonneg (by omega), w64 (n := (d.Now - x.Since) / 16) (by omega) (by omega), w64 (by omega) (by omega)]
      unfold own minI
      rw [if_pos hst]
      split <;> split <;> omega
    · refine ⟨?_, er⟩
      unfold own
      rw [if_neg hst, if_neg (by omega)]
  rintro (p0 : Int) w1 ⟨hp0, e1⟩
  refine ⟨s, rfl, l, pat e1 3 _ rfl, ?_⟩
  refine LoopW.m2 (fun (r j : Int) w' => 0 ≤ j ∧ j ≤ l.len ∧ Ext w w' ∧ Seen d x j.toNat 0 r) (fun _ (j : Int) _ => (l.len - j).toNat) ⟨by omega, by omega, e1, by rw [hp0]; exact Int.le_refl _, (fun a k b y _ _ _ _ _ hab => by have : (Int.toNat 0) = 0 := rfl; omega), .inl hp0⟩ ?_
  rintro (r : Int) (j : Int) w2 ⟨hj0, hj1, e2, hseen⟩ J hJ
  obtain ⟨a, rfl⟩ := Int.eq_ofNat_of_zero_le hj0
  rw [Int.toNat_natCast] at *
  refine BIf.dec (fun hlt => ?_) (fun hge => ?_)
  · have hk : a < d.Locks.length := by omega
    have hget : d.Locks[a]? = some d.Locks[a] := List.getElem?_eq_getElem hk
    obtain ⟨q, hq, hc⟩ := (h.ext e2).lck hget
    generalize d.Locks[a] = y at *
    refine ⟨hj0, hlt, q, hq, _, hc 0 _ rfl, _, hc 1 _ rfl, LetW_iff.2 ?_⟩
    have hz : Blk (w2.alloc (.cells #[.int .i64 0, .int .i64 0] 149)) w2.heap.size _ := blk_alloc w2 _ _
    have ez := ext_alloc w2 (.cells #[.int .i64 0, .int .i64 0] 149)
    refine lck_put hz rfl y (fun w3 o3 hy3 => ?_)
    have e3 := Only.trans e2 (Only.trans (Ext.own ez o3 (by rintro k rfl; exact Nat.le_refl _)) (ext_drew w3))
    have hy := hy3.ext (ext_drew w3)
    generalize w3.drew = w4 at *
    rw [w64 (n := (a : Int) + 1) (by omega) (by omega)]
    refine ⟨_, hy.cell 1, _, rfl, _, xat e3 0 _ rfl, BIf.ne (fun hne => ?_) (fun heq => ⟨s, rfl, t, pat e3 2 _ rfl, ?_⟩)⟩
    · refine hJ _ _ _ ⟨by omega, by omega, e3, hseen.1, fun a' k b z hk' hz' ho h2 hw hab => ?_, hseen.2.2⟩ (by omega)
      have hab : a' < a + 1 := hab.elim (fun h => h) (fun h => absurd h.2 (Nat.not_lt_zero _))
      by_cases ha : a' = a
      · subst ha; rw [hget] at hk'; cases hk'; exact absurd ho hne
      · exact hseen.2.1 a' k b z hk' hz' ho h2 hw (.inl (by omega))
    · refine LoopW.m2 (fun (r j : Int) w' => 0 ≤ j ∧ j ≤ t.len ∧ Ext w4 w' ∧ Seen d x a j.toNat r) (fun _ (j : Int) _ => (t.len - j).toNat) ⟨by omega, by omega, Only.refl _ _, hseen⟩ ?_
      rintro (r : Int) (j : Int) w5 ⟨hj0, hj1, e5, hseen⟩ J2 hJ2
      obtain ⟨m, rfl⟩ := Int.eq_ofNat_of_zero_le hj0
      rw [Int.toNat_natCast] at *
      have e05 := Only.trans e3 e5
      refine BIf.dec (fun hlt => ?_) (fun hge => ?_)
      · have hm : m < d.Threads.length := by omega
        have hgm : d.Threads[m]? = some d.Threads[m] := List.getElem?_eq_getElem hm
        have e6 := Only.trans e05 (ext_drew w5)
        obtain ⟨p', hp', hcz⟩ := (h.ext e6).thr hgm
        rw [hp] at hp'; cases hp'
        have hmm := List.getElem_mem hm
        generalize d.Threads[m] = z at *
        rw [w64 (n := (m : Int) + 1) (by omega) (by omega)]
        refine ⟨s, rfl, t, pat e05 2 _ rfl, hj0, hlt, p, hp, JoinW.cut1 (fun (b : Bool) w' => b = (z.State == 2 && z.Wait == y.Id) ∧ w' = w5.drew) ?_ ?_⟩
        · refine ⟨_, rfl, _, hcz 2 _ rfl, BIf.of (fun hst => ⟨_, rfl, _, hcz 7 _ rfl, _, (hy.ext (Only.trans e5 (ext_drew w5))).cell 0, ?_, rfl⟩) (fun hst => ⟨?_, rfl⟩)⟩
          · rw [hst]; rfl
          · rw [hst]; rfl
        · rintro (b : Bool) w6 ⟨hbb, rfl⟩
          refine BIf.of (fun hb1 => ?_) (fun hb1 => ?_)
          · rw [hb1] at hbb
            have hzz : z.State = 2 ∧ z.Wait = y.Id := by simpa using hbb.symm
            have hdir : nxt d z.Id = x.Id := (hs.direct hmm h0).2 ⟨hzz.1, a, y, hget, hzz.2.symm, heq⟩
            have hlt' := waiters_lt hs hmm h0 hdir
            refine (ih _ (by omega) m z p _ rfl hgm hp (pat e6) (h.ext e6)).mono ?_
            rintro _ w7 ⟨rfl, e7⟩
            refine ⟨_, rfl, ?_⟩
            have hmax : r ≤ maxI r (prio d z) ∧ prio d z ≤ maxI r (prio d z) ∧ (maxI r (prio d z) = r ∨ maxI r (prio d z) = prio d z) := by unfold maxI; split <;> omega
            refine hJ2 _ _ _ ⟨by omega, by omega, Only.trans e5 (Only.trans (ext_drew w5) e7), by have := hseen.1; omega, fun a' k b z' hk' hz' ho h2 hw hab => ?_, ?_⟩ (by omega)
            · by_cases hbm : a' = a ∧ b = m
              · rw [hbm.2, hgm] at hz'; cases hz'; exact hmax.2.1
              · have := hseen.2.1 a' k b z' hk' hz' ho h2 hw (by
                  rcases hab with hab | ⟨hab, hb2⟩
                  · exact .inl hab
                  · have hb2 : b < m + 1 := hb2
                    exact .inr ⟨hab, by omega⟩)
                omega
            · rcases hmax.2.2 with hm1 | hm1
              · rw [hm1]; exact hseen.2.2
              · exact .inr ⟨z, hmm, hdir, hm1⟩
          · rw [hb1] at hbb
            refine hJ2 _ _ _ ⟨by omega, by omega, Only.trans e5 (ext_drew w5), hseen.1, fun a' k b z' hk' hz' ho h2 hw hab => ?_, hseen.2.2⟩ (by omega)
            by_cases hbm : a' = a ∧ b = m
            · rw [hbm.2, hgm] at hz'; cases hz'
              rw [hbm.1, hget] at hk'; cases hk'
              simp [h2, hw] at hbb
            · exact hseen.2.1 a' k b z' hk' hz' ho h2 hw (by
                rcases hab with hab | ⟨hab, hb2⟩
                · exact .inl hab
                · have hb2 : b < m + 1 := hb2
                  exact .inr ⟨hab, by omega⟩)
      · refine hJ _ _ _ ⟨by omega, by omega, e05, hseen.1, fun a' k b z hk' hz' ho h2 hw hab => ?_, hseen.2.2⟩ (by omega)
        have hab : a' < a + 1 := hab.elim (fun h => h) (fun h => absurd h.2 (Nat.not_lt_zero _))
        have hbl := (List.getElem?_eq_some_iff.1 hz').1
        exact hseen.2.1 a' k b z hk' hz' ho h2 hw (by omega)
  · rw [show a = d.Locks.length by omega] at hseen
    exact ⟨by rw [seen_end hs h0 hseen], e2⟩
end Go.Proofs.Ytenhcpjlkmbedaa

/- FnExactPick: who is picked, on the program's side. Conditions: none. -/
set_option linter.unusedVariables false
set_option linter.unusedSimpArgs false
namespace Go.Proofs.Ytenhcpjlkmbedaa
open Go Go.Den
def bestI (d : DSched) : Int := pickL d d.Threads 0 (-1) (-1)
theorem c117 {s : Addr} {t l : Sl} {d : DSched} {w : World} (hs : SOk d) (hpat : PAt w s d.Now d.Seq t l) (h : SAt w t l d) : CallW Try.prog 117 #[.pointer (some s), .func (.func 118) #[] #[]] w (fun v w' => v = .pointer (ptrAt t.a 8 (bestI d)) ∧ Ext w w' ∧ (bestI d = -1 ∨ (0 ≤ bestI d ∧ bestI d < d.Threads.length))) := by
  refine go117 (a1 := 118) (a1x := []) (a1c := []) ?_
  unfold W117
  have htl := h.tl
  have hfew := h.few
  have pat : ∀ {w'}, Ext w w' → PAt w' s d.Now d.Seq t l := fun e j v hj => e.cell (hpat j v hj)
  refine ⟨s, rfl, t, pat (Only.refl _ _) 2 _ rfl, ?_⟩
  refine LoopW.m3 (fun (p : Option Addr) (m i : Int) w' => 0 ≤ i ∧ i ≤ t.len ∧ Ext w w' ∧ ∃ b m', p = ptrAt t.a 8 b ∧ ((b = -1 ∧ m' = -1) ∨ (0 ≤ b ∧ b < i ∧ m = m')) ∧ pickL d (d.Threads.drop i.toNat) i.toNat b m' = bestI d) (fun _ _ (i : Int) _ => (t.len - i).toNat) ⟨by omega, by omega, Only.refl _ _, -1, -1, rfl, .inl ⟨rfl, rfl⟩, rfl⟩ ?_
  rintro (p3 : Option Addr) (m : Int) (i : Int) w1 ⟨hi0, hi1, e1, b, m', rfl, hbm, hr⟩ J hJ
  obtain ⟨k, rfl⟩ := Int.eq_ofNat_of_zero_le hi0
  rw [Int.toNat_natCast] at *
  refine BIf.dec (fun hlt => ?_) (fun hge => ?_)
  · have hk : k < d.Threads.length := by omega
    have hget : d.Threads[k]? = some d.Threads[k] := List.getElem?_eq_getElem hk
    have hmem := List.getElem_mem hk
    rw [List.drop_eq_getElem_cons hk, pickL] at hr
    obtain ⟨p, hp, hc⟩ := (h.ext e1).thr hget
    generalize d.Threads[k] = x at *
    rw [w64 (n := (k : Int) + 1) (by omega) (by omega)]
    refine ⟨s, rfl, t, pat e1 2 _ rfl, hi0, hlt, p, hp, (c118 hc).mono ?_⟩
    rintro _ w2 ⟨rfl, rfl⟩
    refine ⟨_, rfl, BIf.of (fun hn => ?_) (fun hy => ?_)⟩
    · have hn : x.State ≠ 1 := by simpa using hn
      rw [if_neg hn] at hr
      exact hJ _ _ _ _ ⟨by omega, by omega, e1, b, m', rfl, by omega, hr⟩ (by omega)
    · have hy : x.State = 1 := by simpa using hy
      rw [if_pos hy] at hr
      refine (c161 hs _ k x p _ rfl hget hp (pat e1) (h.ext e1)).mono ?_
      rintro _ w3 ⟨rfl, e3⟩
      have e4 := Only.trans e1 (Only.trans e3 (ext_drew w3))
      have hpr := prio_ge (hs.num x hmem)
      have hxk := ptr_some (z := 8) hp k
      refine ⟨_, rfl, JoinW.cut1 (fun (c : Bool) w' => c = decide (prio d x > m' ∨ (prio d x = m' ∧ x.Line < lineAt d b)) ∧ w' = w3.drew) ?_ ?_⟩
      · refine BIf.of (fun hnone => ⟨?_, rfl⟩) (fun hsome => ?_)
        · have hb1 : b = -1 := by
            rcases hbm with hb | hb
            · exact hb.1
            · obtain ⟨nb, rfl⟩ := Int.eq_ofNat_of_zero_le hb.1
              rw [ptr_some hp] at hnone; cases hnone
          exact (decide_eq_true (.inl (by omega))).symm
        · have hb0 : 0 ≤ b ∧ b < k ∧ m = m' := by
            rcases hbm with hb | hb
            · rw [hb.1, ptr_none] at hsome; cases hsome
            · exact hb
          refine BIf.dec (fun h1 => ⟨(decide_eq_true (.inl (by omega))).symm, rfl⟩) (fun h1 => BIf.eq (fun h2 => ?_) (fun h2 => ⟨(decide_eq_false (by rintro (h | h) <;> omega)).symm, rfl⟩))
          obtain ⟨nb, rfl⟩ := Int.eq_ofNat_of_zero_le hb0.1
          have hbl : nb < d.Threads.length := by omega
          have hgb : d.Threads[nb]? = some d.Threads[nb] := List.getElem?_eq_getElem hbl
          obtain ⟨p', hp', hcb⟩ := (h.ext e4).thr hgb
          obtain ⟨p'', hp'', hcx⟩ := (h.ext e4).thr hget
          rw [hp] at hp' hp''; cases hp'; cases hp''
          refine ⟨_, rfl, _, hcx 3 _ rfl, _, ptr_some hp nb, _, hcb 3 _ rfl, ?_, rfl⟩
          have hla : lineAt d (nb : Int) = d.Threads[nb].Line := by unfold lineAt; rw [Int.toNat_natCast, hgb]
          rw [hla]
          apply decide_eq_decide.2
          exact ⟨fun h => .inr ⟨by omega, h⟩, fun h => by rcases h with h | h; omega; exact h.2⟩
      · rintro (c : Bool) w5 ⟨hcc, rfl⟩
        refine BIf.of (fun hc1 => ?_) (fun hc1 => ?_)
        · rw [hc1] at hcc
          rw [if_pos (of_decide_eq_true hcc.symm)] at hr
          exact hJ _ _ _ _ ⟨by omega, by omega, e4, k, prio d x, hxk.symm, .inr ⟨by omega, by omega, rfl⟩, hr⟩ (by omega)
        · rw [hc1] at hcc
          rw [if_neg (of_decide_eq_false hcc.symm)] at hr
          exact hJ _ _ _ _ ⟨by omega, by omega, e4, b, m', rfl, by omega, hr⟩ (by omega)
  · rw [List.drop_eq_nil_of_le (by omega)] at hr
    have hr : b = bestI d := hr
    exact ⟨by rw [hr], e1, by omega⟩
theorem c12 {t l : Sl} {d : DSched} {w : World} (h : SAt w t l d) : CallW Try.prog 12 #[sAgg d.Now d.Seq t l] w (KPick d w) := by
  refine go12 ?_
  unfold W12
  refine LetW_iff.2 ?_
  have hb : Blk (w.alloc (.cells #[.int .i64 d.Now, .int .i64 d.Seq, .slice t.a t.len t.cap, .slice l.a l.len l.cap] 31)) w.heap.size (sCells d.Now d.Seq t l) := blk_alloc w _ _
  have e0 := ext_alloc w (.cells #[.int .i64 d.Now, .int .i64 d.Seq, .slice t.a t.len t.cap, .slice l.a l.len l.cap] 31)
  generalize w.alloc (.cells #[.int .i64 d.Now, .int .i64 d.Seq, .slice t.a t.len t.cap, .slice l.a l.len l.cap] 31) = w1 at *
  have h1 := h.ext e0
  refine ⟨_, hb.cell 0, _, hb.cell 1, t, hb.cell 2, l, hb.cell 3, (c52 h1).mono ?_⟩
  rintro _ w2 ⟨b, rfl, hiff, e2⟩
  have hb2 := hb.ext e2
  have e02 := Only.trans e0 e2
  refine ⟨_, rfl, BIf.of (fun hn => ?_) (fun hy => ?_)⟩
  · have hno : ¬ SOk d := fun h => by rw [hiff.2 h] at hn; cases hn
    exact ⟨-1, rfl, fun h => absurd h hno, fun _ => rfl, e02⟩
  · have hs : SOk d := hiff.1 (by simpa using hy)
    refine CallW.mono (go53 ((c117 hs (pat_of hb2) (h1.ext e2)).mono ?_)) (fun v w' hK => hK) (K := fun v w' => v = .pointer (ptrAt t.a 8 (bestI d)) ∧ Ext w2 w' ∧ (bestI d = -1 ∨ (0 ≤ bestI d ∧ bestI d < d.Threads.length))) |>.mono ?_
    · rintro _ w3 ⟨rfl, h3⟩
      exact ⟨_, rfl, rfl, h3⟩
    · rintro _ w3 ⟨rfl, e3, hbest⟩
      have e03 := Only.trans e02 e3
      refine ⟨_, rfl, ?_⟩
      rcases hbest with hm1 | ⟨h0, hlt⟩
      · rw [hm1, ptr_none]
        refine BIf.f rfl ⟨-1, rfl, fun _ => ?_, fun _ => rfl, e03⟩
        unfold pickS; rw [show pickL d d.Threads 0 (-1) (-1) = -1 from hm1]; rfl
      · obtain ⟨nb, hnb⟩ := Int.eq_ofNat_of_zero_le h0
        have hbl : nb < d.Threads.length := by omega
        have hgb : d.Threads[nb]? = some d.Threads[nb] := List.getElem?_eq_getElem hbl
        obtain ⟨p, hp, hc⟩ := (h1.ext (Only.trans e2 e3)).thr hgb
        rw [hnb, ptr_some hp]
        refine BIf.t rfl ⟨_, rfl, _, hc 0 _ rfl, _, rfl, fun _ => ?_, fun hn => absurd hs hn, e03⟩
        unfold pickS; rw [show pickL d d.Threads 0 (-1) (-1) = (nb : Int) from hnb, if_neg (by omega), Int.toNat_natCast, hgb]
end Go.Proofs.Ytenhcpjlkmbedaa

/- FnExactPick: both sides, for the walk. Conditions: none. -/
set_option linter.unusedVariables false
set_option linter.unusedSimpArgs false
namespace Go.Proofs.Ytenhcpjlkmbedaa
open Go Go.Den
theorem sAt_of {x : DSched} {w : World} {cs : List Value} (h : IsD w x.dat cs) (hs : x.dat.sz ≤ 1048576) : ∃ t l : Sl, cs = [.int .i64 x.Now, .int .i64 x.Seq, .slice t.a t.len t.cap, .slice l.a l.len l.cap] ∧ SAt w t l x := by
  have q := isD_st h
  obtain ⟨_, _, rfl, i0, q⟩ := isF_cons q
  obtain ⟨_, _, rfl, i1, q⟩ := isF_cons q
  obtain ⟨_, _, rfl, i2, q⟩ := isF_cons q
  obtain ⟨_, _, rfl, i3, q⟩ := isF_cons q
  obtain rfl := isF_nil q
  obtain ⟨rfl, _⟩ := isD_int i0
  obtain ⟨rfl, _⟩ := isD_int i1
  obtain ⟨t, rfl⟩ := isD_sl_s i2
  obtain ⟨l, rfl⟩ := isD_sl_s i3
  have hs2 : x.dat.sz = 0 + (0 + ((x.Threads.map DThread.dat).length + Dat.szs (x.Threads.map DThread.dat) + ((x.Locks.map DLock.dat).length + Dat.szs (x.Locks.map DLock.dat) + 0))) := rfl
  rw [List.length_map, List.length_map] at hs2
  exact ⟨t, l, rfl, (isD_len i2).1, isD_row i2 (fun _ => rfl) (fun es y hy => DThread.is_cells hy), (isD_len i3).1, isD_row i3 (fun _ => rfl) (fun es y hy => DLock.is_cells hy), by omega⟩
open Classical in
noncomputable def pickF (x : DSched) : Int := if SOk x then pickS x else -1
theorem pickF_of {x : DSched} {n : Int} (h1 : SOk x → n = pickS x) (h2 : ¬ SOk x → n = -1) : n = pickF x := by
  unfold pickF
  by_cases h : SOk x
  · rw [if_pos h]; exact h1 h
  · rw [if_neg h]; exact h2 h
theorem specPick {x : DSched} {w : World} {cs : List Value} (h : IsD w x.dat cs) (hs : x.dat.sz ≤ 1048576) : CallW Try.prog 10 #[.agg ⟨cs⟩] w (fun v w' => v = .int .i64 (pickF x) ∧ Ext w w') := by
  obtain ⟨t, l, rfl, hat⟩ := sAt_of h hs
  refine (c10 hat).mono ?_
  rintro _ w' ⟨n, rfl, h1, h2, e⟩
  exact ⟨by rw [pickF_of h1 h2], e⟩
theorem implPick {x : DSched} {w : World} {cs : List Value} (h : IsD w x.dat cs) (hs : x.dat.sz ≤ 1048576) : CallW Try.prog 12 #[.agg ⟨cs⟩] w (fun v w' => v = .int .i64 (pickF x) ∧ Ext w w') := by
  obtain ⟨t, l, rfl, hat⟩ := sAt_of h hs
  refine (c12 hat).mono ?_
  rintro _ w' ⟨n, rfl, h1, h2, e⟩
  exact ⟨by rw [pickF_of h1 h2], e⟩
end Go.Proofs.Ytenhcpjlkmbedaa

/- The law's own functions over trees: copies, sizes, comparisons, marks; printed by a program. Conditions: none. -/
set_option linter.unusedVariables false
set_option linter.unusedSimpArgs false
set_option maxRecDepth 4000
namespace Go.Proofs.Ytenhcpjlkmbedaa
open Go Go.Den

theorem has_Thread {d : Dat} (h : Has TyThread d) : ∃ x_0 : Int, ∃ x_1 : Int, ∃ x_2 : Int, ∃ x_3 : Int, ∃ x_4 : Int, ∃ x_5 : Int, ∃ x_6 : Int, ∃ x_7 : Int, d = .st [.int .i64 x_0, .int .i64 x_1, .int .i64 x_2, .int .i64 x_3, .int .i64 x_4, .int .i64 x_5, .int .i64 x_6, .int .i64 x_7] := by
  obtain ⟨_, rfl, g⟩ := has_st h
  obtain ⟨_, _, rfl, h_0, g⟩ := hasF_cons g
  obtain ⟨_, _, rfl, h_1, g⟩ := hasF_cons g
  obtain ⟨_, _, rfl, h_2, g⟩ := hasF_cons g
  obtain ⟨_, _, rfl, h_3, g⟩ := hasF_cons g
  obtain ⟨_, _, rfl, h_4, g⟩ := hasF_cons g
  obtain ⟨_, _, rfl, h_5, g⟩ := hasF_cons g
  obtain ⟨_, _, rfl, h_6, g⟩ := hasF_cons g
  obtain ⟨_, _, rfl, h_7, g⟩ := hasF_cons g
  obtain rfl := hasF_nil g
  obtain ⟨x_0, rfl⟩ := has_int h_0
  obtain ⟨x_1, rfl⟩ := has_int h_1
  obtain ⟨x_2, rfl⟩ := has_int h_2
  obtain ⟨x_3, rfl⟩ := has_int h_3
  obtain ⟨x_4, rfl⟩ := has_int h_4
  obtain ⟨x_5, rfl⟩ := has_int h_5
  obtain ⟨x_6, rfl⟩ := has_int h_6
  obtain ⟨x_7, rfl⟩ := has_int h_7
  exact ⟨x_0, x_1, x_2, x_3, x_4, x_5, x_6, x_7, rfl⟩
theorem cells_Thread {w : World} {x_0 : Int} {x_1 : Int} {x_2 : Int} {x_3 : Int} {x_4 : Int} {x_5 : Int} {x_6 : Int} {x_7 : Int} {cs : List Value} (h : IsD w (.st [.int .i64 x_0, .int .i64 x_1, .int .i64 x_2, .int .i64 x_3, .int .i64 x_4, .int .i64 x_5, .int .i64 x_6, .int .i64 x_7]) cs) : cs = [.int .i64 x_0, .int .i64 x_1, .int .i64 x_2, .int .i64 x_3, .int .i64 x_4, .int .i64 x_5, .int .i64 x_6, .int .i64 x_7] ∧ ((Lit.int .i64 x_0).wf = true) ∧ ((Lit.int .i64 x_1).wf = true) ∧ ((Lit.int .i64 x_2).wf = true) ∧ ((Lit.int .i64 x_3).wf = true) ∧ ((Lit.int .i64 x_4).wf = true) ∧ ((Lit.int .i64 x_5).wf = true) ∧ ((Lit.int .i64 x_6).wf = true) ∧ ((Lit.int .i64 x_7).wf = true) := by
  have q := isD_st h
  obtain ⟨_, _, rfl, i_0, q⟩ := isF_cons q
  obtain ⟨_, _, rfl, i_1, q⟩ := isF_cons q
  obtain ⟨_, _, rfl, i_2, q⟩ := isF_cons q
  obtain ⟨_, _, rfl, i_3, q⟩ := isF_cons q
  obtain ⟨_, _, rfl, i_4, q⟩ := isF_cons q
  obtain ⟨_, _, rfl, i_5, q⟩ := isF_cons q
  obtain ⟨_, _, rfl, i_6, q⟩ := isF_cons q
  obtain ⟨_, _, rfl, i_7, q⟩ := isF_cons q
  obtain rfl := isF_nil q
  obtain ⟨rfl, ws_0⟩ := isD_int i_0
  obtain ⟨rfl, ws_1⟩ := isD_int i_1
  obtain ⟨rfl, ws_2⟩ := isD_int i_2
  obtain ⟨rfl, ws_3⟩ := isD_int i_3
  obtain ⟨rfl, ws_4⟩ := isD_int i_4
  obtain ⟨rfl, ws_5⟩ := isD_int i_5
  obtain ⟨rfl, ws_6⟩ := isD_int i_6
  obtain ⟨rfl, ws_7⟩ := isD_int i_7
  exact ⟨rfl, ws_0, ws_1, ws_2, ws_3, ws_4, ws_5, ws_6, ws_7⟩
theorem has_Lock {d : Dat} (h : Has TyLock d) : ∃ x_0 : Int, ∃ x_1 : Int, d = .st [.int .i64 x_0, .int .i64 x_1] := by
  obtain ⟨_, rfl, g⟩ := has_st h
  obtain ⟨_, _, rfl, h_0, g⟩ := hasF_cons g
  obtain ⟨_, _, rfl, h_1, g⟩ := hasF_cons g
  obtain rfl := hasF_nil g
  obtain ⟨x_0, rfl⟩ := has_int h_0
  obtain ⟨x_1, rfl⟩ := has_int h_1
  exact ⟨x_0, x_1, rfl⟩
theorem cells_Lock {w : World} {x_0 : Int} {x_1 : Int} {cs : List Value} (h : IsD w (.st [.int .i64 x_0, .int .i64 x_1]) cs) : cs = [.int .i64 x_0, .int .i64 x_1] ∧ ((Lit.int .i64 x_0).wf = true) ∧ ((Lit.int .i64 x_1).wf = true) := by
  have q := isD_st h
  obtain ⟨_, _, rfl, i_0, q⟩ := isF_cons q
  obtain ⟨_, _, rfl, i_1, q⟩ := isF_cons q
  obtain rfl := isF_nil q
  obtain ⟨rfl, ws_0⟩ := isD_int i_0
  obtain ⟨rfl, ws_1⟩ := isD_int i_1
  exact ⟨rfl, ws_0, ws_1⟩
theorem has_Sched {d : Dat} (h : Has TySched d) : ∃ x_0 : Int, ∃ x_1 : Int, ∃ l_2 : List Dat, ∃ l_3 : List Dat, d = .st [.int .i64 x_0, .int .i64 x_1, .sl 8 l_2, .sl 2 l_3] ∧ (∀ e, e ∈ l_2 → Has TyThread e) ∧ (∀ e, e ∈ l_3 → Has TyLock e) := by
  obtain ⟨_, rfl, g⟩ := has_st h
  obtain ⟨_, _, rfl, h_0, g⟩ := hasF_cons g
  obtain ⟨_, _, rfl, h_1, g⟩ := hasF_cons g
  obtain ⟨_, _, rfl, h_2, g⟩ := hasF_cons g
  obtain ⟨_, _, rfl, h_3, g⟩ := hasF_cons g
  obtain rfl := hasF_nil g
  obtain ⟨x_0, rfl⟩ := has_int h_0
  obtain ⟨x_1, rfl⟩ := has_int h_1
  obtain ⟨l_2, rfl, t_2⟩ := has_sl h_2
  obtain ⟨l_3, rfl, t_3⟩ := has_sl h_3
  exact ⟨x_0, x_1, l_2, l_3, rfl, t_2, t_3⟩
theorem cells_Sched {w : World} {x_0 : Int} {x_1 : Int} {l_2 : List Dat} {l_3 : List Dat} {cs : List Value} (h : IsD w (.st [.int .i64 x_0, .int .i64 x_1, .sl 8 l_2, .sl 2 l_3]) cs) : ∃ s_2 : Sl, ∃ s_3 : Sl, cs = [.int .i64 x_0, .int .i64 x_1, .slice s_2.a s_2.len s_2.cap, .slice s_3.a s_3.len s_3.cap] ∧ ((Lit.int .i64 x_0).wf = true) ∧ ((Lit.int .i64 x_1).wf = true) ∧ (IsD w (.sl 8 l_2) [.slice s_2.a s_2.len s_2.cap]) ∧ (IsD w (.sl 2 l_3) [.slice s_3.a s_3.len s_3.cap]) := by
  have q := isD_st h
  obtain ⟨_, _, rfl, i_0, q⟩ := isF_cons q
  obtain ⟨_, _, rfl, i_1, q⟩ := isF_cons q
  obtain ⟨_, _, rfl, i_2, q⟩ := isF_cons q
  obtain ⟨_, _, rfl, i_3, q⟩ := isF_cons q
  obtain rfl := isF_nil q
  obtain ⟨rfl, ws_0⟩ := isD_int i_0
  obtain ⟨rfl, ws_1⟩ := isD_int i_1
  obtain ⟨s_2, rfl⟩ := isD_sl_s i_2
  have is_2 := i_2
  obtain ⟨s_3, rfl⟩ := isD_sl_s i_3
  have is_3 := i_3
  exact ⟨s_2, s_3, rfl, ws_0, ws_1, is_2, is_3⟩
/- toThread -/
theorem c112 {d : Dat} {cs : List Value} {w : World} (ht : Has TyThread d) (h : IsD w d cs) (hs : d.sz ≤ 4194304) : CallW Try.prog 112 #[.agg ⟨cs⟩] w (fun v w' => ∃ cs', v = .agg ⟨cs'⟩ ∧ Fr w.heap.size w'.heap.size w' d cs' ∧ Ext w w') := by
  obtain ⟨x_0, x_1, x_2, x_3, x_4, x_5, x_6, x_7, rfl⟩ := has_Thread ht
  obtain ⟨rfl, ws_0, ws_1, ws_2, ws_3, ws_4, ws_5, ws_6, ws_7⟩ := cells_Thread h
  show CallW Try.prog 112 #[.agg #[.int .i64 x_0, .int .i64 x_1, .int .i64 x_2, .int .i64 x_3, .int .i64 x_4, .int .i64 x_5, .int .i64 x_6, .int .i64 x_7]] w _
  refine go112 ?_
  unfold W112
  refine alloc_step (fun w1 e1 ha n1 => ?_)
  refine alloc_step (fun w2 e2 hc n2 => ?_)
  have ha := ha.ext e2
  refine alloc_step (fun w3 e3 hb n3 => ?_)
  have ha := ha.ext e3
  have hc := hc.ext e3
  have e := Only.trans e1 (Only.trans e2 e3)
  refine ⟨_, ha.cell 0, ?_⟩
  refine set_step hb (by simp) (fun w4 o4 hb n4 => ?_)
  have ha := ha.only o4 (by omega)
  have hc := hc.only o4 (by omega)
  have e := Ext.own e o4 (fun k hk => by omega)
  refine ⟨_, ha.cell 1, ?_⟩
  refine set_step hb (by simp) (fun w5 o5 hb n5 => ?_)
  have ha := ha.only o5 (by omega)
  have hc := hc.only o5 (by omega)
  have e := Ext.own e o5 (fun k hk => by omega)
  refine ⟨_, ha.cell 2, ?_⟩
  refine set_step hb (by simp) (fun w6 o6 hb n6 => ?_)
  have ha := ha.only o6 (by omega)
  have hc := hc.only o6 (by omega)
  have e := Ext.own e o6 (fun k hk => by omega)
  refine ⟨_, ha.cell 3, ?_⟩
  refine set_step hb (by simp) (fun w7 o7 hb n7 => ?_)
  have ha := ha.only o7 (by omega)
  have hc := hc.only o7 (by omega)
  have e := Ext.own e o7 (fun k hk => by omega)
  refine ⟨_, ha.cell 4, ?_⟩
  refine set_step hb (by simp) (fun w8 o8 hb n8 => ?_)
  have ha := ha.only o8 (by omega)
  have hc := hc.only o8 (by omega)
  have e := Ext.own e o8 (fun k hk => by omega)
  refine ⟨_, ha.cell 5, ?_⟩
  refine set_step hb (by simp) (fun w9 o9 hb n9 => ?_)
  have ha := ha.only o9 (by omega)
  have hc := hc.only o9 (by omega)
  have e := Ext.own e o9 (fun k hk => by omega)
  refine ⟨_, ha.cell 6, ?_⟩
  refine set_step hb (by simp) (fun w10 o10 hb n10 => ?_)
  have ha := ha.only o10 (by omega)
  have hc := hc.only o10 (by omega)
  have e := Ext.own e o10 (fun k hk => by omega)
  refine ⟨_, ha.cell 7, ?_⟩
  refine set_step hb (by simp) (fun w11 o11 hb n11 => ?_)
  have ha := ha.only o11 (by omega)
  have hc := hc.only o11 (by omega)
  have e := Ext.own e o11 (fun k hk => by omega)
  refine ⟨_, hb.cell 0, _, hb.cell 1, _, hb.cell 2, _, hb.cell 3, _, hb.cell 4, _, hb.cell 5, _, hb.cell 6, _, hb.cell 7, ?_⟩
  refine put_step hc rfl rfl (fun w12 o12 hc n12 => ?_)
  have e := Ext.own e o12 (fun k hk => by omega)
  refine ⟨_, hc.cell 0, _, hc.cell 1, _, hc.cell 2, _, hc.cell 3, _, hc.cell 4, _, hc.cell 5, _, hc.cell 6, _, hc.cell 7, ?_⟩
  exact ⟨[.int .i64 x_0, .int .i64 x_1, .int .i64 x_2, .int .i64 x_3, .int .i64 x_4, .int .i64 x_5, .int .i64 x_6, .int .i64 x_7], rfl, frF_st (frF_cons (m := w.heap.size) (fr_int ws_0) (frF_cons (m := w.heap.size) (fr_int ws_1) (frF_cons (m := w.heap.size) (fr_int ws_2) (frF_cons (m := w.heap.size) (fr_int ws_3) (frF_cons (m := w.heap.size) (fr_int ws_4) (frF_cons (m := w.heap.size) (fr_int ws_5) (frF_cons (m := w.heap.size) (fr_int ws_6) (frF_cons (m := w.heap.size) (fr_int ws_7) (frF_nil) (by omega) (by omega)) (by omega) (by omega)) (by omega) (by omega)) (by omega) (by omega)) (by omega) (by omega)) (by omega) (by omega)) (by omega) (by omega)) (by omega) (by omega)), e⟩

/- toThreadS -/
theorem c50 {l : List Dat} {a0 : Sl} {w : World} (ht : ∀ e, e ∈ l → Has TyThread e) (h : IsD w (.sl 8 l) [.slice a0.a a0.len a0.cap]) (hs : (Dat.sl 8 l).sz ≤ 4194304) : CallW Try.prog 50 #[.slice a0.a a0.len a0.cap] w (fun v w' => ∃ s : Sl, v = .slice s.a s.len s.cap ∧ Fr w.heap.size w'.heap.size w' (.sl 8 l) [.slice s.a s.len s.cap] ∧ Ext w w') := by
  refine go50 ?_
  unfold W50
  obtain ⟨hlen, hmax, hel⟩ := isD_sl h
  simp only [Dat.sz] at hs
  rw [hlen]; simp only [Int.toNat_natCast]
  refine ⟨by omega, by omega, by omega, by omega, LetW_iff.2 ?_⟩
  have hs0 := ToInv.start (w := w) (z := 8) (zero := ti86.zero) (e := 86) l rfl
  generalize w.alloc (.cells ⟨zerosOf ti86.zero l.length⟩ 86) = w1 at *
  refine LoopW.m1 (fun (i : Int) w' => ∃ (k : Nat) (bs : List Nat) (vs : List Value), i = k ∧ ToInv w w' w.heap.size 8 l k bs vs) (fun (i : Int) _ => (l.length - i).toNat) ⟨0, [], _, rfl, hs0⟩ ?_
  rintro (i : Int) w4 ⟨k, bs, vs, rfl, hi⟩ J hJ
  refine BIf.dec (fun hlt => ?_) (fun hge => ?_)
  · obtain ⟨d, hd⟩ : ∃ d, l[k]? = some d := ⟨_, List.getElem?_eq_getElem (by omega)⟩
    have hsz := szs_get hd
    obtain ⟨p, es, hp, he, hc, his⟩ := isD_at (IsD.ext hi.ext _ _ h) hd
    have ht0 := ht d (mem_get hd)
    obtain ⟨x_0, x_1, x_2, x_3, x_4, x_5, x_6, x_7, rfl⟩ := has_Thread ht0
    have his0 := his
    obtain ⟨rfl, ws_0, ws_1, ws_2, ws_3, ws_4, ws_5, ws_6, ws_7⟩ := cells_Thread his
    refine ⟨by omega, by omega, p, hp, _, hc 0 _ rfl, _, hc 1 _ rfl, _, hc 2 _ rfl, _, hc 3 _ rfl, _, hc 4 _ rfl, _, hc 5 _ rfl, _, hc 6 _ rfl, _, hc 7 _ rfl, (c112 (cs := [.int .i64 x_0, .int .i64 x_1, .int .i64 x_2, .int .i64 x_3, .int .i64 x_4, .int .i64 x_5, .int .i64 x_6, .int .i64 x_7]) ht0 his0 (by omega)).mono ?_⟩
    rintro _ w9 ⟨r, rfl, f, e9⟩
    have hr := f.is
    obtain ⟨rfl, wr_0, wr_1, wr_2, wr_3, wr_4, wr_5, wr_6, wr_7⟩ := cells_Thread hr
    obtain ⟨b1, ho, hn, hb⟩ := f
    obtain ⟨hm, hi2⟩ := hi.step hd e9 ho hn (fun c hc => (hb c hc).1) rfl
    refine ⟨_, _, _, _, _, _, _, _, rfl, by omega, by omega, _, rfl, hm, LetW_iff.2 ?_⟩
    rw [w64 (by omega) (by omega)]
    exact hJ _ _ ⟨k + 1, _, _, by omega, hi2⟩ (by omega)
  · exact ⟨⟨some ⟨w.heap.size, 0, none⟩, l.length, l.length⟩, rfl, (hi.done (by omega) hmax).fr, hi.ext⟩

/- toLock -/
theorem c113 {d : Dat} {cs : List Value} {w : World} (ht : Has TyLock d) (h : IsD w d cs) (hs : d.sz ≤ 4194304) : CallW Try.prog 113 #[.agg ⟨cs⟩] w (fun v w' => ∃ cs', v = .agg ⟨cs'⟩ ∧ Fr w.heap.size w'.heap.size w' d cs' ∧ Ext w w') := by
  obtain ⟨x_0, x_1, rfl⟩ := has_Lock ht
  obtain ⟨rfl, ws_0, ws_1⟩ := cells_Lock h
  show CallW Try.prog 113 #[.agg #[.int .i64 x_0, .int .i64 x_1]] w _
  refine go113 ?_
  unfold W113
  refine alloc_step (fun w1 e1 ha n1 => ?_)
  refine alloc_step (fun w2 e2 hc n2 => ?_)
  have ha := ha.ext e2
  refine alloc_step (fun w3 e3 hb n3 => ?_)
  have ha := ha.ext e3
  have hc := hc.ext e3
  have e := Only.trans e1 (Only.trans e2 e3)
  refine ⟨_, ha.cell 0, ?_⟩
  refine set_step hb (by simp) (fun w4 o4 hb n4 => ?_)
  have ha := ha.only o4 (by omega)
  have hc := hc.only o4 (by omega)
  have e := Ext.own e o4 (fun k hk => by omega)
  refine ⟨_, ha.cell 1, ?_⟩
  refine set_step hb (by simp) (fun w5 o5 hb n5 => ?_)
  have ha := ha.only o5 (by omega)
  have hc := hc.only o5 (by omega)
  have e := Ext.own e o5 (fun k hk => by omega)
  refine ⟨_, hb.cell 0, _, hb.cell 1, ?_⟩
  refine put_step hc rfl rfl (fun w6 o6 hc n6 => ?_)
  have e := Ext.own e o6 (fun k hk => by omega)
  refine ⟨_, hc.cell 0, _, hc.cell 1, ?_⟩
  exact ⟨[.int .i64 x_0, .int .i64 x_1], rfl, frF_st (frF_cons (m := w.heap.size) (fr_int ws_0) (frF_cons (m := w.heap.size) (fr_int ws_1) (frF_nil) (by omega) (by omega)) (by omega) (by omega)), e⟩

/- toLockS -/
theorem c51 {l : List Dat} {a0 : Sl} {w : World} (ht : ∀ e, e ∈ l → Has TyLock e) (h : IsD w (.sl 2 l) [.slice a0.a a0.len a0.cap]) (hs : (Dat.sl 2 l).sz ≤ 4194304) : CallW Try.prog 51 #[.slice a0.a a0.len a0.cap] w (fun v w' => ∃ s : Sl, v = .slice s.a s.len s.cap ∧ Fr w.heap.size w'.heap.size w' (.sl 2 l) [.slice s.a s.len s.cap] ∧ Ext w w') := by
  refine go51 ?_
  unfold W51
  obtain ⟨hlen, hmax, hel⟩ := isD_sl h
  simp only [Dat.sz] at hs
  rw [hlen]; simp only [Int.toNat_natCast]
  refine ⟨by omega, by omega, by omega, by omega, LetW_iff.2 ?_⟩
  have hs0 := ToInv.start (w := w) (z := 2) (zero := ti149.zero) (e := 149) l rfl
  generalize w.alloc (.cells ⟨zerosOf ti149.zero l.length⟩ 149) = w1 at *
  refine LoopW.m1 (fun (i : Int) w' => ∃ (k : Nat) (bs : List Nat) (vs : List Value), i = k ∧ ToInv w w' w.heap.size 2 l k bs vs) (fun (i : Int) _ => (l.length - i).toNat) ⟨0, [], _, rfl, hs0⟩ ?_
  rintro (i : Int) w4 ⟨k, bs, vs, rfl, hi⟩ J hJ
  refine BIf.dec (fun hlt => ?_) (fun hge => ?_)
  · obtain ⟨d, hd⟩ : ∃ d, l[k]? = some d := ⟨_, List.getElem?_eq_getElem (by omega)⟩
    have hsz := szs_get hd
    obtain ⟨p, es, hp, he, hc, his⟩ := isD_at (IsD.ext hi.ext _ _ h) hd
    have ht0 := ht d (mem_get hd)
    obtain ⟨x_0, x_1, rfl⟩ := has_Lock ht0
    have his0 := his
    obtain ⟨rfl, ws_0, ws_1⟩ := cells_Lock his
    refine ⟨by omega, by omega, p, hp, _, hc 0 _ rfl, _, hc 1 _ rfl, (c113 (cs := [.int .i64 x_0, .int .i64 x_1]) ht0 his0 (by omega)).mono ?_⟩
    rintro _ w9 ⟨r, rfl, f, e9⟩
    have hr := f.is
    obtain ⟨rfl, wr_0, wr_1⟩ := cells_Lock hr
    obtain ⟨b1, ho, hn, hb⟩ := f
    obtain ⟨hm, hi2⟩ := hi.step hd e9 ho hn (fun c hc => (hb c hc).1) rfl
    refine ⟨_, _, rfl, by omega, by omega, _, rfl, hm, LetW_iff.2 ?_⟩
    rw [w64 (by omega) (by omega)]
    exact hJ _ _ ⟨k + 1, _, _, by omega, hi2⟩ (by omega)
  · exact ⟨⟨some ⟨w.heap.size, 0, none⟩, l.length, l.length⟩, rfl, (hi.done (by omega) hmax).fr, hi.ext⟩

/- toSched -/
theorem c11 {d : Dat} {cs : List Value} {w : World} (ht : Has TySched d) (h : IsD w d cs) (hs : d.sz ≤ 4194304) : CallW Try.prog 11 #[.agg ⟨cs⟩] w (fun v w' => ∃ cs', v = .agg ⟨cs'⟩ ∧ Fr w.heap.size w'.heap.size w' d cs' ∧ Ext w w') := by
  obtain ⟨x_0, x_1, l_2, l_3, rfl, t_2, t_3⟩ := has_Sched ht
  obtain ⟨s_2, s_3, rfl, ws_0, ws_1, is_2, is_3⟩ := cells_Sched h
  show CallW Try.prog 11 #[.agg #[.int .i64 x_0, .int .i64 x_1, .slice s_2.a s_2.len s_2.cap, .slice s_3.a s_3.len s_3.cap]] w _
  refine go11 ?_
  unfold W11
  refine alloc_step (fun w1 e1 ha n1 => ?_)
  refine alloc_step (fun w2 e2 hc n2 => ?_)
  have ha := ha.ext e2
  refine alloc_step (fun w3 e3 hb n3 => ?_)
  have ha := ha.ext e3
  have hc := hc.ext e3
  have e := Only.trans e1 (Only.trans e2 e3)
  refine ⟨_, ha.cell 0, ?_⟩
  refine set_step hb (by simp) (fun w4 o4 hb n4 => ?_)
  have ha := ha.only o4 (by omega)
  have hc := hc.only o4 (by omega)
  have e := Ext.own e o4 (fun k hk => by omega)
  refine ⟨_, ha.cell 1, ?_⟩
  refine set_step hb (by simp) (fun w5 o5 hb n5 => ?_)
  have ha := ha.only o5 (by omega)
  have hc := hc.only o5 (by omega)
  have e := Ext.own e o5 (fun k hk => by omega)
  refine ⟨s_2, ha.cell 2, ?_⟩
  refine (c50 t_2 (IsD.ext e _ _ is_2) (by simp only [Dat.sz, Dat.szs] at hs ⊢; omega)).mono ?_
  rintro _ w6 ⟨r_2, rfl, f_2, e6⟩
  refine ⟨r_2, rfl, ?_⟩
  have ha := ha.ext e6
  have hb := hb.ext e6
  have hc := hc.ext e6
  have e := Only.trans e e6
  have z6 := e6.size
  refine set_step hb (by simp) (fun w7 o7 hb n7 => ?_)
  have ha := ha.only o7 (by omega)
  have hc := hc.only o7 (by omega)
  have e := Ext.own e o7 (fun k hk => by omega)
  have f_2 := f_2.only o7 (fun k _ _ => by omega)
  refine ⟨s_3, ha.cell 3, ?_⟩
  refine (c51 t_3 (IsD.ext e _ _ is_3) (by simp only [Dat.sz, Dat.szs] at hs ⊢; omega)).mono ?_
  rintro _ w8 ⟨r_3, rfl, f_3, e8⟩
  refine ⟨r_3, rfl, ?_⟩
  have ha := ha.ext e8
  have hb := hb.ext e8
  have hc := hc.ext e8
  have e := Only.trans e e8
  have z8 := e8.size
  have f_2 := f_2.ext e8
  refine set_step hb (by simp) (fun w9 o9 hb n9 => ?_)
  have ha := ha.only o9 (by omega)
  have hc := hc.only o9 (by omega)
  have e := Ext.own e o9 (fun k hk => by omega)
  have f_2 := f_2.only o9 (fun k _ _ => by omega)
  have f_3 := f_3.only o9 (fun k _ _ => by omega)
  refine ⟨_, hb.cell 0, _, hb.cell 1, r_2, hb.cell 2, r_3, hb.cell 3, ?_⟩
  refine put_step hc rfl rfl (fun w10 o10 hc n10 => ?_)
  have e := Ext.own e o10 (fun k hk => by omega)
  have f_2 := f_2.only o10 (fun k _ _ => by omega)
  have f_3 := f_3.only o10 (fun k _ _ => by omega)
  refine ⟨_, hc.cell 0, _, hc.cell 1, r_2, hc.cell 2, r_3, hc.cell 3, ?_⟩
  exact ⟨[.int .i64 x_0, .int .i64 x_1, .slice r_2.a r_2.len r_2.cap, .slice r_3.a r_3.len r_3.cap], rfl, frF_st (frF_cons (m := w.heap.size) (fr_int ws_0) (frF_cons (m := w.heap.size) (fr_int ws_1) (frF_cons (m := w6.heap.size) (f_2.mono (by omega) (Nat.le_refl _)) (frF_cons (m := w8.heap.size) (f_3.mono (by omega) (Nat.le_refl _)) (frF_nil) (by omega) (by omega)) (by omega) (by omega)) (by omega) (by omega)) (by omega) (by omega)), e⟩

/- szThreadS -/
theorem c46 {l : List Dat} {a0 : Sl} {left : Int} {w : World} (ht : ∀ e, e ∈ l → Has TyThread e) (h : IsD w (.sl 8 l) [.slice a0.a a0.len a0.cap]) (h0 : 0 ≤ left) (hl : left ≤ 4611686018427387904) : CallW Try.prog 46 #[.slice a0.a a0.len a0.cap, .int .i64 left] w (fun v w' => SzPost (Dat.sl 8 l).sz left v ∧ Ext w w') := by
  refine go46 ?_
  unfold W46
  obtain ⟨hlen, hmax, hel⟩ := isD_sl h
  have hmx : maxLen = 9223372036854775807 := rfl
  rw [hlen, w64 (by omega) (by omega)]
  have hz : Dat.szs l = 0 := by
    refine szs_zero (fun d hd => ?_)
    have ht0 := ht d hd
    obtain ⟨x_0, x_1, x_2, x_3, x_4, x_5, x_6, x_7, rfl⟩ := has_Thread ht0
    rfl
  refine BIf.dec (fun hn => ⟨⟨_, rfl, .inr ⟨by omega, by simp only [Dat.sz]; omega⟩⟩, Only.refl _ _⟩) (fun hp => ⟨⟨_, rfl, .inl ⟨by simp only [Dat.sz]; omega, by omega⟩⟩, Only.refl _ _⟩)

/- szLockS -/
theorem c47 {l : List Dat} {a0 : Sl} {left : Int} {w : World} (ht : ∀ e, e ∈ l → Has TyLock e) (h : IsD w (.sl 2 l) [.slice a0.a a0.len a0.cap]) (h0 : 0 ≤ left) (hl : left ≤ 4611686018427387904) : CallW Try.prog 47 #[.slice a0.a a0.len a0.cap, .int .i64 left] w (fun v w' => SzPost (Dat.sl 2 l).sz left v ∧ Ext w w') := by
  refine go47 ?_
  unfold W47
  obtain ⟨hlen, hmax, hel⟩ := isD_sl h
  have hmx : maxLen = 9223372036854775807 := rfl
  rw [hlen, w64 (by omega) (by omega)]
  have hz : Dat.szs l = 0 := by
    refine szs_zero (fun d hd => ?_)
    have ht0 := ht d hd
    obtain ⟨x_0, x_1, rfl⟩ := has_Lock ht0
    rfl
  refine BIf.dec (fun hn => ⟨⟨_, rfl, .inr ⟨by omega, by simp only [Dat.sz]; omega⟩⟩, Only.refl _ _⟩) (fun hp => ⟨⟨_, rfl, .inl ⟨by simp only [Dat.sz]; omega, by omega⟩⟩, Only.refl _ _⟩)

/- szSched -/
theorem c9 {d : Dat} {cs : List Value} {left : Int} {w : World} (ht : Has TySched d) (h : IsD w d cs) (h0 : 0 ≤ left) (hl : left ≤ 4611686018427387904) : CallW Try.prog 9 #[.agg ⟨cs⟩, .int .i64 left] w (fun v w' => SzPost d.sz left v ∧ Ext w w') := by
  obtain ⟨x_0, x_1, l_2, l_3, rfl, t_2, t_3⟩ := has_Sched ht
  obtain ⟨s_2, s_3, rfl, ws_0, ws_1, is_2, is_3⟩ := cells_Sched h
  show CallW Try.prog 9 #[.agg #[.int .i64 x_0, .int .i64 x_1, .slice s_2.a s_2.len s_2.cap, .slice s_3.a s_3.len s_3.cap], .int .i64 left] w _
  refine go9 ?_
  unfold W9
  refine alloc_step (fun w1 e ha n1 => ?_)
  have hmx : maxLen = 9223372036854775807 := rfl
  have hx : (0 : Int) ≤ left ∧ left ≤ left := ⟨h0, Int.le_refl _⟩
  have hd := Int.sub_zero left
  refine ⟨s_2, ha.cell 2, (c46 t_2 (IsD.ext e _ _ is_2) (by omega) (by omega)).mono ?_⟩
  rintro _ w2 ⟨⟨r2, rfl, hr2⟩, e2⟩
  have ha := ha.ext e2
  have e := Only.trans e e2
  refine ⟨r2, rfl, BIf.dec (fun hn => ⟨⟨_, rfl, .inr ⟨by omega, by simp only [Dat.sz, Dat.szs] at *; omega⟩⟩, e⟩) (fun hp2 => ?_)⟩
  refine ⟨s_3, ha.cell 3, (c47 t_3 (IsD.ext e _ _ is_3) (by omega) (by omega)).mono ?_⟩
  rintro _ w3 ⟨⟨r3, rfl, hr3⟩, e3⟩
  have ha := ha.ext e3
  have e := Only.trans e e3
  refine ⟨r3, rfl, BIf.dec (fun hn => ⟨⟨_, rfl, .inr ⟨by omega, by simp only [Dat.sz, Dat.szs] at *; omega⟩⟩, e⟩) (fun hp3 => ?_)⟩
  exact ⟨⟨_, rfl, .inl ⟨by simp only [Dat.sz, Dat.szs] at *; omega, by omega⟩⟩, e⟩

/- eqThread -/
theorem c119 {d : Dat} {cs1 cs2 : List Value} {w : World} (ht : Has TyThread d) (h : IsD w d cs1) (h2 : IsD w d cs2) : CallW Try.prog 119 #[.agg ⟨cs1⟩, .agg ⟨cs2⟩] w (fun v w' => v = .bool true ∧ Ext w w') := by
  obtain ⟨x_0, x_1, x_2, x_3, x_4, x_5, x_6, x_7, rfl⟩ := has_Thread ht
  obtain ⟨rfl, ws_0, ws_1, ws_2, ws_3, ws_4, ws_5, ws_6, ws_7⟩ := cells_Thread h
  obtain ⟨rfl, wu_0, wu_1, wu_2, wu_3, wu_4, wu_5, wu_6, wu_7⟩ := cells_Thread h2
  show CallW Try.prog 119 #[.agg #[.int .i64 x_0, .int .i64 x_1, .int .i64 x_2, .int .i64 x_3, .int .i64 x_4, .int .i64 x_5, .int .i64 x_6, .int .i64 x_7], .agg #[.int .i64 x_0, .int .i64 x_1, .int .i64 x_2, .int .i64 x_3, .int .i64 x_4, .int .i64 x_5, .int .i64 x_6, .int .i64 x_7]] w _
  refine go119 ?_
  unfold W119
  refine alloc_step (fun w1 e1 ha n1 => ?_)
  refine alloc_step (fun w2 e2 hb n2 => ?_)
  have ha := ha.ext e2
  have e := Only.trans e1 e2
  refine ⟨_, ha.cell 0, _, hb.cell 0, BIf.f (by simp) ?_⟩
  refine ⟨_, ha.cell 1, _, hb.cell 1, BIf.f (by simp) ?_⟩
  refine ⟨_, ha.cell 2, _, hb.cell 2, BIf.f (by simp) ?_⟩
  refine ⟨_, ha.cell 3, _, hb.cell 3, BIf.f (by simp) ?_⟩
  refine ⟨_, ha.cell 4, _, hb.cell 4, BIf.f (by simp) ?_⟩
  refine ⟨_, ha.cell 5, _, hb.cell 5, BIf.f (by simp) ?_⟩
  refine ⟨_, ha.cell 6, _, hb.cell 6, BIf.f (by simp) ?_⟩
  refine ⟨_, ha.cell 7, _, hb.cell 7, BIf.f (by simp) ?_⟩
  exact ⟨rfl, e⟩

/- eqThreadS -/
theorem c54 {l : List Dat} {a0 a1 : Sl} {w : World} (ht : ∀ e, e ∈ l → Has TyThread e) (h : IsD w (.sl 8 l) [.slice a0.a a0.len a0.cap]) (h2 : IsD w (.sl 8 l) [.slice a1.a a1.len a1.cap]) : CallW Try.prog 54 #[.slice a0.a a0.len a0.cap, .slice a1.a a1.len a1.cap] w (fun v w' => v = .bool true ∧ Ext w w') := by
  refine go54 ?_
  unfold W54
  obtain ⟨hlen, hmax, hel⟩ := isD_sl h
  obtain ⟨hlen2, _, hel2⟩ := isD_sl h2
  have hmx : maxLen = 9223372036854775807 := rfl
  rw [hlen, hlen2]
  refine BIf.f (by simp) ?_
  refine LoopW.m1 (fun (i : Int) w' => ∃ k : Nat, i = k ∧ k ≤ l.length ∧ Ext w w') (fun (i : Int) _ => (l.length - i).toNat) ⟨0, rfl, by omega, Only.refl _ _⟩ ?_
  rintro (i : Int) w4 ⟨k, rfl, hk, e4⟩ J hJ
  refine BIf.dec (fun hlt => ?_) (fun hge => ⟨rfl, e4⟩)
  obtain ⟨d, hd⟩ : ∃ d, l[k]? = some d := ⟨_, List.getElem?_eq_getElem (by omega)⟩
  have e4 := Only.trans e4 (ext_drew w4)
  obtain ⟨p, es, hp, he, hc, his⟩ := isD_at (IsD.ext e4 _ _ h) hd
  obtain ⟨p2, es2, hp2, he2, hc2, his2⟩ := isD_at (IsD.ext e4 _ _ h2) hd
  have ht0 := ht d (mem_get hd)
  have ht1 := ht0
  obtain ⟨x_0, x_1, x_2, x_3, x_4, x_5, x_6, x_7, rfl⟩ := has_Thread ht1
  have his0 := his
  have his20 := his2
  obtain ⟨rfl, ws_0, ws_1, ws_2, ws_3, ws_4, ws_5, ws_6, ws_7⟩ := cells_Thread his
  obtain ⟨rfl, wu_0, wu_1, wu_2, wu_3, wu_4, wu_5, wu_6, wu_7⟩ := cells_Thread his2
  refine ⟨by omega, by omega, p, hp, _, hc 0 _ rfl, _, hc 1 _ rfl, _, hc 2 _ rfl, _, hc 3 _ rfl, _, hc 4 _ rfl, _, hc 5 _ rfl, _, hc 6 _ rfl, _, hc 7 _ rfl, by omega, by omega, p2, hp2, _, hc2 0 _ rfl, _, hc2 1 _ rfl, _, hc2 2 _ rfl, _, hc2 3 _ rfl, _, hc2 4 _ rfl, _, hc2 5 _ rfl, _, hc2 6 _ rfl, _, hc2 7 _ rfl, (c119 (cs1 := [.int .i64 x_0, .int .i64 x_1, .int .i64 x_2, .int .i64 x_3, .int .i64 x_4, .int .i64 x_5, .int .i64 x_6, .int .i64 x_7]) (cs2 := [.int .i64 x_0, .int .i64 x_1, .int .i64 x_2, .int .i64 x_3, .int .i64 x_4, .int .i64 x_5, .int .i64 x_6, .int .i64 x_7]) ht0 his0 his20).mono ?_⟩
  rintro _ w9 ⟨rfl, e9⟩
  refine ⟨true, rfl, BIf.f rfl ?_⟩
  rw [w64 (by omega) (by omega)]
  exact hJ _ _ ⟨k + 1, by omega, by omega, Only.trans e4 e9⟩ (by omega)

/- eqLock -/
theorem c120 {d : Dat} {cs1 cs2 : List Value} {w : World} (ht : Has TyLock d) (h : IsD w d cs1) (h2 : IsD w d cs2) : CallW Try.prog 120 #[.agg ⟨cs1⟩, .agg ⟨cs2⟩] w (fun v w' => v = .bool true ∧ Ext w w') := by
  obtain ⟨x_0, x_1, rfl⟩ := has_Lock ht
  obtain ⟨rfl, ws_0, ws_1⟩ := cells_Lock h
  obtain ⟨rfl, wu_0, wu_1⟩ := cells_Lock h2
  show CallW Try.prog 120 #[.agg #[.int .i64 x_0, .int .i64 x_1], .agg #[.int .i64 x_0, .int .i64 x_1]] w _
  refine go120 ?_
  unfold W120
  refine alloc_step (fun w1 e1 ha n1 => ?_)
  refine alloc_step (fun w2 e2 hb n2 => ?_)
  have ha := ha.ext e2
  have e := Only.trans e1 e2
  refine ⟨_, ha.cell 0, _, hb.cell 0, BIf.f (by simp) ?_⟩
  refine ⟨_, ha.cell 1, _, hb.cell 1, BIf.f (by simp) ?_⟩
  exact ⟨rfl, e⟩

/- eqLockS -/
theorem c55 {l : List Dat} {a0 a1 : Sl} {w : World} (ht : ∀ e, e ∈ l → Has TyLock e) (h : IsD w (.sl 2 l) [.slice a0.a a0.len a0.cap]) (h2 : IsD w (.sl 2 l) [.slice a1.a a1.len a1.cap]) : CallW Try.prog 55 #[.slice a0.a a0.len a0.cap, .slice a1.a a1.len a1.cap] w (fun v w' => v = .bool true ∧ Ext w w') := by
  refine go55 ?_
  unfold W55
  obtain ⟨hlen, hmax, hel⟩ := isD_sl h
  obtain ⟨hlen2, _, hel2⟩ := isD_sl h2
  have hmx : maxLen = 9223372036854775807 := rfl
  rw [hlen, hlen2]
  refine BIf.f (by simp) ?_
  refine LoopW.m1 (fun (i : Int) w' => ∃ k : Nat, i = k ∧ k ≤ l.length ∧ Ext w w') (fun (i : Int) _ => (l.length - i).toNat) ⟨0, rfl, by omega, Only.refl _ _⟩ ?_
  rintro (i : Int) w4 ⟨k, rfl, hk, e4⟩ J hJ
  refine BIf.dec (fun hlt => ?_) (fun hge => ⟨rfl, e4⟩)
  obtain ⟨d, hd⟩ : ∃ d, l[k]? = some d := ⟨_, List.getElem?_eq_getElem (by omega)⟩
  have e4 := Only.trans e4 (ext_drew w4)
  obtain ⟨p, es, hp, he, hc, his⟩ := isD_at (IsD.ext e4 _ _ h) hd
  obtain ⟨p2, es2, hp2, he2, hc2, his2⟩ := isD_at (IsD.ext e4 _ _ h2) hd
  have ht0 := ht d (mem_get hd)
  have ht1 := ht0
  obtain ⟨x_0, x_1, rfl⟩ := has_Lock ht1
  have his0 := his
  have his20 := his2
  obtain ⟨rfl, ws_0, ws_1⟩ := cells_Lock his
  obtain ⟨rfl, wu_0, wu_1⟩ := cells_Lock his2
  refine ⟨by omega, by omega, p, hp, _, hc 0 _ rfl, _, hc 1 _ rfl, by omega, by omega, p2, hp2, _, hc2 0 _ rfl, _, hc2 1 _ rfl, (c120 (cs1 := [.int .i64 x_0, .int .i64 x_1]) (cs2 := [.int .i64 x_0, .int .i64 x_1]) ht0 his0 his20).mono ?_⟩
  rintro _ w9 ⟨rfl, e9⟩
  refine ⟨true, rfl, BIf.f rfl ?_⟩
  rw [w64 (by omega) (by omega)]
  exact hJ _ _ ⟨k + 1, by omega, by omega, Only.trans e4 e9⟩ (by omega)

/- eqSched -/
theorem c13 {d : Dat} {cs1 cs2 : List Value} {w : World} (ht : Has TySched d) (h : IsD w d cs1) (h2 : IsD w d cs2) : CallW Try.prog 13 #[.agg ⟨cs1⟩, .agg ⟨cs2⟩] w (fun v w' => v = .bool true ∧ Ext w w') := by
  obtain ⟨x_0, x_1, l_2, l_3, rfl, t_2, t_3⟩ := has_Sched ht
  obtain ⟨s_2, s_3, rfl, ws_0, ws_1, is_2, is_3⟩ := cells_Sched h
  obtain ⟨u_2, u_3, rfl, wu_0, wu_1, iu_2, iu_3⟩ := cells_Sched h2
  show CallW Try.prog 13 #[.agg #[.int .i64 x_0, .int .i64 x_1, .slice s_2.a s_2.len s_2.cap, .slice s_3.a s_3.len s_3.cap], .agg #[.int .i64 x_0, .int .i64 x_1, .slice u_2.a u_2.len u_2.cap, .slice u_3.a u_3.len u_3.cap]] w _
  refine go13 ?_
  unfold W13
  refine alloc_step (fun w1 e1 ha n1 => ?_)
  refine alloc_step (fun w2 e2 hb n2 => ?_)
  have ha := ha.ext e2
  have e := Only.trans e1 e2
  refine ⟨_, ha.cell 0, _, hb.cell 0, BIf.f (by simp) ?_⟩
  refine ⟨_, ha.cell 1, _, hb.cell 1, BIf.f (by simp) ?_⟩
  refine ⟨s_2, ha.cell 2, u_2, hb.cell 2, (c54 t_2 (IsD.ext e _ _ is_2) (IsD.ext e _ _ iu_2)).mono ?_⟩
  rintro _ w3 ⟨rfl, e3⟩
  have ha := ha.ext e3
  have hb := hb.ext e3
  have e := Only.trans e e3
  refine ⟨true, rfl, BIf.f rfl ?_⟩
  refine ⟨s_3, ha.cell 3, u_3, hb.cell 3, (c55 t_3 (IsD.ext e _ _ is_3) (IsD.ext e _ _ iu_3)).mono ?_⟩
  rintro _ w4 ⟨rfl, e4⟩
  have ha := ha.ext e4
  have hb := hb.ext e4
  have e := Only.trans e e4
  refine ⟨true, rfl, BIf.f rfl ?_⟩
  exact ⟨rfl, e⟩

end Go.Proofs.Ytenhcpjlkmbedaa

/- The walk of a law: copies, both sides, comparisons; printed by a program. Conditions: none. -/
set_option linter.unusedVariables false
set_option linter.unusedSimpArgs false
set_option maxRecDepth 4000
namespace Go.Proofs.Ytenhcpjlkmbedaa
open Go Go.Den
theorem goc3 {a0_0 : Int} {a0_1 : Int} {a0_2 : Sl} {a0_3 : Sl} {w : World} {K : Value → World → Prop} (h : W3 a0_0 a0_1 a0_2 a0_3 w K) : Calls Try.prog 3 #[.agg #[.int .i64 a0_0, .int .i64 a0_1, .slice a0_2.a a0_2.len a0_2.cap, .slice a0_3.a a0_3.len a0_3.cap]] w (fun e w' => ∃ v, e = .returned v ∧ K v w') :=
  denFn_sound tt_ok mix Try.func3 (by kernel_rfl) (eq3 a0_0 a0_1 a0_2 a0_3 w K ▸ h)
theorem walk3 {w : World} {x : DSched} {cs0 : List Value} (h0 : IsD w (x.dat) cs0) : Calls Try.prog 3 #[.agg ⟨cs0⟩] w (fun e w' => ∃ v, e = .returned v ∧ (v = .bool true ∧ Ext w w')) := by
  obtain ⟨p0_2, p0_3, rfl, _, _, _, _⟩ := cells_Sched h0
  refine goc3 ?_
  unfold W3
  refine alloc_step (fun w1 ew1 hbw1 nw1 => ?_)
  have e := ew1
  have zw1 := ew1.size
  refine ⟨_, hbw1.cell 0, ?_⟩
  refine ⟨_, hbw1.cell 1, ?_⟩
  refine ⟨p0_2, hbw1.cell 2, ?_⟩
  refine ⟨p0_3, hbw1.cell 3, ?_⟩
  refine (c9 (DSched.has _) (IsD.ext e _ _ h0) (by omega) (by omega)).mono ?_
  rintro _ w7 ⟨⟨rw7, rfl, hrw7⟩, ew7⟩
  have hbw1 := hbw1.ext ew7
  have e := Only.trans e ew7
  have zw7 := ew7.size
  refine ⟨_, rfl, ?_⟩
  refine BIf.dec (fun hn => ⟨rfl, e⟩) (fun hpw7 => ?_)
  have sz0 : (x.dat).sz ≤ 1048576 := by omega
  refine ⟨_, hbw1.cell 0, ?_⟩
  refine ⟨_, hbw1.cell 1, ?_⟩
  refine ⟨p0_2, hbw1.cell 2, ?_⟩
  refine ⟨p0_3, hbw1.cell 3, ?_⟩
  refine (c11 (DSched.has _) (IsD.ext e _ _ h0) (by have := sz0; omega)).mono ?_
  rintro _ w14 ⟨yw14, rfl, fw14, ew14⟩
  have hbw1 := hbw1.ext ew14
  have e := Only.trans e ew14
  have zw14 := ew14.size
  have hiyw14 := fw14.is
  obtain ⟨ryw14_2, ryw14_3, rfl, _, _, _, _⟩ := cells_Sched hiyw14
  refine ⟨_, _, ryw14_2, ryw14_3, rfl, ?_⟩
  refine (specPick fw14.is sz0).mono ?_
  rintro _ w20 ⟨rfl, ew20⟩
  have hbw1 := hbw1.ext ew20
  have fw14 := fw14.ext ew20
  have e := Only.trans e ew20
  have zw20 := ew20.size
  refine ⟨_, rfl, ?_⟩
  refine ⟨_, hbw1.cell 0, ?_⟩
  refine ⟨_, hbw1.cell 1, ?_⟩
  refine ⟨p0_2, hbw1.cell 2, ?_⟩
  refine ⟨p0_3, hbw1.cell 3, ?_⟩
  refine (c11 (DSched.has _) (IsD.ext e _ _ h0) (by have := sz0; omega)).mono ?_
  rintro _ w27 ⟨yw27, rfl, fw27, ew27⟩
  have hbw1 := hbw1.ext ew27
  have fw14 := fw14.ext ew27
  have e := Only.trans e ew27
  have zw27 := ew27.size
  have hiyw27 := fw27.is
  obtain ⟨ryw27_2, ryw27_3, rfl, _, _, _, _⟩ := cells_Sched hiyw27
  refine ⟨_, _, ryw27_2, ryw27_3, rfl, ?_⟩
  refine alloc_step (fun w32 ew32 hbw32 nw32 => ?_)
  have hbw1 := hbw1.ext ew32
  have fw14 := fw14.ext ew32
  have fw27 := fw27.ext ew32
  have e := Only.trans e ew32
  have zw32 := ew32.size
  refine put_step hbw32 rfl rfl (fun w33 ow33 hbw32q nw33 => ?_)
  have hbw1 := hbw1.only ow33 (by omega)
  have fw14 := fw14.only ow33 (fun k h1 h2 => by omega)
  have fw27 := fw27.only ow33 (fun k h1 h2 => by omega)
  have e := Ext.own e ow33 (fun k hk => by omega)
  have hbw32 := hbw32q
  refine ⟨_, hbw32.cell 0, ?_⟩
  refine ⟨_, hbw32.cell 1, ?_⟩
  refine ⟨ryw27_2, hbw32.cell 2, ?_⟩
  refine ⟨ryw27_3, hbw32.cell 3, ?_⟩
  refine (implPick fw27.is sz0).mono ?_
  rintro _ w39 ⟨rfl, ew39⟩
  have hbw1 := hbw1.ext ew39
  have hbw32 := hbw32.ext ew39
  have fw14 := fw14.ext ew39
  have fw27 := fw27.ext ew39
  have e := Only.trans e ew39
  have zw39 := ew39.size
  refine ⟨_, rfl, ?_⟩
  refine BIf.f (by simp) ?_
  have ed := ext_drew w39
  have hbw1 := hbw1.ext ed
  have hbw32 := hbw32.ext ed
  have fw14 := fw14.ext ed
  have fw27 := fw27.ext ed
  have e := Only.trans e ed
  have zw39_drew := ed.size
  refine ⟨_, hbw32.cell 0, ?_⟩
  refine ⟨_, hbw32.cell 1, ?_⟩
  refine ⟨ryw27_2, hbw32.cell 2, ?_⟩
  refine ⟨ryw27_3, hbw32.cell 3, ?_⟩
  refine ⟨_, hbw1.cell 0, ?_⟩
  refine ⟨_, hbw1.cell 1, ?_⟩
  refine ⟨p0_2, hbw1.cell 2, ?_⟩
  refine ⟨p0_3, hbw1.cell 3, ?_⟩
  refine (c11 (DSched.has _) (IsD.ext e _ _ h0) (by have := sz0; omega)).mono ?_
  rintro _ w50 ⟨yw50, rfl, fw50, ew50⟩
  have hbw1 := hbw1.ext ew50
  have hbw32 := hbw32.ext ew50
  have fw14 := fw14.ext ew50
  have fw27 := fw27.ext ew50
  have e := Only.trans e ew50
  have zw50 := ew50.size
  have hiyw50 := fw50.is
  obtain ⟨ryw50_2, ryw50_3, rfl, _, _, _, _⟩ := cells_Sched hiyw50
  refine ⟨_, _, ryw50_2, ryw50_3, rfl, ?_⟩
  refine ⟨⟨_, hbw32.cell 0, _, hbw32.cell 1, ryw27_2, hbw32.cell 2, ryw27_3, hbw32.cell 3, rfl⟩, ?_⟩
  refine (c13 (DSched.has _) fw27.is fw50.is).mono ?_
  rintro _ w60 ⟨rfl, ew60⟩
  have hbw1 := hbw1.ext ew60
  have hbw32 := hbw32.ext ew60
  have fw14 := fw14.ext ew60
  have fw27 := fw27.ext ew60
  have fw50 := fw50.ext ew60
  have e := Only.trans e ew60
  have zw60 := ew60.size
  refine ⟨_, rfl, ?_⟩
  refine BIf.f rfl ?_
  exact ⟨by trivial, e⟩
open Go.RowKit in
theorem law_calls3 {w : World} {c0 : Array Value} {x : DSched} (h0 : cDSched.is w c0.toList x) : Calls Try.prog 3 #[.agg c0] w (fun e w' => e = .returned (.bool true) ∧ Below w.heap.size w w') :=
  (walk3 (cDSched_dat h0)).mono (by rintro e w' ⟨v, rfl, rfl, he⟩; exact ⟨rfl, he.below⟩)
end Go.Proofs.Ytenhcpjlkmbedaa

/- The row of the law FnExactPick: what its walk shows is what the statement says. Conditions: none. -/
namespace Go.Proofs.Ytenhcpjlkmbedaa.fnExactPick
open Go.ChangeShapes Go.WideShapes Go.ChangeAt Go.RowKit
open Go.ChangeMaps (open_string shut_string)
set_option linter.unusedVariables false
theorem own : ownKnob Try.prog.godebug = none := by kernel_rfl
theorem laidOut : laidOutB Try.prog = true := by kernel_rfl
set_option maxRecDepth 100000 in
theorem lifted (os : Os) (started : os.Started) (H : Type) (enc : TypeId × Value → H) :
    ReturnsInHanded {} Try.checked os 3 .any (Rows.fnExactPickSpec.pre6 enc Try.prog Try.f3 Rows.fnExactPickRow.domain false) (Rows.fnExactPickSpec.post enc Try.prog Try.f3 false true false false) := by
  refine returnsInHanded_of_change_sized (C := Try.checked) own started (by kernel_rfl) Try.func3
    (ChangeSpec.witness6 (enc := enc) (C := Try.checked) false ⟨#[], #[.agg #[.int .i64 0, .int .i64 0, .slice none 0 0, .slice none 0 0]], []⟩ 8 (by kernel_rfl) (by kernel_rfl) (by kernel_rfl) (by kernel_rfl)) ?_
  intro W base args ds gs before hval0 hW hcnd hsz0 _
  have hsz : (DataW.weightsEach Try.prog (Try.f3.params.toList ++ Rows.fnExactPickSpec.plain.varTypes Try.prog) (ds ++ gs)).all (· ≤ reachBytes) = true := hsz0
  have hval : ∀ (j : Nat) t v, Try.f3.params[j]? = some t → args[j]? = some v → Value.okWide Try.prog W .any base t v := hval0
  have hW' := hW
  obtain ⟨p, q, hA0, hV, rfl, hfz, hnd⟩ := hW
  have hA : DataW.TrodAll enc Try.prog W 0 (fun _ => true) true Try.f3.params.toList args.toList ds p := hA0
  rw [Try.params3] at hA hval hsz
  obtain ⟨v0, vs0, d0, ds0, p0, q0, hargs, rfl, rfl, h0, r0⟩ := trodAll_cons hA
  obtain ⟨rfl, rfl, rfl⟩ := trodAll_nil r0
  obtain rfl : args = #[v0] := by cases args; simp_all
  obtain ⟨rfl, rfl⟩ := trodVars_none hV
  have k0 := h0
  have lt0 : ∀ x ∈ p0, x.block < W.heap.size := by obtain ⟨m, hm⟩ := k0; exact DataW.trod_lt m _ _ _ hm
  obtain ⟨c0, rfl⟩ : ∃ cs, v0 = .agg cs := by have hv := (hval 0 25 v0 rfl rfl); unfold Value.okWide at hv; rw [Try.underlying25] at hv; exact ⟨hv.choose, hv.choose_spec.1⟩
  obtain ⟨x0, w0⟩ : ∃ x, (cDSched).is W c0.toList x := by obtain ⟨fuel, hf⟩ := h0; exact ((o25).at_ enc W fuel _ _ hf).2
  clear hA0 hval0 hsz0 hsz
  refine (law_calls3 w0).mono fun e W' ⟨he, bel⟩ => ?_
  subst he
  exact ⟨_, rfl, _, _, _, [], _, [], hW', trodAll_mk1 (shut_bool Try.underlying4 _), (trodAll_cons_mk (Below.trod laidOut (by kernel_rfl) (of_decide_eq_true (by kernel_rfl)) k0 bel lt0) trodAll_mk0), rfl, bel.frame _, fun h => by cases h⟩
theorem over : Rows.fnExactPickRow.holds Try.pinned (OpenSpec.ofChange Rows.fnExactPickSpec) :=
  OpenClaim.holds_of_wide 3 Try.f3 rfl rfl rfl rfl rfl rfl rfl ⟨rfl, rfl, rfl, rfl, rfl⟩ rfl rfl rfl rfl rfl (by kernel_rfl) Try.func3 (by kernel_rfl)
    (of_decide_eq_true (by kernel_rfl)) (by unfold Func.isWrapper; first | (rw [if_pos (by decide +kernel)]; kernel_rfl) | (rw [if_neg (by decide +kernel)]; exact ⟨rfl, rfl⟩))
    (fun os started H enc _ => lifted os started H enc)
theorem proved : Rows.FnExactPickSaid := over
#print axioms proved
end Go.Proofs.Ytenhcpjlkmbedaa.fnExactPick
namespace Go.Proofs.Ytenhcpjlkmbedaa
/-- The row, under a short name, for the claim. -/
theorem fnExactPick_holds : Rows.FnExactPickSaid := fnExactPick.proved
end Go.Proofs.Ytenhcpjlkmbedaa
