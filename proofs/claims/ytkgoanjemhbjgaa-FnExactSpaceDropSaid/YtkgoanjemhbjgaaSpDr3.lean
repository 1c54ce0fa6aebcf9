/- Part 3 of 7: plain readings of code, rules for them, and a proof over them, joined by a program. Conditions: none. -/
import Derived.Test.YtkgoanjemhbjgaaSpDr2
import Derived.Test.YtkgoanjemhbjgaaProg
/- Lent rows of records; places of elements; bits of 64-bit numbers. Conditions: none. -/
set_option linter.unusedVariables false
set_option linter.unusedSimpArgs false
namespace Go.Den
open Go
/-- A row of records that is lent. -/
structure RecsAt {α : Type} (w : World) (s : Sl) (z : Nat) (f : α → List Value) (l : List α) : Prop where
  len : s.len = l.length
  row : RowAt w s.a (s.len * z) (l.flatMap f)
  few : l.length ≤ 1099511627776
  fz : ∀ x, (f x).length = z
theorem RecsAt.ext {α : Type} {w w' : World} {s : Sl} {z : Nat} {f : α → List Value} {l : List α} (h : RecsAt w s z f l) (e : Ext w w') : RecsAt w' s z f l := ⟨h.len, e.row h.row, h.few, h.fz⟩
theorem RecsAt.get {α : Type} {w : World} {s : Sl} {z : Nat} {f : α → List Value} {l : List α} (h : RecsAt w s z f l) (hz : 0 < z) {i : Nat} {x : α} (hx : l[i]? = some x) : ∃ p, s.a = some p ∧ ∀ j v, (f x)[j]? = some v → w.cell? ((p.add (i * z)).add j) = some v :=
  RowAt.elem h.fz h.row hx hz
theorem SH.recsAt {α : Type} {w0 w : World} {As : List Asr} (h : SH w0 w As) (n : Nat) {s : Sl} {z : Nat} {f : α → List Value} {l : List α} (hA : As[n]? = some (aRow s z (recs f l))) (hf : ∀ x, (f x).length = z) (hl : l.length ≤ 1099511627776) : RecsAt w s z f l :=
  ⟨by rw [h.len n hA, recs_len], h.rowR n hA, hl, hf⟩
/-- The place of an element; nil, if there is none. -/
def ptrE (s : Sl) (z : Nat) (i : Int) : Option Addr := if i < 0 then none else s.a.map (fun q => q.add (i.toNat * z))
theorem ptrE_neg {s : Sl} {z : Nat} {i : Int} (h : i < 0) : ptrE s z i = none := by unfold ptrE; rw [if_pos h]
theorem ptrE_at {s : Sl} {z : Nat} {k : Nat} {q : Addr} (hq : s.a = some q) : ptrE s z (k : Int) = some (q.add (k * z)) := by unfold ptrE; rw [if_neg (by omega), hq]; rfl
theorem idx_at {α : Type} {p : α → Bool} {l : List α} {k : Nat} {x : α} (hx : l[k]? = some x) (hp : p x = true) (hno : ∀ (j : Nat) (y : α), j < k → l[j]? = some y → p y = false) : idxFrom p l 0 = k := by
  rcases idxFrom_spec p l 0 with ⟨_, h2⟩ | ⟨i, y, h1, h2, h3, h4⟩
  · rw [h2 x (List.mem_of_getElem? hx)] at hp; cases hp
  · have h5 : ¬ i < k := fun hh => by rw [hno i y hh h2] at h3; cases h3
    have h6 : ¬ k < i := fun hh => by rw [h4 k x hh hx] at hp; cases hp
    rw [h1]; omega
theorem idx_no {α : Type} {p : α → Bool} {l : List α} (hno : ∀ (j : Nat) (y : α), l[j]? = some y → p y = false) : idxFrom p l 0 = -1 := by
  rcases idxFrom_spec p l 0 with ⟨h1, _⟩ | ⟨i, y, h1, h2, h3, h4⟩
  · exact h1
  · rw [hno i y h2] at h3; cases h3
theorem idx_cases {α : Type} (p : α → Bool) (l : List α) : (idxFrom p l 0 = -1 ∧ ∀ x, x ∈ l → p x = false) ∨ ∃ (k : Nat) (x : α), idxFrom p l 0 = k ∧ l[k]? = some x ∧ p x = true ∧ ∀ (j : Nat) (y : α), j < k → l[j]? = some y → p y = false := by
  rcases idxFrom_spec p l 0 with h | ⟨i, x, h1, h2, h3, h4⟩
  · exact .inl h
  · exact .inr ⟨i, x, by rw [h1]; omega, h2, h3, h4⟩
end Go.Den
namespace Go.Den
open Go
/-- Bytes that are lent. -/
structure ByAt (w : World) (s : Sl) (m : List Int) : Prop where
  len : s.len = m.length
  cap : s.len ≤ s.cap
  row : RowAt w s.a s.len (m.map (Value.int .u8))
  rng : ∀ x, x ∈ m → 0 ≤ x ∧ x ≤ 255
  small : m.length ≤ 1099511627776
theorem ByAt.ext {w w' : World} {s : Sl} {m : List Int} (h : ByAt w s m) (e : Ext w w') : ByAt w' s m := ⟨h.len, h.cap, e.row h.row, h.rng, h.small⟩
theorem ByAt.get {w : World} {s : Sl} {m : List Int} (h : ByAt w s m) {i : Nat} {x : Int} (hx : m[i]? = some x) : ∃ p, s.a = some p ∧ w.cell? (p.add (i * 1)) = some (.int .u8 x) := by
  obtain ⟨p, hp, hc⟩ := h.row.cell (i := i) (v := .int .u8 x) (by simp [hx])
  exact ⟨p, hp, by rw [Nat.mul_one]; exact hc⟩
theorem SH.byAt {w0 w : World} {As : List Asr} (h : SH w0 w As) (n : Nat) {s : Sl} {m : List Int} (hA : As[n]? = some (aRow s 1 (nums .u8 m))) (hr : ∀ x, x ∈ m → 0 ≤ x ∧ x ≤ 255) (hs : m.length ≤ 1099511627776) : ByAt w s m :=
  ⟨by rw [h.len n hA, nums_len], h.lenCap n hA, h.rowN n hA, hr, hs⟩
theorem byAt_of {w : World} {s : Sl} {m : List Int} (h : IsD w (.sl 1 (m.map (Dat.int .u8))) [.slice s.a s.len s.cap]) (hs : m.length ≤ 1099511627776) : ByAt w s m :=
  ⟨(isD_len h).1, isD_cap h, isD_nums h, fun x hx => wf_u8_rng (isD_wf h x hx), hs⟩
/-! ## Joins whose second value is a call's -/
theorem join_or_call {P : Program} {f : Nat} {args : Array Value} {c r : Bool} {g : Bool → Bool} {w : World} {k : Bool → World → Prop} (hc : CallW P f args w (fun v w' => v = .bool r ∧ w' = w)) (h : k (c || g r) w) :
    JoinW [.bool] (fun J => BIf c (J true w) (CallW P f args w (fun v w' => ∃ b : Bool, v = .bool b ∧ J (g b) w'))) k := by
  refine ⟨k, fun _ _ h => h, ?_⟩
  cases c
  · exact hc.mono (fun v w' ⟨h1, h2⟩ => by subst h1; subst h2; exact ⟨r, rfl, h⟩)
  · exact h
theorem join_or_callR {α : Type} {P : Program} {f : Nat} {args : α → Array Value} {R : α → Prop} {c r : Bool} {g : Bool → Bool} {w : World} {k : Bool → World → Prop} (n : α) (hn : R n) (hc : CallW P f (args n) w (fun v w' => v = .bool r ∧ w' = w)) (h : k (c || g r) w) :
    JoinW [.bool] (fun J => BIf c (J true w) (∃ n, R n ∧ CallW P f (args n) w (fun v w' => ∃ b : Bool, v = .bool b ∧ J (g b) w'))) k := by
  refine ⟨k, fun _ _ h => h, ?_⟩
  cases c
  · exact ⟨n, hn, hc.mono (fun v w' ⟨h1, h2⟩ => by subst h1; subst h2; exact ⟨r, rfl, h⟩)⟩
  · exact h
theorem join_or_callP {α : Type} {P : Program} {f : Nat} {args : α → Array Value} {R : α → Prop} {c : Bool} {r : Option Addr} {g : Option Addr → Bool} {w : World} {k : Bool → World → Prop} (n : α) (hn : R n) (hc : CallW P f (args n) w (fun v w' => v = .pointer r ∧ w' = w)) (h : k (c || g r) w) :
    JoinW [.bool] (fun J => BIf c (J true w) (∃ n, R n ∧ CallW P f (args n) w (fun v w' => ∃ b : Option Addr, v = .pointer b ∧ J (g b) w'))) k := by
  refine ⟨k, fun _ _ h => h, ?_⟩
  cases c
  · exact ⟨n, hn, hc.mono (fun v w' ⟨h1, h2⟩ => by subst h1; subst h2; exact ⟨r, rfl, h⟩)⟩
  · exact h
theorem ptrE_none {s : Sl} {z : Nat} {i : Int} (h : 0 ≤ i → s.a ≠ none) : Option.isNone (ptrE s z i) = decide (i < 0) := by
  unfold ptrE
  by_cases hi : i < 0
  · rw [if_pos hi]; simp [hi]
  · rw [if_neg hi]
    cases ha : s.a with
    | none => exact absurd ha (h (by omega))
    | some q => simp; omega
end Go.Den

/- The types of the program as the plainer reading wants them, held against the program. Conditions: none. -/
namespace Go.Proofs.Ytkgoanjemhbjgaa
open Go Go.Den
def ti0 : TI := ⟨.tuple [], [.any], [.tuple #[]], 0⟩
theorem tiok0 : TIOk Try.prog 0 ti0 := ⟨⟨Try.t0, (.tuple #[] : Value), by kernel_rfl, by kernel_rfl, by kernel_rfl, by kernel_rfl, by kernel_rfl⟩, Try.underlying0, by kernel_rfl, by kernel_rfl⟩
def ti2 : TI := ⟨.int .i64, [.int .i64], [.int .i64 0], 8⟩
theorem tiok2 : TIOk Try.prog 2 ti2 := ⟨⟨Try.t2, (.int .i64 0 : Value), by kernel_rfl, by kernel_rfl, by kernel_rfl, by kernel_rfl, by kernel_rfl⟩, Try.underlying2, by kernel_rfl, by kernel_rfl⟩
def ti3 : TI := ⟨.int .i64, [.int .i64], [.int .i64 0], 8⟩
theorem tiok3 : TIOk Try.prog 3 ti3 := ⟨⟨Try.t3, (.int .i64 0 : Value), by kernel_rfl, by kernel_rfl, by kernel_rfl, by kernel_rfl, by kernel_rfl⟩, Try.underlying3, by kernel_rfl, by kernel_rfl⟩
def ti4 : TI := ⟨.bool, [.bool], [.bool false], 1⟩
theorem tiok4 : TIOk Try.prog 4 ti4 := ⟨⟨Try.t4, (.bool false : Value), by kernel_rfl, by kernel_rfl, by kernel_rfl, by kernel_rfl, by kernel_rfl⟩, Try.underlying4, by kernel_rfl, by kernel_rfl⟩
def ti5 : TI := ⟨.int .u8, [.int .u8], [.int .u8 0], 1⟩
theorem tiok5 : TIOk Try.prog 5 ti5 := ⟨⟨Try.t5, (.int .u8 0 : Value), by kernel_rfl, by kernel_rfl, by kernel_rfl, by kernel_rfl, by kernel_rfl⟩, Try.underlying5, by kernel_rfl, by kernel_rfl⟩
def ti22 : TI := ⟨.slice 5, [.slice], [.slice none 0 0], 24⟩
theorem tiok22 : TIOk Try.prog 22 ti22 := ⟨⟨Try.t22, (.slice none 0 0 : Value), by kernel_rfl, by kernel_rfl, by kernel_rfl, by kernel_rfl, by kernel_rfl⟩, Try.underlying22, by kernel_rfl, by kernel_rfl⟩
def ti43 : TI := ⟨.slice 119, [.slice], [.slice none 0 0], 24⟩
theorem tiok43 : TIOk Try.prog 43 ti43 := ⟨⟨Try.t43, (.slice none 0 0 : Value), by kernel_rfl, by kernel_rfl, by kernel_rfl, by kernel_rfl, by kernel_rfl⟩, Try.underlying43, by kernel_rfl, by kernel_rfl⟩
def ti45 : TI := ⟨.slice 2, [.slice], [.slice none 0 0], 24⟩
theorem tiok45 : TIOk Try.prog 45 ti45 := ⟨⟨Try.t45, (.slice none 0 0 : Value), by kernel_rfl, by kernel_rfl, by kernel_rfl, by kernel_rfl, by kernel_rfl⟩, Try.underlying45, by kernel_rfl, by kernel_rfl⟩
def ti47 : TI := ⟨.slice 117, [.slice], [.slice none 0 0], 24⟩
theorem tiok47 : TIOk Try.prog 47 ti47 := ⟨⟨Try.t47, (.slice none 0 0 : Value), by kernel_rfl, by kernel_rfl, by kernel_rfl, by kernel_rfl, by kernel_rfl⟩, Try.underlying47, by kernel_rfl, by kernel_rfl⟩
def ti54 : TI := ⟨.slice 211, [.slice], [.slice none 0 0], 24⟩
theorem tiok54 : TIOk Try.prog 54 ti54 := ⟨⟨Try.t54, (.slice none 0 0 : Value), by kernel_rfl, by kernel_rfl, by kernel_rfl, by kernel_rfl, by kernel_rfl⟩, Try.underlying54, by kernel_rfl, by kernel_rfl⟩
def ti56 : TI := ⟨.struct [(2, 0), (54, 1)], [.int .i64, .slice], [.int .i64 0, .slice none 0 0], 32⟩
theorem tiok56 : TIOk Try.prog 56 ti56 := ⟨⟨Try.t56, (.agg #[.int .i64 0, .slice none 0 0] : Value), by kernel_rfl, by kernel_rfl, by kernel_rfl, by kernel_rfl, by kernel_rfl⟩, ⟨_, Try.underlying56, by kernel_rfl⟩, by kernel_rfl, by kernel_rfl⟩
def ti58 : TI := ⟨.struct [(22, 0), (56, 1)], [.slice, .int .i64, .slice], [.slice none 0 0, .int .i64 0, .slice none 0 0], 56⟩
theorem tiok58 : TIOk Try.prog 58 ti58 := ⟨⟨Try.t58, (.agg #[.slice none 0 0, .int .i64 0, .slice none 0 0] : Value), by kernel_rfl, by kernel_rfl, by kernel_rfl, by kernel_rfl, by kernel_rfl⟩, ⟨_, Try.underlying58, by kernel_rfl⟩, by kernel_rfl, by kernel_rfl⟩
def ti61 : TI := ⟨.slice 123, [.slice], [.slice none 0 0], 24⟩
theorem tiok61 : TIOk Try.prog 61 ti61 := ⟨⟨Try.t61, (.slice none 0 0 : Value), by kernel_rfl, by kernel_rfl, by kernel_rfl, by kernel_rfl, by kernel_rfl⟩, Try.underlying61, by kernel_rfl, by kernel_rfl⟩
def ti63 : TI := ⟨.struct [(2, 0), (61, 1)], [.int .i64, .slice], [.int .i64 0, .slice none 0 0], 32⟩
theorem tiok63 : TIOk Try.prog 63 ti63 := ⟨⟨Try.t63, (.agg #[.int .i64 0, .slice none 0 0] : Value), by kernel_rfl, by kernel_rfl, by kernel_rfl, by kernel_rfl, by kernel_rfl⟩, ⟨_, Try.underlying63, by kernel_rfl⟩, by kernel_rfl, by kernel_rfl⟩
def ti65 : TI := ⟨.struct [(22, 0), (63, 1)], [.slice, .int .i64, .slice], [.slice none 0 0, .int .i64 0, .slice none 0 0], 56⟩
theorem tiok65 : TIOk Try.prog 65 ti65 := ⟨⟨Try.t65, (.agg #[.slice none 0 0, .int .i64 0, .slice none 0 0] : Value), by kernel_rfl, by kernel_rfl, by kernel_rfl, by kernel_rfl, by kernel_rfl⟩, ⟨_, Try.underlying65, by kernel_rfl⟩, by kernel_rfl, by kernel_rfl⟩
def ti69 : TI := ⟨.tuple [65, 2], [.any], [.tuple #[.agg #[.slice none 0 0, .int .i64 0, .slice none 0 0], .int .i64 0]], 0⟩
theorem tiok69 : TIOk Try.prog 69 ti69 := ⟨⟨Try.t69, (.tuple #[.agg #[.slice none 0 0, .int .i64 0, .slice none 0 0], .int .i64 0] : Value), by kernel_rfl, by kernel_rfl, by kernel_rfl, by kernel_rfl, by kernel_rfl⟩, Try.underlying69, by kernel_rfl, by kernel_rfl⟩
def ti81 : TI := ⟨.struct [(4, 0), (4, 1), (4, 2), (4, 3), (4, 4), (4, 5), (4, 6), (4, 7), (2, 8)], [.bool, .bool, .bool, .bool, .bool, .bool, .bool, .bool, .int .i64], [.bool false, .bool false, .bool false, .bool false, .bool false, .bool false, .bool false, .bool false, .int .i64 0], 16⟩
theorem tiok81 : TIOk Try.prog 81 ti81 := ⟨⟨Try.t81, (.agg #[.bool false, .bool false, .bool false, .bool false, .bool false, .bool false, .bool false, .bool false, .int .i64 0] : Value), by kernel_rfl, by kernel_rfl, by kernel_rfl, by kernel_rfl, by kernel_rfl⟩, ⟨_, Try.underlying81, by kernel_rfl⟩, by kernel_rfl, by kernel_rfl⟩
def ti89 : TI := ⟨.int .u64, [.int .u64], [.int .u64 0], 8⟩
theorem tiok89 : TIOk Try.prog 89 ti89 := ⟨⟨Try.t89, (.int .u64 0 : Value), by kernel_rfl, by kernel_rfl, by kernel_rfl, by kernel_rfl, by kernel_rfl⟩, Try.underlying89, by kernel_rfl, by kernel_rfl⟩
def ti115 : TI := ⟨.tuple [63, 2], [.any], [.tuple #[.agg #[.int .i64 0, .slice none 0 0], .int .i64 0]], 0⟩
theorem tiok115 : TIOk Try.prog 115 ti115 := ⟨⟨Try.t115, (.tuple #[.agg #[.int .i64 0, .slice none 0 0], .int .i64 0] : Value), by kernel_rfl, by kernel_rfl, by kernel_rfl, by kernel_rfl, by kernel_rfl⟩, Try.underlying115, by kernel_rfl, by kernel_rfl⟩
def ti117 : TI := ⟨.struct [(2, 0), (2, 1), (2, 2)], [.int .i64, .int .i64, .int .i64], [.int .i64 0, .int .i64 0, .int .i64 0], 24⟩
theorem tiok117 : TIOk Try.prog 117 ti117 := ⟨⟨Try.t117, (.agg #[.int .i64 0, .int .i64 0, .int .i64 0] : Value), by kernel_rfl, by kernel_rfl, by kernel_rfl, by kernel_rfl, by kernel_rfl⟩, ⟨_, Try.underlying117, by kernel_rfl⟩, by kernel_rfl, by kernel_rfl⟩
def ti119 : TI := ⟨.struct [(2, 0), (2, 1), (2, 2)], [.int .i64, .int .i64, .int .i64], [.int .i64 0, .int .i64 0, .int .i64 0], 24⟩
theorem tiok119 : TIOk Try.prog 119 ti119 := ⟨⟨Try.t119, (.agg #[.int .i64 0, .int .i64 0, .int .i64 0] : Value), by kernel_rfl, by kernel_rfl, by kernel_rfl, by kernel_rfl, by kernel_rfl⟩, ⟨_, Try.underlying119, by kernel_rfl⟩, by kernel_rfl, by kernel_rfl⟩
def ti123 : TI := ⟨.struct [(2, 0), (2, 1)], [.int .i64, .int .i64], [.int .i64 0, .int .i64 0], 16⟩
theorem tiok123 : TIOk Try.prog 123 ti123 := ⟨⟨Try.t123, (.agg #[.int .i64 0, .int .i64 0] : Value), by kernel_rfl, by kernel_rfl, by kernel_rfl, by kernel_rfl, by kernel_rfl⟩, ⟨_, Try.underlying123, by kernel_rfl⟩, by kernel_rfl, by kernel_rfl⟩
def ti124 : TI := ⟨.tuple [63, 4], [.any], [.tuple #[.agg #[.int .i64 0, .slice none 0 0], .bool false]], 0⟩
theorem tiok124 : TIOk Try.prog 124 ti124 := ⟨⟨Try.t124, (.tuple #[.agg #[.int .i64 0, .slice none 0 0], .bool false] : Value), by kernel_rfl, by kernel_rfl, by kernel_rfl, by kernel_rfl, by kernel_rfl⟩, Try.underlying124, by kernel_rfl, by kernel_rfl⟩
def ti130 : TI := ⟨.tuple [45, 4], [.any], [.tuple #[.slice none 0 0, .bool false]], 0⟩
theorem tiok130 : TIOk Try.prog 130 ti130 := ⟨⟨Try.t130, (.tuple #[.slice none 0 0, .bool false] : Value), by kernel_rfl, by kernel_rfl, by kernel_rfl, by kernel_rfl, by kernel_rfl⟩, Try.underlying130, by kernel_rfl, by kernel_rfl⟩
def ti135 : TI := ⟨.ptr 170, [.ptr], [.pointer none], 8⟩
theorem tiok135 : TIOk Try.prog 135 ti135 := ⟨⟨Try.t135, (.pointer none : Value), by kernel_rfl, by kernel_rfl, by kernel_rfl, by kernel_rfl, by kernel_rfl⟩, Try.underlying135, by kernel_rfl, by kernel_rfl⟩
def ti151 : TI := ⟨.tuple [89, 4], [.any], [.tuple #[.int .u64 0, .bool false]], 0⟩
theorem tiok151 : TIOk Try.prog 151 ti151 := ⟨⟨Try.t151, (.tuple #[.int .u64 0, .bool false] : Value), by kernel_rfl, by kernel_rfl, by kernel_rfl, by kernel_rfl, by kernel_rfl⟩, Try.underlying151, by kernel_rfl, by kernel_rfl⟩
def ti159 : TI := ⟨.tuple [81, 4], [.any], [.tuple #[.agg #[.bool false, .bool false, .bool false, .bool false, .bool false, .bool false, .bool false, .bool false, .int .i64 0], .bool false]], 0⟩
theorem tiok159 : TIOk Try.prog 159 ti159 := ⟨⟨Try.t159, (.tuple #[.agg #[.bool false, .bool false, .bool false, .bool false, .bool false, .bool false, .bool false, .bool false, .int .i64 0], .bool false] : Value), by kernel_rfl, by kernel_rfl, by kernel_rfl, by kernel_rfl, by kernel_rfl⟩, Try.underlying159, by kernel_rfl, by kernel_rfl⟩
def ti170 : TI := ⟨.struct [(22, 0), (63, 1)], [.slice, .int .i64, .slice], [.slice none 0 0, .int .i64 0, .slice none 0 0], 56⟩
theorem tiok170 : TIOk Try.prog 170 ti170 := ⟨⟨Try.t170, (.agg #[.slice none 0 0, .int .i64 0, .slice none 0 0] : Value), by kernel_rfl, by kernel_rfl, by kernel_rfl, by kernel_rfl, by kernel_rfl⟩, ⟨_, Try.underlying170, by kernel_rfl⟩, by kernel_rfl, by kernel_rfl⟩
def ti182 : TI := ⟨.slice 4, [.slice], [.slice none 0 0], 24⟩
theorem tiok182 : TIOk Try.prog 182 ti182 := ⟨⟨Try.t182, (.slice none 0 0 : Value), by kernel_rfl, by kernel_rfl, by kernel_rfl, by kernel_rfl, by kernel_rfl⟩, Try.underlying182, by kernel_rfl, by kernel_rfl⟩
def ti189 : TI := ⟨.map 2 4, [.map], [.map none], 8⟩
theorem tiok189 : TIOk Try.prog 189 ti189 := ⟨⟨Try.t189, (.map none : Value), by kernel_rfl, by kernel_rfl, by kernel_rfl, by kernel_rfl, by kernel_rfl⟩, Try.underlying189, by kernel_rfl, by kernel_rfl⟩
def ti190 : TI := ⟨.func, [.fn], [.nilFunc], 8⟩
theorem tiok190 : TIOk Try.prog 190 ti190 := ⟨⟨Try.t190, (.nilFunc : Value), by kernel_rfl, by kernel_rfl, by kernel_rfl, by kernel_rfl, by kernel_rfl⟩, ⟨_, _, _, Try.underlying190⟩, by kernel_rfl, by kernel_rfl⟩
def ti191 : TI := ⟨.int .u64, [.int .u64], [.int .u64 0], 8⟩
theorem tiok191 : TIOk Try.prog 191 ti191 := ⟨⟨Try.t191, (.int .u64 0 : Value), by kernel_rfl, by kernel_rfl, by kernel_rfl, by kernel_rfl, by kernel_rfl⟩, Try.underlying191, by kernel_rfl, by kernel_rfl⟩
def ti207 : TI := ⟨.func, [.fn], [.nilFunc], 8⟩
theorem tiok207 : TIOk Try.prog 207 ti207 := ⟨⟨Try.t207, (.nilFunc : Value), by kernel_rfl, by kernel_rfl, by kernel_rfl, by kernel_rfl, by kernel_rfl⟩, ⟨_, _, _, Try.underlying207⟩, by kernel_rfl, by kernel_rfl⟩
def ti211 : TI := ⟨.struct [(2, 0), (2, 1)], [.int .i64, .int .i64], [.int .i64 0, .int .i64 0], 16⟩
theorem tiok211 : TIOk Try.prog 211 ti211 := ⟨⟨Try.t211, (.agg #[.int .i64 0, .int .i64 0] : Value), by kernel_rfl, by kernel_rfl, by kernel_rfl, by kernel_rfl, by kernel_rfl⟩, ⟨_, Try.underlying211, by kernel_rfl⟩, by kernel_rfl, by kernel_rfl⟩
def tt : Tab := [(0, ti0), (2, ti2), (3, ti3), (4, ti4), (5, ti5), (22, ti22), (43, ti43), (45, ti45), (47, ti47), (54, ti54), (56, ti56), (58, ti58), (61, ti61), (63, ti63), (65, ti65), (69, ti69), (81, ti81), (89, ti89), (115, ti115), (117, ti117), (119, ti119), (123, ti123), (124, ti124), (130, ti130), (135, ti135), (151, ti151), (159, ti159), (170, ti170), (182, ti182), (189, ti189), (190, ti190), (191, ti191), (207, ti207), (211, ti211)]
theorem tt_ok : TabOk Try.prog tt := ⟨tiok0, tiok2, tiok3, tiok4, tiok5, tiok22, tiok43, tiok45, tiok47, tiok54, tiok56, tiok58, tiok61, tiok63, tiok65, tiok69, tiok81, tiok89, tiok115, tiok117, tiok119, tiok123, tiok124, tiok130, tiok135, tiok151, tiok159, tiok170, tiok182, tiok189, tiok190, tiok191, tiok207, tiok211, trivial⟩
theorem mix : Try.prog.follows .mixedOrders = true := by kernel_rfl
end Go.Proofs.Ytkgoanjemhbjgaa
