/- Part 2 of 3: plain readings of code, rules for them, and a proof over them, joined by a program. Conditions: none. -/
import Derived.Test.YtenhcpjlkmbedaaPick1
import Derived.Laws.Strings
import Derived.WideShapes
import Derived.Deep.Slices
import Derived.Test.YtenhcpjlkmbedaaProg
/- Rules for proofs over plain readings: slices whose row is the call's own, append. Conditions: none. -/
set_option linter.unusedVariables false
set_option linter.unusedSimpArgs false
namespace Go.Den
/-- A slice whose row lies at the head of a block from b0 on, z cells an element. -/
def OwnS (w : World) (b0 : Nat) (s : Sl) (z : Nat) (vs : List Value) : Prop :=
  vs.length = s.len * z ∧ ((s.cap = 0 ∧ s.len = 0) ∨ ∃ b cs, s.a = some ⟨b, 0, none⟩ ∧ b0 ≤ b ∧ Blk w b cs ∧ cs.length = s.cap * z ∧ s.len ≤ s.cap ∧ cs.take (s.len * z) = vs)
theorem OwnS.none (w : World) (b0 : Nat) (a : Option Addr) (z : Nat) : OwnS w b0 ⟨a, 0, 0⟩ z [] := ⟨by simp, .inl ⟨rfl, rfl⟩⟩
theorem OwnS.new {w : World} {b0 b n z : Nat} {vs : List Value} (h : Blk w b vs) (hb : b0 ≤ b) (hn : vs.length = n * z) : OwnS w b0 ⟨some ⟨b, 0, Option.none⟩, n, n⟩ z vs :=
  ⟨hn, .inr ⟨b, vs, rfl, hb, h, hn, Nat.le_refl _, by simp [← hn]⟩⟩
theorem OwnS.len {w : World} {b0 z : Nat} {s : Sl} {vs : List Value} (h : OwnS w b0 s z vs) : vs.length = s.len * z := h.1
theorem OwnS.row {w : World} {b0 z : Nat} {s : Sl} {vs : List Value} (h : OwnS w b0 s z vs) : RowAt w s.a (s.len * z) vs := by
  refine ⟨h.1, fun hn => ?_⟩
  rcases h.2 with ⟨_, h0⟩ | ⟨b, cs, ha, _, hb, hl, hle, ht⟩
  · rw [h0] at hn; simp at hn
  · refine ⟨_, ha, fun j v hj => ?_⟩
    rw [add_mk, hb.cell, Nat.zero_add]
    rw [← ht, List.getElem?_take] at hj
    split at hj
    · exact hj
    · cases hj
theorem OwnS.only {S : Nat → Prop} {w w' : World} {b0 z : Nat} {s : Sl} {vs : List Value} (h : OwnS w b0 s z vs) (ho : Only S w w') (hS : ∀ b, s.a = some ⟨b, 0, Option.none⟩ → b0 ≤ b → b < w.heap.size → ¬ S b) : OwnS w' b0 s z vs := by
  refine ⟨h.1, ?_⟩
  rcases h.2 with h0 | ⟨b, cs, ha, h1, hb, h2⟩
  · exact .inl h0
  · exact .inr ⟨b, cs, ha, h1, hb.only ho (hS b ha h1 hb.lt), h2⟩
theorem OwnS.ext {w w' : World} {b0 z : Nat} {s : Sl} {vs : List Value} (h : OwnS w b0 s z vs) (ho : Ext w w') : OwnS w' b0 s z vs := h.only ho (fun _ _ _ _ => id)
theorem OwnS.mono {w : World} {b0 b1 z : Nat} {s : Sl} {vs : List Value} (h : OwnS w b0 s z vs) (hb : b1 ≤ b0) : OwnS w b1 s z vs := by
  refine ⟨h.1, ?_⟩
  rcases h.2 with h0 | ⟨b, cs, ha, h1, hb, h2⟩
  · exact .inl h0
  · exact .inr ⟨b, cs, ha, by omega, hb, h2⟩
theorem zerosOf_length (zero : List Value) : ∀ n, (zerosOf zero n).length = n * zero.length
  | 0 => by simp [zerosOf]
  | n + 1 => by rw [zerosOf, List.length_append, zerosOf_length zero n, Nat.succ_mul]; omega
/-- append into a row of one's own: the row is turned in its place, or there is a new one. -/
theorem AppendW.own {e : Nat} {ti : TI} {s y : Sl} {w : World} {K : Sl → World → Prop} {b0 z : Nat} {os vs : List Value} (hs : OwnS w b0 s z os) (hy : RowAt w y.a (y.len * z) vs)
    (hz : ti.sh.length = z) (hzero : ti.zero.length = z) (hb : 0 < ti.bytes) (hlen : (s.len + y.len) * ti.bytes ≤ 140737488355328) (hpl : ∀ v, v ∈ vs → plainB v = true) (hb0 : b0 ≤ w.heap.size)
    (hk : ∀ s' w', s'.len = s.len + y.len → OwnS w' b0 s' z (os ++ vs) → Only (fun k => b0 ≤ k ∧ s.a = some ⟨k, 0, Option.none⟩) w w' → (s'.a = s.a ∨ ∃ b, s'.a = some ⟨b, 0, Option.none⟩ ∧ w.heap.size ≤ b) → K s' w') : AppendW e ti s y w K := by
  have hl1 := hs.len
  have hl2 := hy.1
  have hlen2 : (os ++ vs).length = (s.len + y.len) * z := by rw [List.length_append, Nat.add_mul, hl1, hl2]
  refine ⟨os, vs, hz ▸ hs.row, hz ▸ hy, hlen, hb, hpl, fun hin => ?_, fun hgrow cap hcap => ?_⟩
  · rcases hs.2 with ⟨hc, h0⟩ | ⟨b, cs, ha, h1, hbl, hcl, hle, ht⟩
    · have hv : vs = [] := List.eq_nil_of_length_eq_zero (by rw [hl2, show y.len = 0 by omega]; simp)
      subst hv
      have hos : os = [] := List.eq_nil_of_length_eq_zero (by rw [hl1, h0]; simp)
      subst hos
      have hown : OwnS w b0 ⟨s.a, s.len + y.len, s.cap⟩ z ([] ++ []) := ⟨by simp [show s.len + y.len = 0 by omega], .inl ⟨hc, show s.len + y.len = 0 by omega⟩⟩
      rcases hsa : s.a with _ | p
      · right
        refine ⟨rfl, ?_⟩
        rw [← hsa]
        exact hk _ _ rfl hown (Only.refl _ _) (.inl rfl)
      · left
        refine ⟨p, rfl, fun i hi => absurd hi (by simp), ?_⟩
        rw [← hsa]
        exact hk _ _ rfl hown (Only.refl _ _) (.inl rfl)
    · left
      have hfit : s.len * z + vs.length ≤ cs.length := by rw [hcl, hl2, ← Nat.add_mul]; exact Nat.mul_le_mul_right _ hin
      refine ⟨_, ha, ?_, ?_⟩
      · rw [hz, add_mk, Nat.zero_add]
        exact hbl.mayN hfit
      · rw [hz, add_mk, Nat.zero_add]
        refine hk _ _ rfl ?_ ?_ (.inl rfl)
        · refine ⟨hlen2, .inr ⟨b, _, ha, h1, Blk.puts vs hbl (s.len * z) 0, ?_, hin, ?_⟩⟩
          · rw [setAll_length]; exact hcl
          · have hl3 : s.len * z ≤ cs.length := by omega
            rw [Nat.add_zero, setAll_eq _ _ _ hfit, ht]
            show List.take ((s.len + y.len) * z) _ = _
            rw [← hlen2, List.take_left]
        · exact (only_puts vs w ⟨b, s.len * z, Option.none⟩ 0).mono (fun k _ hk => by subst hk; exact ⟨h1, ha⟩)
  · refine hk _ _ rfl ⟨hlen2, .inr ⟨_, _, rfl, hb0, ⟨e, block_alloc w.drew _⟩, ?_, hcap, ?_⟩⟩ ?_ (.inr ⟨_, rfl, Nat.le_refl _⟩)
    · rw [List.length_append, zerosOf_length, hzero, hlen2, ← Nat.add_mul]
      show (s.len + y.len + (cap - (s.len + y.len))) * z = cap * z
      congr 1; omega
    · show List.take ((s.len + y.len) * z) _ = _
      rw [← hlen2, List.take_left]
    · exact Ext.any (Only.trans (ext_drew w) (ext_alloc w.drew _))
theorem Ext.own {S : Nat → Prop} {a b c : World} (h : Ext a b) (k : Only S b c) (hS : ∀ i, S i → a.heap.size ≤ i) : Ext a c := h.step k (fun i hi hs => by have := hS i hs; omega)
theorem row_of_blk {w : World} {b : Nat} {vs : List Value} (h : Blk w b vs) {n : Nat} (hn : vs.length = n) : RowAt w (some ⟨b, 0, none⟩) n vs :=
  ⟨hn, fun _ => ⟨_, rfl, fun j v hv => by rw [add_mk, h.cell, Nat.zero_add]; exact hv⟩⟩
/-- append of one element, laid in a block of its own. -/
theorem AppendW.one {e e' : Nat} {ti : TI} {s : Sl} {w : World} {K : Sl → World → Prop} {b0 z : Nat} {os x : List Value} (hs : OwnS w b0 s z os) (hb0 : b0 ≤ w.heap.size) (hx : x.length = z)
    (hz : ti.sh.length = z) (hzero : ti.zero.length = z) (hb : 0 < ti.bytes) (hlen : (s.len + 1) * ti.bytes ≤ 140737488355328) (hpl : ∀ v, v ∈ x → plainB v = true)
    (hk : ∀ s' w', s'.len = s.len + 1 → OwnS w' b0 s' z (os ++ x) → Only (fun k => b0 ≤ k ∧ s.a = some ⟨k, 0, Option.none⟩) w w' → (s'.a = s.a ∨ ∃ b, s'.a = some ⟨b, 0, Option.none⟩ ∧ w.heap.size ≤ b) → K s' w') :
    AppendW e ti s ⟨some ⟨w.heap.size, 0, Option.none⟩, 1, 1⟩ (w.alloc (.cells ⟨x⟩ e')) K := by
  have ha := ext_alloc w (.cells ⟨x⟩ e')
  refine AppendW.own (hs.ext ha) (row_of_blk (blk_alloc w x e') (by rw [hx, Nat.one_mul])) hz hzero hb hlen hpl (by rw [size_alloc]; omega) (fun s' w' h1 h2 h3 h4 => hk s' w' h1 h2 (Only.trans ha.any h3) ?_)
  rcases h4 with h4 | ⟨b, h4, h5⟩
  · exact .inl h4
  · exact .inr ⟨b, h4, by rw [size_alloc] at h5; omega⟩
/-! ## Rows of structs -/
/-- The cells of a list of elements. -/
theorem flatMap_get {α : Type} (f : α → List Value) (z : Nat) (hf : ∀ a, (f a).length = z) : ∀ (l : List α) (i j : Nat) (hj : j < z) (a : α), l[i]? = some a → (l.flatMap f)[i * z + j]? = (f a)[j]?
  | [], i, j, hj, a, h => by simp at h
  | b :: r, 0, j, hj, a, h => by
    have : b = a := by simpa using h
    subst this
    rw [List.flatMap_cons, Nat.zero_mul, Nat.zero_add, List.getElem?_append_left (by rw [hf]; exact hj)]
  | b :: r, i + 1, j, hj, a, h => by
    rw [List.flatMap_cons, List.getElem?_append_right (by rw [hf, Nat.succ_mul]; omega), hf, show (i + 1) * z + j - z = i * z + j by rw [Nat.succ_mul]; omega]
    exact flatMap_get f z hf r i j hj a (by simpa using h)
theorem flatMap_length {α : Type} (f : α → List Value) (z : Nat) (hf : ∀ a, (f a).length = z) : ∀ (l : List α), (l.flatMap f).length = l.length * z
  | [] => by simp
  | b :: r => by rw [List.flatMap_cons, List.length_append, hf, flatMap_length f z hf r, List.length_cons, Nat.succ_mul]; omega
theorem RowAt.cell {w : World} {a : Option Addr} {n : Nat} {vs : List Value} (h : RowAt w a n vs) {i : Nat} {v : Value} (hv : vs[i]? = some v) : ∃ p, a = some p ∧ w.cell? (p.add i) = some v := by
  have hi : i < vs.length := (List.getElem?_eq_some_iff.1 hv).1
  obtain ⟨p, hp, hc⟩ := h.2 (by rw [← h.1]; omega)
  exact ⟨p, hp, hc i v hv⟩
theorem row_one {w : World} {b : Nat} {vs : List Value} (h : Blk w b vs) {n : Nat} (hn : vs.length = n) : RowAt w (some ⟨b, 0, none⟩) n vs :=
  ⟨hn, fun _ => ⟨_, rfl, fun j v hv => by rw [add_mk, h.cell, Nat.zero_add]; exact hv⟩⟩
/-- The elements of a row of structs. -/
theorem RowAt.elem {α : Type} {f : α → List Value} {z : Nat} (hf : ∀ a, (f a).length = z) {w : World} {a : Option Addr} {n : Nat} {l : List α} (h : RowAt w a n (l.flatMap f)) {i : Nat} {x : α} (hx : l[i]? = some x) (hz : 0 < z) :
    ∃ p, a = some p ∧ ∀ j v, (f x)[j]? = some v → w.cell? ((p.add (i * z)).add j) = some v := by
  have h0 : 0 < (f x).length := by rw [hf]; exact hz
  obtain ⟨p, hp, _⟩ := h.cell (i := i * z + 0) (v := (f x)[0]) (by rw [flatMap_get f z hf l i 0 hz x hx]; simp)
  refine ⟨p, hp, fun j v hj => ?_⟩
  have hjz : j < z := by have := (List.getElem?_eq_some_iff.1 hj).1; rw [hf] at this; exact this
  rw [add_add]
  obtain ⟨p', hp', hc⟩ := h.cell (i := i * z + j) (v := v) (by rw [flatMap_get f z hf l i j hjz x hx]; exact hj)
  rw [hp] at hp'; cases hp'
  exact hc
end Go.Den

/- Rules for proofs over plain readings: texts. Conditions: none. -/
set_option linter.unusedVariables false
set_option linter.unusedSimpArgs false
namespace Go.Den
theorem strEq_iff {a b : ByteArray} : strEq a b = true ↔ a = b := by
  unfold strEq
  rw [ByteArray.toList_eq, ByteArray.toList_eq]
  constructor
  · intro h
    have h := eq_of_beq h
    cases a; cases b
    simp only [ByteArray.mk.injEq]
    exact Array.toList_inj.1 h
  · rintro rfl; simp
theorem strEq_false {a b : ByteArray} : strEq a b = false ↔ a ≠ b := by
  rw [← Bool.not_eq_true, strEq_iff]
theorem size_L (s : ByteArray) : s.size = s.data.toList.length := by rw [Array.length_toList]; rfl
theorem btI_L (s : ByteArray) (i : Int) : btI s i = ((s.data.toList.getD i.toNat 0).toNat : Int) := rfl
theorem L_extract (s : ByteArray) (i j : Nat) : (s.extract i j).data.toList = (s.data.toList.take j).drop i := by
  rw [ByteArray.data_extract, Array.toList_extract, List.extract_eq_take_drop, List.drop_take]
theorem size_extract (s : ByteArray) (i j : Nat) : (s.extract i j).size = min j s.size - i := by
  rw [size_L, L_extract, size_L]; simp
theorem btI_extract (s : ByteArray) (i j : Nat) (k : Int) (h0 : 0 ≤ k) (h1 : i + k < j) : btI (s.extract i j) k = btI s (i + k) := by
  unfold btI
  rw [L_extract]
  obtain ⟨m, rfl⟩ := Int.eq_ofNat_of_zero_le h0
  rw [show ((i : Int) + (m : Int)).toNat = i + m by omega, show ((m : Int)).toNat = m by omega]
  simp only [List.getD_eq_getElem?_getD, List.getElem?_drop]
  rw [List.getElem?_take, if_pos (by omega)]
theorem ext_bytes {a b : ByteArray} (hs : a.size = b.size) (h : ∀ i : Int, 0 ≤ i → i < a.size → btI a i = btI b i) : a = b := by
  have hl : a.data.toList = b.data.toList := by
    apply List.ext_getElem
    · rw [← size_L, ← size_L]; exact hs
    · intro n h1 h2
      have := h n (by omega) (by rw [size_L]; omega)
      unfold btI at this
      rw [show ((n : Int)).toNat = n by omega] at this
      simp only [List.getD_eq_getElem?_getD, List.getElem?_eq_getElem h1, List.getElem?_eq_getElem h2, Option.getD_some] at this
      exact UInt8.toNat_inj.1 (by omega)
  cases a; cases b
  simp only [ByteArray.mk.injEq]
  exact Array.toList_inj.1 hl
/-- A head of one byte, of two. -/
theorem head1 (s : ByteArray) (c : UInt8) (h : 1 ≤ s.size) : strEq (s.extract 0 1) ⟨#[c]⟩ = (btI s 0 == (c.toNat : Int)) := by
  have he : btI (s.extract 0 1) 0 = btI s 0 := by have := btI_extract s 0 1 0 (by omega) (by omega); simpa using this
  have hz : (s.extract 0 1).size = 1 := by rw [size_extract]; omega
  cases hc : (btI s 0 == (c.toNat : Int))
  · rw [strEq_false]
    intro h'
    rw [h'] at he
    rw [← he] at hc
    simp [btI] at hc
  · rw [strEq_iff]
    refine ext_bytes hz (fun i h0 h1 => ?_)
    rw [hz] at h1
    have : i = 0 := by omega
    subst this
    rw [he, eq_of_beq hc]
    rfl
theorem head2 (s : ByteArray) (c d : UInt8) (h : 2 ≤ s.size) : strEq (s.extract 0 2) ⟨#[c, d]⟩ = (btI s 0 == (c.toNat : Int) && btI s 1 == (d.toNat : Int)) := by
  have he : ∀ k : Int, 0 ≤ k → k < 2 → btI (s.extract 0 2) k = btI s k := by intro k h0 h1; have := btI_extract s 0 2 k h0 (by omega); simpa using this
  have hz : (s.extract 0 2).size = 2 := by rw [size_extract]; omega
  cases hc : (btI s 0 == (c.toNat : Int) && btI s 1 == (d.toNat : Int))
  · rw [strEq_false]
    intro h'
    rw [← he 0 (by omega) (by omega), ← he 1 (by omega) (by omega), h'] at hc
    simp [btI] at hc
  · rw [strEq_iff]
    simp only [Bool.and_eq_true, beq_iff_eq] at hc
    refine ext_bytes hz (fun i h0 h1 => ?_)
    rw [hz] at h1
    have : i = 0 ∨ i = 1 := by omega
    rcases this with rfl | rfl
    · rw [he 0 (by omega) (by omega), hc.1]; rfl
    · rw [he 1 (by omega) (by omega), hc.2]; rfl
theorem extract_all (s : ByteArray) : s.extract 0 s.size = s := by
  refine ext_bytes (by rw [size_extract]; omega) (fun i h0 h1 => ?_)
  rw [size_extract] at h1
  have := btI_extract s 0 s.size i h0 (by omega)
  rwa [show ((0 : Nat) : Int) + i = i by omega] at this
end Go.Den

/- Rules for proofs over plain readings: a cell of one's own row written. Conditions: none. -/
set_option linter.unusedVariables false
set_option linter.unusedSimpArgs false
namespace Go.Den
theorem OwnS.set {w : World} {b0 z : Nat} {s : Sl} {vs : List Value} (h : OwnS w b0 s z vs) {i : Nat} (hi : i < vs.length) (v : Value) :
    ∃ p, s.a = some p ∧ May w (p.add i) ∧ OwnS (w.setCell (p.add i) v) b0 s z (vs.set i v) ∧ Only (fun k => b0 ≤ k ∧ s.a = some ⟨k, 0, Option.none⟩) w (w.setCell (p.add i) v) := by
  obtain ⟨hl, h0 | ⟨b, cs, ha, hb0, hb, hc, hle, ht⟩⟩ := h
  · rw [hl, h0.2] at hi; simp at hi
  · have hcs : i < cs.length := by rw [← ht, List.length_take] at hi; omega
    refine ⟨_, ha, ?_, ?_, ?_⟩
    · rw [add_mk, Nat.zero_add]; exact hb.may hcs
    · rw [add_mk, Nat.zero_add]
      refine ⟨by rw [List.length_set]; exact hl, .inr ⟨b, _, ha, hb0, hb.set i v, by rw [List.length_set]; exact hc, hle, ?_⟩⟩
      rw [List.take_set, ht]
    · exact (only_set w _ v).mono (fun k _ hk => by rw [hk, add_block]; exact ⟨hb0, ha⟩)
end Go.Den

/- A law's arguments, opened: what lies in memory, as a value of Lean's. Conditions: none. -/
set_option linter.unusedVariables false
set_option linter.unusedSimpArgs false
namespace Go.Den
open Go.ChangeShapes Go.WideShapes
/-- How a value of a type lies in cells. -/
structure Cod (α : Type) where
  z : Nat
  is : World → List Value → α → Prop
def cInt (k : IntKind) : Cod Int := ⟨1, fun _ cs n => cs = [.int k n] ∧ (Lit.int k n).wf = true⟩
def cBool : Cod Bool := ⟨1, fun _ cs b => cs = [.bool b]⟩
def cStr : Cod ByteArray := ⟨1, fun _ cs s => cs = [.string s] ∧ s.size ≤ maxLen⟩
def cUnit : Cod Unit := ⟨0, fun _ cs _ => cs = []⟩
def cPair {α β : Type} (c : Cod α) (d : Cod β) : Cod (α × β) := ⟨c.z + d.z, fun w cs x => ∃ c1 c2, cs = c1 ++ c2 ∧ c1.length = c.z ∧ c.is w c1 x.1 ∧ d.is w c2 x.2⟩
def cMap {α β : Type} (c : Cod α) (f : α → β) : Cod β := ⟨c.z, fun w cs y => ∃ x, f x = y ∧ c.is w cs x⟩
/-- The elements of a slice, in memory. -/
def ElemsAt {α : Type} (c : Cod α) (w : World) (a : Option Addr) (l : List α) : Prop :=
  ∀ i x, l[i]? = some x → ∃ p es, a = some p ∧ es.length = c.z ∧ (∀ j v, es[j]? = some v → w.cell? ((p.add (i * c.z)).add j) = some v) ∧ c.is w es x
def cSlice {α : Type} (c : Cod α) : Cod (List α) := ⟨1, fun w cs l => ∃ a cap, cs = [.slice a l.length cap] ∧ l.length ≤ cap ∧ cap ≤ maxLen ∧ ElemsAt c w a l⟩
section
variable {H : Type} {enc : TypeId × Value → H} {P : Program}
/-- What the model reads at a type is a value of the codec. -/
structure Opens (P : Program) {α : Type} (t : TypeId) (c : Cod α) : Prop where
  at_ : ∀ {H : Type} (enc : TypeId × Value → H) (w : World) (fuel : Nat) (cs : List Value) (x : DataW H × List MemPlace), DataW.trod enc P w 0 (fun _ => true) true fuel t cs = some x → cs.length = c.z ∧ ∃ a, c.is w cs a
theorem opens_int {t : TypeId} {k : IntKind} (h : P.underlying t = some (.int k)) : Opens P t (cInt k) := by
  refine ⟨fun {H} enc w fuel cs x hx => ?_⟩
  obtain ⟨n, rfl, _, hw⟩ := DataW.trod_int h hx
  exact ⟨rfl, n, rfl, hw⟩
theorem opens_bool {t : TypeId} (h : P.underlying t = some .bool) : Opens P t cBool := by
  refine ⟨fun {H} enc w fuel cs x hx => ?_⟩
  obtain ⟨b, rfl, _⟩ := DataW.trod_bool h hx
  exact ⟨rfl, b, rfl⟩
theorem opens_str {t : TypeId} (h : P.underlying t = some .string) : Opens P t cStr := by
  refine ⟨fun {H} enc w fuel cs x hx => ?_⟩
  obtain ⟨s, rfl, _, hs⟩ := DataW.trod_string h hx
  exact ⟨rfl, s, rfl, hs⟩
theorem exists_list {α : Type} {Q : Nat → α → Prop} : ∀ (n : Nat), (∀ i, i < n → ∃ x, Q i x) → ∃ l : List α, l.length = n ∧ ∀ i x, l[i]? = some x → Q i x
  | 0, _ => ⟨[], rfl, fun i x h => by simp at h⟩
  | n + 1, h => by
    obtain ⟨l, hl, hq⟩ := exists_list n (fun i hi => h i (by omega))
    obtain ⟨y, hy⟩ := h n (by omega)
    refine ⟨l ++ [y], by simp [hl], fun i x hx => ?_⟩
    by_cases hi : i < l.length
    · rw [List.getElem?_append_left hi] at hx; exact hq i x hx
    · rw [List.getElem?_append_right (by omega)] at hx
      have : i - l.length = 0 := by
        have := (List.getElem?_eq_some_iff.1 hx).1
        simp at this; omega
      rw [this] at hx
      simp at hx
      subst hx
      rw [show i = n by omega]; exact hy
theorem opens_slice {α : Type} {t e : TypeId} {c : Cod α} (ht : P.underlying t = some (.slice e)) (hz : P.cellsOf e = c.z) (he : Opens P e c) : Opens P t (cSlice c) := by
  refine ⟨fun {H} enc w fuel cs x hx => ?_⟩
  rcases Deep.open_slice ht hx with ⟨rfl, _⟩ | ⟨a, len, cap, m, n, D, Pl, rfl, _, hl, hm, hmm, _, hel⟩
  · exact ⟨rfl, [], none, 0, rfl, Nat.le_refl _, Nat.zero_le _, fun i x h => by simp at h⟩
  · refine ⟨rfl, ?_⟩
    have hm' : m = cap := by rw [hmm]; rfl
    obtain ⟨l, hll, hq⟩ := exists_list (Q := fun i x => ∃ es, es.length = c.z ∧ (∀ j v, es[j]? = some v → w.cell? ((a.add (i * c.z)).add j) = some v) ∧ c.is w es x) len (fun i hi => by
      obtain ⟨es, h1, h2⟩ := hel i (by omega)
      obtain ⟨_, h3, h4⟩ := World.cells?_some h1
      obtain ⟨h5, y, h6⟩ := he.at_ enc w n es _ h2
      refine ⟨y, es, h5, fun j v hj => ?_, h6⟩
      have hj' := (List.getElem?_eq_some_iff.1 hj).1
      rw [hz] at h4 h3
      rw [h4 j (by omega), hj])
    refine ⟨l, some a, cap, by rw [hll], by omega, hm, fun i x hx => ?_⟩
    obtain ⟨es, h⟩ := hq i x hx
    exact ⟨a, es, rfl, h⟩
/-- The fields of a struct, one behind the other, from a place on. -/
structure OpensF (P : Program) {α : Type} (fs : List Field) (off : Nat) (c : Cod α) : Prop where
  at_ : ∀ {H : Type} (enc : TypeId × Value → H) (w : World) (fuel : Nat) (cs : List Value), cs.length = off + c.z →
    (∀ f, f ∈ fs → ∃ x, DataW.trod enc P w 0 (fun _ => true) true fuel f.type ((cs.drop f.offset).take (P.cellsOf f.type)) = some x) → ∃ a, c.is w (cs.drop off) a
theorem opensF_nil {off : Nat} : OpensF P [] off cUnit := by
  refine ⟨fun {H} enc w fuel cs hl _ => ?_⟩
  exact ⟨(), List.drop_eq_nil_of_le (by rw [hl]; exact Nat.le_refl _)⟩
theorem opensF_cons {α β : Type} {f : Field} {fs : List Field} {off : Nat} {c : Cod α} {d : Cod β} (ho : f.offset = off) (hz : P.cellsOf f.type = c.z) (hf : Opens P f.type c) (hfs : OpensF P fs (off + c.z) d) : OpensF P (f :: fs) off (cPair c d) := by
  refine ⟨fun {H} enc w fuel cs hl hm => ?_⟩
  obtain ⟨y, hy⟩ := hm f (by simp)
  obtain ⟨h1, a, ha⟩ := hf.at_ enc w fuel _ _ hy
  obtain ⟨b, hb⟩ := hfs.at_ enc w fuel cs (by rw [hl]; show off + (c.z + d.z) = _; omega) (fun g hg => hm g (by simp [hg]))
  rw [ho, hz] at ha h1
  refine ⟨(a, b), _, _, ?_, h1, ha, hb⟩
  rw [← List.drop_drop, List.take_append_drop]
theorem opens_struct {α : Type} {t : TypeId} {fs : Array Field} {c : Cod α} (ht : P.underlying t = some (.struct fs)) (hz : P.cellsOf t = c.z) (hf : OpensF P fs.toList 0 c) : Opens P t c := by
  refine ⟨fun {H} enc w fuel cs x hx => ?_⟩
  obtain ⟨xs, n, _, _, h1, h2, h3⟩ := DataW.trod_struct ht hx
  have hl : cs.length = c.z := by rw [h1, hz]
  obtain ⟨a, ha⟩ := hf.at_ enc w n cs (by rw [hl]; omega) (fun f hf => by
    obtain ⟨i, hi, he⟩ := List.getElem_of_mem hf
    have hfi : fs[i]? = some f := by rw [← Array.getElem?_toList, List.getElem?_eq_getElem hi, he]
    have := h3 i f hfi
    have hix : i < xs.length := by rw [h2]; simpa using hi
    rw [List.getElem?_eq_getElem hix] at this
    exact ⟨_, this⟩)
  exact ⟨hl, a, by simpa using ha⟩
theorem opens_map {α β : Type} {t : TypeId} {c : Cod α} (f : α → β) (h : Opens P t c) : Opens P t (cMap c f) := by
  refine ⟨fun {H} enc w fuel cs x hx => ?_⟩
  obtain ⟨h1, a, ha⟩ := h.at_ enc w fuel cs x hx
  exact ⟨h1, f a, a, rfl, ha⟩
end
end Go.Den
namespace Go.Den
/-- A flat element: its cells, in a row. -/
theorem ElemsAt.row {α : Type} {c : Cod α} {w : World} {a : Option Addr} {l : List α} {f : α → List Value} (h : ElemsAt c w a l) (hf : ∀ x, (f x).length = c.z) (hc : ∀ cs x, c.is w cs x → cs = f x) : RowAt w a (l.length * c.z) (l.flatMap f) := by
  have hlen := flatMap_length f c.z hf l
  refine ⟨hlen, fun hn => ?_⟩
  have hz : 0 < c.z := Nat.pos_of_mul_pos_left hn
  have hl : 0 < l.length := Nat.pos_of_mul_pos_right hn
  obtain ⟨p, _, hp, _⟩ := h 0 l[0] (List.getElem?_eq_getElem hl)
  refine ⟨p, hp, fun j v hj => ?_⟩
  have hjl := (List.getElem?_eq_some_iff.1 hj).1
  rw [hlen] at hjl
  have hi : j / c.z < l.length := Nat.div_lt_of_lt_mul (by rw [Nat.mul_comm]; exact hjl)
  have hr : j % c.z < c.z := Nat.mod_lt _ hz
  have hx : l[j / c.z]? = some l[j / c.z] := List.getElem?_eq_getElem hi
  obtain ⟨q, es, hq, _, hcell, his⟩ := h _ _ hx
  rw [hp] at hq; cases hq
  have hes := hc _ _ his
  have hdm : j / c.z * c.z + j % c.z = j := by rw [Nat.mul_comm]; exact Nat.div_add_mod j c.z
  have := hcell (j % c.z) v (by
    rw [hes, ← flatMap_get f c.z hf l (j / c.z) (j % c.z) hr _ hx, hdm]; exact hj)
  rwa [add_add, hdm] at this
/-- The first of a list that is asked for; -1. -/
def idxFrom {α : Type} (p : α → Bool) : List α → Nat → Int
  | [], _ => -1
  | x :: r, i => if p x = true then i else idxFrom p r (i + 1)
theorem idxFrom_step {α : Type} (p : α → Bool) (l : List α) (i : Nat) (hi : i < l.length) : idxFrom p (l.drop i) i = if p l[i] = true then (i : Int) else idxFrom p (l.drop (i + 1)) (i + 1) := by
  rw [List.drop_eq_getElem_cons hi]; rfl
theorem idxFrom_end {α : Type} (p : α → Bool) (l : List α) (i : Nat) (hi : l.length ≤ i) : idxFrom p (l.drop i) i = -1 := by
  rw [List.drop_eq_nil_of_le hi]; rfl
theorem idxFrom_spec {α : Type} (p : α → Bool) : ∀ (l : List α) (k : Nat), (idxFrom p l k = -1 ∧ ∀ x, x ∈ l → p x = false) ∨ ∃ i x, idxFrom p l k = ((k + i : Nat) : Int) ∧ l[i]? = some x ∧ p x = true ∧ ∀ j y, j < i → l[j]? = some y → p y = false
  | [], k => .inl ⟨rfl, fun x hx => by cases hx⟩
  | x :: r, k => by
    unfold idxFrom
    by_cases hp : p x = true
    · rw [if_pos hp]
      exact .inr ⟨0, x, rfl, rfl, hp, fun j y hj => by omega⟩
    · rw [if_neg hp]
      have hp : p x = false := by simpa using hp
      rcases idxFrom_spec p r (k + 1) with ⟨h1, h2⟩ | ⟨i, y, h1, h2, h3, h4⟩
      · refine .inl ⟨h1, fun z hz => ?_⟩
        cases hz with
        | head => exact hp
        | tail _ hz => exact h2 z hz
      · refine .inr ⟨i + 1, y, by rw [h1]; congr 1; omega, by simpa using h2, h3, fun j z hj hz => ?_⟩
        cases j with
        | zero => simp at hz; subst hz; exact hp
        | succ j => exact h4 j z (by omega) (by simpa using hz)
end Go.Den

/- Rules for proofs over plain readings: sets of whole numbers, kept as maps to bool. Conditions: none. -/
set_option linter.unusedVariables false
set_option linter.unusedSimpArgs false
namespace Go.Den
/-- Block q is a map from these keys to true. -/
def SetAt (w : World) (q : Nat) (ks : List Int) : Prop := ∃ es clock, w.heap[q]? = some (.map ⟨es⟩ clock) ∧ es.map (·.key) = ks.map (Value.int .i64) ∧ ∀ e, e ∈ es → e.val = .bool true
theorem setAt_new (w : World) : SetAt (w.alloc (.map #[] 0)) w.heap.size [] := ⟨[], 0, block_alloc w _, rfl, fun e he => by cases he⟩
theorem SetAt.lt {w : World} {q : Nat} {ks : List Int} (h : SetAt w q ks) : q < w.heap.size := by obtain ⟨es, c, h, _⟩ := h; exact (Array.getElem?_eq_some_iff.1 h).1
theorem SetAt.only {S : Nat → Prop} {w w' : World} {q : Nat} {ks : List Int} (h : SetAt w q ks) (ho : Only S w w') (hS : ¬ S q) : SetAt w' q ks := by
  have hlt := h.lt
  obtain ⟨es, c, h, h2⟩ := h
  exact ⟨es, c, (ho.block q hlt hS).trans h, h2⟩
theorem SetAt.ext {w w' : World} {q : Nat} {ks : List Int} (h : SetAt w q ks) (ho : Ext w w') : SetAt w' q ks := h.only ho id
theorem findN_set (n : Int) : ∀ (es : List MapEntry) (ks : List Int) (i : Nat), es.map (·.key) = ks.map (Value.int .i64) → (∀ e, e ∈ es → e.val = .bool true) →
    (n ∉ ks ∧ findN (.int .i64 n) es i = some none) ∨ (n ∈ ks ∧ ∃ j, findN (.int .i64 n) es i = some (some (j, .bool true)))
  | [], ks, i, hk, _ => by
    have : ks = [] := by cases ks; rfl; cases hk
    subst this
    exact .inl ⟨by simp, rfl⟩
  | e :: es, ks, i, hk, hv => by
    cases ks with
    | nil => cases hk
    | cons m ks =>
      simp only [List.map_cons, List.cons.injEq] at hk
      unfold findN
      rw [hk.1]
      simp only [if_true]
      by_cases hnm : n = m
      · subst hnm
        simp only [beq_self_eq_true, if_true]
        exact .inr ⟨by simp, i, by rw [hv e (by simp)]⟩
      · rw [if_neg (by simpa using hnm)]
        rcases findN_set n es ks (i + 1) hk.2 (fun e he => hv e (by simp [he])) with ⟨h1, h2⟩ | ⟨h1, h2⟩
        · exact .inl ⟨by simp [hnm, h1], h2⟩
        · exact .inr ⟨by simp [h1], h2⟩
theorem SetAt.get {w : World} {q : Nat} {ks : List Int} (h : SetAt w q ks) (n : Int) {K : Option (Nat × Value) → Prop} (hk : ∀ o, valOr o (.bool false) = .bool (decide (n ∈ ks)) → K o) : MapGetW w (some q) (.int .i64 n) K := by
  obtain ⟨es, c, hq, h1, h2⟩ := h
  rcases findN_set n es ks 0 h1 h2 with ⟨h3, h4⟩ | ⟨h3, j, h4⟩
  · exact ⟨es, none, ⟨c, hq⟩, h4, hk _ (by simp [valOr, h3])⟩
  · exact ⟨es, _, ⟨c, hq⟩, h4, hk _ (by simp [valOr, h3])⟩
theorem only_setMap (w : World) (q : Nat) (o : Obj) : Only (fun k => k = q) w (setMap w q o) := ⟨rfl, rfl, rfl, by simp [setMap], fun k hk h => by
  show (w.heap.setIfInBounds q o)[k]? = _
  rw [Array.getElem?_setIfInBounds_ne (fun he => h he.symm)]⟩
/-- A key that is not there yet is laid in. -/
theorem SetAt.put {w : World} {q : Nat} {ks : List Int} (h : SetAt w q ks) {n : Int} (hn : n ∉ ks) {K : World → Prop} (hk : ∀ w', SetAt w' q (ks ++ [n]) → Only (fun k => k = q) w w' → K w') : MapPutW w (some q) (.int .i64 n) (.bool true) K := by
  have hlt := h.lt
  obtain ⟨es, c, hq, h1, h2⟩ := h
  rcases findN_set n es ks 0 h1 h2 with ⟨h3, h4⟩ | ⟨h3, j, h4⟩
  · refine ⟨q, es, c, none, rfl, hq, h4, hk _ ⟨es ++ [⟨.int .i64 n, .bool true, c⟩], c + 1, ?_, by simp [h1], fun e he => ?_⟩ (only_setMap _ _ _)⟩
    · show (w.heap.setIfInBounds q _)[q]? = _
      rw [Array.getElem?_setIfInBounds_self_of_lt hlt]; rfl
    · simp at he
      rcases he with he | he
      · exact h2 e he
      · rw [he]
  · exact absurd h3 hn
end Go.Den

/- Rules for the law's own functions: copying field by field, rows of structs written element by element. Conditions: none. -/
set_option linter.unusedVariables false
set_option linter.unusedSimpArgs false
namespace Go.Den
/-- One field copied from a block to another. -/
theorem copy_int {k : IntKind} {w : World} {a b i : Nat} {vs us : List Value} {n : Int} {Q : Int → World → Prop} (ha : Blk w a vs) (hb : Blk w b us) (hab : a ≠ b) (hv : vs[i]? = some (.int k n)) (hi : i < us.length)
    (hq : ∀ w', Blk w' a vs → Blk w' b (us.set i (.int k n)) → Only (fun j => j = b) w w' → Q n w') :
    ∃ n : Int, w.cell? ⟨a, i, none⟩ = some (.int k n) ∧ May w ⟨b, i, none⟩ ∧ LetW (w.setCell ⟨b, i, none⟩ (.int k n)) (fun w' => Q n w') :=
  ⟨n, by rw [ha.cell, hv], hb.may hi, LetW_iff.2 (hq _ (ha.only (only_set w _ _) hab) (hb.set i _) (only_set w ⟨b, i, none⟩ (.int k n)))⟩
theorem copy_sh (sh : Sh) {w : World} {a b i : Nat} {vs us : List Value} {x : sh.T} {Q : sh.T → World → Prop} (ha : Blk w a vs) (hb : Blk w b us) (hab : a ≠ b) (hv : vs[i]? = some (sh.mk x)) (hi : i < us.length)
    (hq : ∀ w', Blk w' a vs → Blk w' b (us.set i (sh.mk x)) → Only (fun j => j = b) w w' → Q x w') :
    ∃ n : sh.T, w.cell? ⟨a, i, none⟩ = some (sh.mk n) ∧ May w ⟨b, i, none⟩ ∧ LetW (w.setCell ⟨b, i, none⟩ (sh.mk n)) (fun w' => Q n w') :=
  ⟨x, by rw [ha.cell, hv], hb.may hi, LetW_iff.2 (hq _ (ha.only (only_set w _ _) hab) (hb.set i _) (only_set w ⟨b, i, none⟩ (sh.mk x)))⟩
/-- An element of one's own row of structs, written whole. -/
theorem OwnS.puts {w : World} {b0 z b : Nat} {s : Sl} {vs : List Value} (h : OwnS w b0 s z vs) (ha : s.a = some ⟨b, 0, Option.none⟩) {i : Nat} {us : List Value} (hu : us.length = z) (hi : i < s.len) :
    MayN w ((⟨b, 0, Option.none⟩ : Addr).add (i * z)) z ∧ OwnS (Den.puts w ((⟨b, 0, Option.none⟩ : Addr).add (i * z)) 0 us) b0 s z (setAll vs (i * z) us) ∧ Only (fun k => k = b) w (Den.puts w ((⟨b, 0, Option.none⟩ : Addr).add (i * z)) 0 us) := by
  obtain ⟨hl, h0 | ⟨b', cs, ha', hb0, hb, hc, hle, ht⟩⟩ := h
  · omega
  rw [ha] at ha'; cases ha'
  have hfit : i * z + z ≤ s.len * z := by rw [← Nat.succ_mul]; exact Nat.mul_le_mul_right _ hi
  have hcs : s.len * z ≤ cs.length := by rw [hc]; exact Nat.mul_le_mul_right _ hle
  rw [add_mk, Nat.zero_add]
  refine ⟨hb.mayN (by omega), ⟨by rw [setAll_length]; exact hl, .inr ⟨b, _, ha, hb0, Blk.puts us hb (i * z) 0, by rw [setAll_length]; exact hc, hle, ?_⟩⟩, only_puts us w ⟨b, i * z, Option.none⟩ 0⟩
  rw [Nat.add_zero]
  apply List.ext_getElem?
  intro j
  rw [List.getElem?_take]
  by_cases hj : j < s.len * z
  · rw [if_pos hj, setAll_get _ _ _ _ (by omega), setAll_get _ _ _ _ (by omega), ← ht, List.getElem?_take, if_pos hj]
  · rw [if_neg hj, List.getElem?_eq_none (by rw [setAll_length]; omega)]
/-- A block written whole. -/
theorem blk_put {w : World} {b z : Nat} {cs us : List Value} (h : Blk w b cs) (hl : cs.length = z) (hu : us.length = z) {Q : World → Prop} (hq : ∀ w', Only (fun k => k = b) w w' → Blk w' b us → Q w') :
    MayN w ⟨b, 0, none⟩ z ∧ LetW (Den.puts w ⟨b, 0, none⟩ 0 us) Q := by
  refine ⟨h.mayN (by omega), LetW_iff.2 (hq _ (only_puts us w ⟨b, 0, none⟩ 0) ?_)⟩
  have hb := Blk.puts us h 0 0
  have he : setAll cs (0 + 0) us = us := by
    rw [setAll_eq _ _ _ (by omega)]
    have : List.drop us.length cs = [] := List.drop_eq_nil_of_le (by omega)
    simp [this]
  rw [he] at hb
  exact hb
/-- The zeros of a new row. -/
theorem zeros_own {w : World} {e : TypeId} {n z : Nat} {zero : List Value} (hz : zero.length = z) : OwnS (w.alloc (.cells ⟨zerosOf zero n⟩ e)) w.heap.size ⟨some ⟨w.heap.size, 0, none⟩, n, n⟩ z (zerosOf zero n) :=
  OwnS.new (blk_alloc w _ e) (Nat.le_refl _) (by rw [zerosOf_length, hz])
/-- The first elements are there, the others are anything. -/
theorem setAll_flat {α : Type} (f : α → List Value) (z : Nat) (hf : ∀ a, (f a).length = z) (l : List α) (vs : List Value) (i : Nat) (x : α) (hx : l[i]? = some x) (hv : vs.length = l.length * z) (hh : vs.take (i * z) = (l.take i).flatMap f) :
    (setAll vs (i * z) (f x)).take ((i + 1) * z) = (l.take (i + 1)).flatMap f := by
  have hi := (List.getElem?_eq_some_iff.1 hx).1
  have hfit : i * z + z ≤ vs.length := by rw [hv, ← Nat.succ_mul]; exact Nat.mul_le_mul_right _ hi
  rw [setAll_eq _ _ _ (by rw [hf]; exact hfit), hh, List.take_add_one, hx]
  have hl : ((l.take i).flatMap f ++ f x).length = (i + 1) * z := by
    rw [List.length_append, flatMap_length f z hf, hf, List.length_take, Nat.min_eq_left (by omega), Nat.succ_mul]
  rw [← hl, List.take_left]
  simp [List.flatMap_append]
end Go.Den

/- Go's data as trees: how they lie in memory, lent or owned; their sizes; what has been marked. Conditions: none. -/
set_option linter.unusedVariables false
set_option linter.unusedSimpArgs false
namespace Go.Den
inductive Dat where
  | int (k : IntKind) (n : Int)
  | bool (b : Bool)
  | str (s : ByteArray)
  | st (fs : List Dat)
  | sl (z : Nat) (l : List Dat)
/-- Types of trees. -/
inductive Ty where
  | int (k : IntKind)
  | bool
  | str
  | st (fs : List Ty)
  | sl (z : Nat) (t : Ty)
mutual
def Has : Ty → Dat → Prop
  | .int k, d => ∃ n, d = .int k n
  | .bool, d => ∃ b, d = .bool b
  | .str, d => ∃ s, d = .str s
  | .st fs, d => ∃ ds, d = .st ds ∧ HasF fs ds
  | .sl z t, d => ∃ l, d = .sl z l ∧ ∀ e, e ∈ l → Has t e
def HasF : List Ty → List Dat → Prop
  | [], ds => ds = []
  | t :: r, ds => ∃ d ds', ds = d :: ds' ∧ Has t d ∧ HasF r ds'
end
/-! ## Lent -/
mutual
def IsD (w : World) : Dat → List Value → Prop
  | .int k n, cs => cs = [.int k n] ∧ (Lit.int k n).wf = true
  | .bool b, cs => cs = [.bool b]
  | .str s, cs => cs = [.string s] ∧ s.size ≤ maxLen
  | .st fs, cs => IsF w fs cs
  | .sl z l, cs => ∃ a cap, cs = [.slice a l.length cap] ∧ l.length ≤ cap ∧ l.length ≤ maxLen ∧ IsE w z a l 0
def IsF (w : World) : List Dat → List Value → Prop
  | [], cs => cs = []
  | d :: r, cs => ∃ c1 c2, cs = c1 ++ c2 ∧ IsD w d c1 ∧ IsF w r c2
def IsE (w : World) (z : Nat) (a : Option Addr) : List Dat → Nat → Prop
  | [], _ => True
  | d :: r, i => (∃ p es, a = some p ∧ es.length = z ∧ (∀ j v, es[j]? = some v → w.cell? ((p.add (i * z)).add j) = some v) ∧ IsD w d es) ∧ IsE w z a r (i + 1)
end
mutual
theorem IsD.ext {w w' : World} (e : Ext w w') : ∀ (d : Dat) (cs : List Value), IsD w d cs → IsD w' d cs
  | .int k n, cs, h => by unfold IsD at h ⊢; exact h
  | .bool b, cs, h => by unfold IsD at h ⊢; exact h
  | .str s, cs, h => by unfold IsD at h ⊢; exact h
  | .st fs, cs, h => by unfold IsD at h ⊢; exact IsF.ext e fs cs h
  | .sl z l, cs, h => by
    unfold IsD at h ⊢
    obtain ⟨a, cap, h1, h2, h3, h4⟩ := h
    exact ⟨a, cap, h1, h2, h3, IsE.ext e z a l 0 h4⟩
theorem IsF.ext {w w' : World} (e : Ext w w') : ∀ (l : List Dat) (cs : List Value), IsF w l cs → IsF w' l cs
  | [], cs, h => by unfold IsF at h ⊢; exact h
  | d :: r, cs, h => by
    unfold IsF at h ⊢
    obtain ⟨c1, c2, h1, h2, h3⟩ := h
    exact ⟨c1, c2, h1, IsD.ext e d c1 h2, IsF.ext e r c2 h3⟩
theorem IsE.ext {w w' : World} (e : Ext w w') (z : Nat) (a : Option Addr) : ∀ (l : List Dat) (i : Nat), IsE w z a l i → IsE w' z a l i
  | [], i, h => by unfold IsE; trivial
  | d :: r, i, h => by
    unfold IsE at h ⊢
    obtain ⟨⟨p, es, h1, h2, h3, h4⟩, h5⟩ := h
    exact ⟨⟨p, es, h1, h2, fun j v hj => e.cell (h3 j v hj), IsD.ext e d es h4⟩, IsE.ext e z a r (i + 1) h5⟩
end
theorem IsE.get {w : World} {z : Nat} {a : Option Addr} : ∀ {l : List Dat} {i : Nat}, IsE w z a l i → ∀ {j : Nat} {d : Dat}, l[j]? = some d → ∃ p es, a = some p ∧ es.length = z ∧ (∀ m v, es[m]? = some v → w.cell? ((p.add ((i + j) * z)).add m) = some v) ∧ IsD w d es
  | [], i, h, j, d, hj => by simp at hj
  | x :: r, i, h, 0, d, hj => by
    unfold IsE at h
    simp at hj; subst hj
    exact h.1
  | x :: r, i, h, j + 1, d, hj => by
    unfold IsE at h
    have := IsE.get h.2 (j := j) (d := d) (by simpa using hj)
    rwa [show i + 1 + j = i + (j + 1) by omega] at this
theorem IsE.mk {w : World} {z : Nat} {a : Option Addr} : ∀ {l : List Dat} {i : Nat}, (∀ j d, l[j]? = some d → ∃ p es, a = some p ∧ es.length = z ∧ (∀ m v, es[m]? = some v → w.cell? ((p.add ((i + j) * z)).add m) = some v) ∧ IsD w d es) → IsE w z a l i
  | [], i, h => by unfold IsE; trivial
  | x :: r, i, h => by
    unfold IsE
    refine ⟨h 0 x rfl, IsE.mk (fun j d hj => ?_)⟩
    rw [show i + 1 + j = i + (j + 1) by omega]
    exact h (j + 1) d (by simpa using hj)
/-! ## Owned: bs are all blocks that are reached -/
mutual
def OwnD (w : World) : Dat → List Nat → List Value → Prop
  | .int k n, bs, cs => bs = [] ∧ cs = [.int k n] ∧ (Lit.int k n).wf = true
  | .bool b, bs, cs => bs = [] ∧ cs = [.bool b]
  | .str s, bs, cs => bs = [] ∧ cs = [.string s] ∧ s.size ≤ maxLen
  | .st fs, bs, cs => OwnF w fs bs cs
  | .sl z l, bs, cs => ∃ a cap, cs = [.slice a l.length cap] ∧ l.length ≤ cap ∧ l.length ≤ maxLen ∧
      ((cap = 0 ∧ bs = []) ∨ ∃ b bs' vs, a = some ⟨b, 0, none⟩ ∧ bs = b :: bs' ∧ Blk w b vs ∧ vs.length = cap * z ∧ OwnE w z l bs' vs)
def OwnF (w : World) : List Dat → List Nat → List Value → Prop
  | [], bs, cs => bs = [] ∧ cs = []
  | d :: r, bs, cs => ∃ b1 b2 c1 c2, bs = b1 ++ b2 ∧ cs = c1 ++ c2 ∧ OwnD w d b1 c1 ∧ OwnF w r b2 c2
def OwnE (w : World) (z : Nat) : List Dat → List Nat → List Value → Prop
  | [], bs, vs => bs = []
  | d :: r, bs, vs => ∃ b1 b2 v1 v2, bs = b1 ++ b2 ∧ vs = v1 ++ v2 ∧ v1.length = z ∧ OwnD w d b1 v1 ∧ OwnE w z r b2 v2
end
mutual
theorem OwnD.only {w w' : World} {S : Nat → Prop} (o : Only S w w') : ∀ (d : Dat) (bs : List Nat) (cs : List Value), (∀ b, b ∈ bs → ¬ S b) → OwnD w d bs cs → OwnD w' d bs cs
  | .int k n, bs, cs, hS, h => by unfold OwnD at h ⊢; exact h
  | .bool b, bs, cs, hS, h => by unfold OwnD at h ⊢; exact h
  | .str s, bs, cs, hS, h => by unfold OwnD at h ⊢; exact h
  | .st fs, bs, cs, hS, h => by unfold OwnD at h ⊢; exact OwnF.only o fs bs cs hS h
  | .sl z l, bs, cs, hS, h => by
    unfold OwnD at h ⊢
    obtain ⟨a, cap, h1, h2, h3, h4⟩ := h
    refine ⟨a, cap, h1, h2, h3, ?_⟩
    rcases h4 with h4 | ⟨b, bs', vs, h5, h6, h7, h8, h9⟩
    · exact .inl h4
    · subst h6
      exact .inr ⟨b, bs', vs, h5, rfl, h7.only o (hS b (by simp)), h8, OwnE.only o z l bs' vs (fun b hb => hS b (by simp [hb])) h9⟩
theorem OwnF.only {w w' : World} {S : Nat → Prop} (o : Only S w w') : ∀ (l : List Dat) (bs : List Nat) (cs : List Value), (∀ b, b ∈ bs → ¬ S b) → OwnF w l bs cs → OwnF w' l bs cs
  | [], bs, cs, hS, h => by unfold OwnF at h ⊢; exact h
  | d :: r, bs, cs, hS, h => by
    unfold OwnF at h ⊢
    obtain ⟨b1, b2, c1, c2, h1, h2, h3, h4⟩ := h
    subst h1
    exact ⟨b1, b2, c1, c2, rfl, h2, OwnD.only o d b1 c1 (fun b hb => hS b (by simp [hb])) h3, OwnF.only o r b2 c2 (fun b hb => hS b (by simp [hb])) h4⟩
theorem OwnE.only {w w' : World} {S : Nat → Prop} (o : Only S w w') (z : Nat) : ∀ (l : List Dat) (bs : List Nat) (vs : List Value), (∀ b, b ∈ bs → ¬ S b) → OwnE w z l bs vs → OwnE w' z l bs vs
  | [], bs, vs, hS, h => by unfold OwnE at h ⊢; exact h
  | d :: r, bs, vs, hS, h => by
    unfold OwnE at h ⊢
    obtain ⟨b1, b2, v1, v2, h1, h2, h3, h4, h5⟩ := h
    subst h1
    exact ⟨b1, b2, v1, v2, rfl, h2, h3, OwnD.only o d b1 v1 (fun b hb => hS b (by simp [hb])) h4, OwnE.only o z r b2 v2 (fun b hb => hS b (by simp [hb])) h5⟩
end
mutual
theorem OwnD.lt {w : World} : ∀ (d : Dat) (bs : List Nat) (cs : List Value), OwnD w d bs cs → ∀ b, b ∈ bs → b < w.heap.size
  | .int k n, bs, cs, h => by unfold OwnD at h; intro b hb; rw [h.1] at hb; cases hb
  | .bool b, bs, cs, h => by unfold OwnD at h; intro b hb; rw [h.1] at hb; cases hb
  | .str s, bs, cs, h => by unfold OwnD at h; intro b hb; rw [h.1] at hb; cases hb
  | .st fs, bs, cs, h => by unfold OwnD at h; exact OwnF.lt fs bs cs h
  | .sl z l, bs, cs, h => by
    unfold OwnD at h
    obtain ⟨a, cap, h1, h2, h3, h4⟩ := h
    rcases h4 with h4 | ⟨b, bs', vs, h5, h6, h7, h8, h9⟩
    · intro b hb; rw [h4.2] at hb; cases hb
    · subst h6
      intro c hc
      rcases List.mem_cons.1 hc with rfl | hc
      · exact h7.lt
      · exact OwnE.lt z l bs' vs h9 c hc
theorem OwnF.lt {w : World} : ∀ (l : List Dat) (bs : List Nat) (cs : List Value), OwnF w l bs cs → ∀ b, b ∈ bs → b < w.heap.size
  | [], bs, cs, h => by unfold OwnF at h; intro b hb; rw [h.1] at hb; cases hb
  | d :: r, bs, cs, h => by
    unfold OwnF at h
    obtain ⟨b1, b2, c1, c2, h1, h2, h3, h4⟩ := h
    subst h1
    intro b hb
    rcases List.mem_append.1 hb with hb | hb
    · exact OwnD.lt d b1 c1 h3 b hb
    · exact OwnF.lt r b2 c2 h4 b hb
theorem OwnE.lt {w : World} (z : Nat) : ∀ (l : List Dat) (bs : List Nat) (vs : List Value), OwnE w z l bs vs → ∀ b, b ∈ bs → b < w.heap.size
  | [], bs, vs, h => by unfold OwnE at h; intro b hb; rw [h] at hb; cases hb
  | d :: r, bs, vs, h => by
    unfold OwnE at h
    obtain ⟨b1, b2, v1, v2, h1, h2, h3, h4, h5⟩ := h
    subst h1
    intro b hb
    rcases List.mem_append.1 hb with hb | hb
    · exact OwnD.lt d b1 v1 h4 b hb
    · exact OwnE.lt z r b2 v2 h5 b hb
end
mutual
theorem OwnD.is {w : World} : ∀ (d : Dat) (bs : List Nat) (cs : List Value), OwnD w d bs cs → IsD w d cs
  | .int k n, bs, cs, h => by unfold OwnD at h; unfold IsD; exact h.2
  | .bool b, bs, cs, h => by unfold OwnD at h; unfold IsD; exact h.2
  | .str s, bs, cs, h => by unfold OwnD at h; unfold IsD; exact h.2
  | .st fs, bs, cs, h => by unfold OwnD at h; unfold IsD; exact OwnF.is fs bs cs h
  | .sl z l, bs, cs, h => by
    unfold OwnD at h; unfold IsD
    obtain ⟨a, cap, h1, h2, h3, h4⟩ := h
    refine ⟨a, cap, h1, h2, h3, ?_⟩
    rcases h4 with h4 | ⟨b, bs', vs, h5, h6, h7, h8, h9⟩
    · have : l = [] := List.eq_nil_of_length_eq_zero (by omega)
      subst this; unfold IsE; trivial
    · subst h5
      exact OwnE.is z b vs h7 l 0 bs' vs (by simp) h9
theorem OwnF.is {w : World} : ∀ (l : List Dat) (bs : List Nat) (cs : List Value), OwnF w l bs cs → IsF w l cs
  | [], bs, cs, h => by unfold OwnF at h; unfold IsF; exact h.2
  | d :: r, bs, cs, h => by
    unfold OwnF at h; unfold IsF
    obtain ⟨b1, b2, c1, c2, h1, h2, h3, h4⟩ := h
    exact ⟨c1, c2, h2, OwnD.is d b1 c1 h3, OwnF.is r b2 c2 h4⟩
theorem OwnE.is {w : World} (z b : Nat) (us : List Value) (hb : Blk w b us) : ∀ (l : List Dat) (i : Nat) (bs : List Nat) (vs : List Value), us.drop (i * z) = vs → OwnE w z l bs vs → IsE w z (some ⟨b, 0, none⟩) l i
  | [], i, bs, vs, hv, h => by unfold IsE; trivial
  | d :: r, i, bs, vs, hv, h => by
    unfold OwnE at h; unfold IsE
    obtain ⟨b1, b2, v1, v2, h1, h2, h3, h4, h5⟩ := h
    refine ⟨⟨_, v1, rfl, h3, fun j v hj => ?_, OwnD.is d b1 v1 h4⟩, OwnE.is z b us hb r (i + 1) b2 v2 ?_ h5⟩
    · rw [add_mk, add_mk, hb.cell, Nat.zero_add, ← List.getElem?_drop, hv, h2, List.getElem?_append_left (List.getElem?_eq_some_iff.1 hj).1]
      exact hj
    · rw [Nat.succ_mul, ← List.drop_drop, hv, h2, ← h3, List.drop_left]
end
end Go.Den
namespace Go.Den
/-! ## How many -/
mutual
def Dat.sz : Dat → Nat
  | .int _ _ => 0
  | .bool _ => 0
  | .str s => s.size
  | .st fs => Dat.szs fs
  | .sl _ l => l.length + Dat.szs l
def Dat.szs : List Dat → Nat
  | [] => 0
  | d :: r => d.sz + Dat.szs r
end
/-! How many marks, in an element. -/
mutual
def Dat.cnt : Dat → Nat
  | .int _ _ => 1
  | .bool _ => 1
  | .str _ => 1
  | .st fs => Dat.cnts fs
  | .sl _ l => Dat.cnts l
def Dat.cnts : List Dat → Nat
  | [] => 0
  | d :: r => d.cnt + Dat.cnts r
end
/-! How many marks, handed by value. -/
mutual
def Dat.cntT : Dat → Nat
  | .int _ _ => 0
  | .bool _ => 0
  | .str _ => 0
  | .st fs => Dat.cntTs fs
  | .sl _ l => Dat.cnts l
def Dat.cntTs : List Dat → Nat
  | [] => 0
  | d :: r => d.cntT + Dat.cntTs r
end
/-! ## Marked, from k on -/
mutual
def Marked (T : Int → ByteArray) : Dat → Int → Prop
  | .int kd n, k => n = kd.wrap k
  | .bool b, k => b = (k % 3 == 0)
  | .str s, k => s = T k
  | .st fs, k => MarkedF T fs k
  | .sl _ l, k => MarkedF T l k
def MarkedF (T : Int → ByteArray) : List Dat → Int → Prop
  | [], k => True
  | d :: r, k => Marked T d k ∧ MarkedF T r (k + d.cnt)
end
mutual
def MarkedT (T : Int → ByteArray) : Dat → Int → Prop
  | .int kd n, k => True
  | .bool b, k => True
  | .str s, k => True
  | .st fs, k => MarkedTF T fs k
  | .sl _ l, k => MarkedF T l k
def MarkedTF (T : Int → ByteArray) : List Dat → Int → Prop
  | [], k => True
  | d :: r, k => MarkedT T d k ∧ MarkedTF T r (k + d.cntT)
end
theorem szs_append : ∀ (a b : List Dat), Dat.szs (a ++ b) = Dat.szs a + Dat.szs b
  | [], b => by simp [Dat.szs]
  | d :: r, b => by simp only [List.cons_append, Dat.szs, szs_append r b]; omega
theorem cnts_append : ∀ (a b : List Dat), Dat.cnts (a ++ b) = Dat.cnts a + Dat.cnts b
  | [], b => by simp [Dat.cnts]
  | d :: r, b => by simp only [List.cons_append, Dat.cnts, cnts_append r b]; omega
theorem MarkedF_append {T : Int → ByteArray} : ∀ (a b : List Dat) (k : Int), MarkedF T (a ++ b) k ↔ MarkedF T a k ∧ MarkedF T b (k + Dat.cnts a)
  | [], b, k => by simp [MarkedF, Dat.cnts]
  | d :: r, b, k => by
    simp only [List.cons_append, MarkedF, Dat.cnts, MarkedF_append r b]
    rw [show k + (d.cnt : Int) + (Dat.cnts r : Int) = k + ((d.cnt + Dat.cnts r : Nat) : Int) by omega]
    exact and_assoc.symm
/-! ## One element of many -/
theorem OwnE.split {w : World} {z : Nat} : ∀ {l : List Dat} {bs : List Nat} {vs : List Value}, OwnE w z l bs vs → ∀ {i : Nat} {d : Dat}, l[i]? = some d →
    ∃ bp b1 bq vp v1 vq, bs = bp ++ (b1 ++ bq) ∧ vs = vp ++ (v1 ++ vq) ∧ vp.length = i * z ∧ v1.length = z ∧ OwnE w z (l.take i) bp vp ∧ OwnD w d b1 v1 ∧ OwnE w z (l.drop (i + 1)) bq vq
  | [], bs, vs, h, i, d, hi => by simp at hi
  | x :: r, bs, vs, h, 0, d, hi => by
    simp at hi; subst hi
    unfold OwnE at h
    obtain ⟨b1, b2, v1, v2, h1, h2, h3, h4, h5⟩ := h
    refine ⟨[], b1, b2, [], v1, v2, h1, h2, by simp, h3, ?_, h4, h5⟩
    rw [List.take_zero]; unfold OwnE; rfl
  | x :: r, bs, vs, h, i + 1, d, hi => by
    unfold OwnE at h
    obtain ⟨b1, b2, v1, v2, h1, h2, h3, h4, h5⟩ := h
    obtain ⟨bp, c1, bq, vp, u1, vq, k1, k2, k3, k4, k5, k6, k7⟩ := OwnE.split h5 (i := i) (d := d) (by simpa using hi)
    refine ⟨b1 ++ bp, c1, bq, v1 ++ vp, u1, vq, by rw [h1, k1]; simp, by rw [h2, k2]; simp, by rw [List.length_append, h3, k3, Nat.succ_mul]; omega, k4, ?_, k6, by simpa using k7⟩
    rw [List.take_succ_cons]
    unfold OwnE
    exact ⟨b1, bp, v1, vp, rfl, rfl, h3, h4, k5⟩
theorem OwnE.join {w : World} {z : Nat} : ∀ {l r : List Dat} {b1 b2 : List Nat} {v1 v2 : List Value}, OwnE w z l b1 v1 → v1.length = l.length * z → OwnE w z r b2 v2 → OwnE w z (l ++ r) (b1 ++ b2) (v1 ++ v2)
  | [], r, b1, b2, v1, v2, h, hv, h2 => by
    unfold OwnE at h; subst h
    have : v1 = [] := List.eq_nil_of_length_eq_zero (by simpa using hv)
    subst this
    simpa using h2
  | x :: l, r, b1, b2, v1, v2, h, hv, h2 => by
    unfold OwnE at h
    obtain ⟨c1, c2, u1, u2, h3, h4, h5, h6, h7⟩ := h
    subst h3; subst h4
    rw [List.cons_append]
    unfold OwnE
    refine ⟨c1, c2 ++ b2, u1, u2 ++ v2, by simp, by simp, h5, h6, OwnE.join h7 ?_ h2⟩
    rw [List.length_append, h5, List.length_cons, Nat.succ_mul] at hv
    omega
theorem OwnE.vlen {w : World} {z : Nat} : ∀ {l : List Dat} {bs : List Nat} {vs : List Value}, OwnE w z l bs vs → l.length * z ≤ vs.length
  | [], bs, vs, h => by simp
  | x :: l, bs, vs, h => by
    unfold OwnE at h
    obtain ⟨c1, c2, u1, u2, h3, h4, h5, h6, h7⟩ := h
    have := h7.vlen
    rw [h4, List.length_append, h5, List.length_cons, Nat.succ_mul]; omega
theorem OwnE.cons {w : World} {z : Nat} {d : Dat} {l : List Dat} {b1 b2 : List Nat} {v1 v2 : List Value} (h1 : v1.length = z) (h2 : OwnD w d b1 v1) (h3 : OwnE w z l b2 v2) : OwnE w z (d :: l) (b1 ++ b2) (v1 ++ v2) := by
  unfold OwnE; exact ⟨b1, b2, v1, v2, rfl, rfl, h1, h2, h3⟩
theorem szs_get {l : List Dat} {i : Nat} {d : Dat} (h : l[i]? = some d) : d.sz + Dat.szs (l.take i) ≤ Dat.szs l := by
  have hi := (List.getElem?_eq_some_iff.1 h).1
  have := szs_append (l.take i) (l.drop i)
  rw [List.take_append_drop, List.drop_eq_getElem_cons hi] at this
  have hd : l[i] = d := (List.getElem?_eq_some_iff.1 h).2
  rw [hd] at this
  simp only [Dat.szs] at this; omega
end Go.Den

/- Rules for the laws' own functions over trees: copies made element by element. Conditions: none. -/
set_option linter.unusedVariables false
set_option linter.unusedSimpArgs false
namespace Go.Den
/-- A tree that lies in blocks made since w, each of its own. -/
def Fresh (w w' : World) (d : Dat) (cs : List Value) : Prop := ∃ bs, OwnD w' d bs cs ∧ bs.Nodup ∧ ∀ b, b ∈ bs → w.heap.size ≤ b
theorem OwnE.cut {w : World} {z : Nat} : ∀ {l : List Dat} {bs : List Nat} {vs us : List Value}, OwnE w z l bs vs → vs.take (l.length * z) = us.take (l.length * z) → OwnE w z l bs us
  | [], bs, vs, us, h, e => by unfold OwnE at h ⊢; exact h
  | x :: l, bs, vs, us, h, e => by
    have hl := h.vlen
    unfold OwnE at h ⊢
    obtain ⟨c1, c2, u1, u2, h3, h4, h5, h6, h7⟩ := h
    subst h4
    simp only [List.length_cons, Nat.succ_mul] at e hl
    have e1 : us.take z = u1 := by
      have := congrArg (List.take z) e
      rw [List.take_take, List.take_take, Nat.min_eq_left (by omega), ← h5, List.take_left] at this
      rw [← h5]; exact this.symm
    have e2 : u2.take (l.length * z) = (us.drop z).take (l.length * z) := by
      have := congrArg (List.drop z) e
      rw [List.drop_take, List.drop_take, show l.length * z + z - z = l.length * z by omega] at this
      rw [← this, ← h5, List.drop_left]
    exact ⟨c1, c2, u1, us.drop z, h3, by rw [← e1, List.take_append_drop], h5, h6, h7.cut e2⟩
structure ToInv (w0 w : World) (b z : Nat) (l : List Dat) (i : Nat) (bs : List Nat) (vs : List Value) : Prop where
  ext : Ext w0 w
  b0 : w0.heap.size ≤ b
  blk : Blk w b vs
  len : vs.length = l.length * z
  own : OwnE w z (l.take i) bs vs
  hi : ∀ c, c ∈ bs → b < c
  nd : bs.Nodup
  le : i ≤ l.length
theorem ToInv.start {w : World} {z : Nat} {zero : List Value} {e : TypeId} (l : List Dat) (hz : zero.length = z) : ToInv w (w.alloc (.cells ⟨zerosOf zero l.length⟩ e)) w.heap.size z l 0 [] (zerosOf zero l.length) :=
  ⟨ext_alloc w _, Nat.le_refl _, blk_alloc w _ e, by rw [zerosOf_length, hz], by rw [List.take_zero]; unfold OwnE; rfl, fun c h => (by cases h), List.nodup_nil, Nat.zero_le _⟩
theorem ToInv.step {w0 w w2 : World} {b z i : Nat} {l : List Dat} {bs b1 : List Nat} {vs v1 : List Value} {d : Dat} (h : ToInv w0 w b z l i bs vs) (hd : l[i]? = some d) (e : Ext w w2) (ho : OwnD w2 d b1 v1) (hn : b1.Nodup) (hb1 : ∀ c, c ∈ b1 → w.heap.size ≤ c) (hv : v1.length = z) :
    MayN w2 ((⟨b, 0, Option.none⟩ : Addr).add (i * z)) z ∧ ToInv w0 (Den.puts w2 ((⟨b, 0, Option.none⟩ : Addr).add (i * z)) 0 v1) b z l (i + 1) (bs ++ b1) (setAll vs (i * z) v1) := by
  have hi := (List.getElem?_eq_some_iff.1 hd).1
  have hbl := h.blk.ext e
  have hlt := h.blk.lt
  have hfit : i * z + z ≤ vs.length := by rw [h.len, ← Nat.succ_mul]; exact Nat.mul_le_mul_right _ hi
  have hop := only_puts v1 w2 ⟨b, i * z, Option.none⟩ 0
  rw [add_mk, Nat.zero_add]
  have hbn : ∀ c, c ∈ bs → ¬ c = b := fun c hc he => by have := h.hi c hc; omega
  have hbn1 : ∀ c, c ∈ b1 → ¬ c = b := fun c hc he => by have := hb1 c hc; omega
  refine ⟨hbl.mayN hfit, ⟨h.ext.own (Only.trans e.any hop) (fun k hk => ?_), h.b0, ?_, ?_, ?_, ?_, ?_, hi⟩⟩
  · have := h.b0; subst hk; exact this
  · have := Blk.puts v1 hbl (i * z) 0
    rwa [Nat.add_zero] at this
  · rw [setAll_length]; exact h.len
  · have h1 : OwnE (Den.puts w2 ⟨b, i * z, Option.none⟩ 0 v1) z (l.take i) bs (vs.take (i * z)) := by
      have := OwnE.only (Only.trans e.any hop) z _ _ _ hbn h.own
      exact this.cut (by rw [List.length_take, Nat.min_eq_left h.le, List.take_take, Nat.min_self])
    have h2 : OwnE (Den.puts w2 ⟨b, i * z, Option.none⟩ 0 v1) z [d] b1 (v1 ++ vs.drop (i * z + v1.length)) := by
      have := OwnE.cons (z := z) (l := []) (b2 := []) (v2 := vs.drop (i * z + v1.length)) hv (OwnD.only hop _ _ _ hbn1 ho) (by unfold OwnE; rfl)
      rwa [List.append_nil] at this
    rw [setAll_eq _ _ _ (by omega), List.append_assoc]
    rw [List.take_add_one, hd]
    exact OwnE.join h1 (by rw [List.length_take, List.length_take, Nat.min_eq_left h.le, Nat.min_eq_left (by omega)]) h2
  · intro c hc
    rcases List.mem_append.1 hc with hc | hc
    · exact h.hi c hc
    · have := hb1 c hc; omega
  · rw [List.nodup_append]
    refine ⟨h.nd, hn, fun x hx y hy hxy => ?_⟩
    have h1 := OwnE.lt z _ _ _ h.own x hx
    have h2 := hb1 y hy
    omega
theorem ToInv.done {w0 w : World} {b z i : Nat} {l : List Dat} {bs : List Nat} {vs : List Value} (h : ToInv w0 w b z l i bs vs) (hi : l.length ≤ i) (hm : l.length ≤ maxLen) : Fresh w0 w (.sl z l) [.slice (some ⟨b, 0, Option.none⟩) l.length l.length] := by
  have hz := h.own
  have hle := h.le
  rw [List.take_of_length_le (by omega)] at hz
  refine ⟨b :: bs, ?_, ?_, ?_⟩
  · unfold OwnD
    exact ⟨_, _, rfl, Nat.le_refl _, hm, .inr ⟨b, bs, vs, rfl, rfl, h.blk, h.len, hz⟩⟩
  · rw [List.nodup_cons]
    exact ⟨fun hb => by have := h.hi b hb; omega, h.nd⟩
  · intro c hc
    have := h.b0
    rcases List.mem_cons.1 hc with rfl | hc
    · exact this
    · have := h.hi c hc; omega
theorem puts_one {w : World} {p : Addr} {v : Value} : Den.puts w p 0 [v] = w.setCell p v := by simp only [Den.puts, add_zero]
theorem mayN_one {w : World} {p : Addr} (h : MayN w p 1) : May w p := by have := h 0 (by omega); rwa [add_zero] at this
theorem Fresh.is {w w' : World} {d : Dat} {cs : List Value} (h : Fresh w w' d cs) : IsD w' d cs := by obtain ⟨bs, h, _⟩ := h; exact OwnD.is _ _ _ h
theorem Fresh.ext {w w' w2 : World} {d : Dat} {cs : List Value} (h : Fresh w w' d cs) (e : Ext w' w2) : Fresh w w2 d cs := by obtain ⟨bs, h, h2⟩ := h; exact ⟨bs, OwnD.only e _ _ _ (fun _ _ => id) h, h2⟩
theorem Fresh.mono {w0 w w' : World} {d : Dat} {cs : List Value} (h : Fresh w w' d cs) (hs : w0.heap.size ≤ w.heap.size) : Fresh w0 w' d cs := by obtain ⟨bs, h, h2, h3⟩ := h; exact ⟨bs, h, h2, fun b hb => Nat.le_trans hs (h3 b hb)⟩
/-! ## A slice that is lent -/
theorem isD_sl {w : World} {z : Nat} {l : List Dat} {s : Sl} (h : IsD w (.sl z l) [.slice s.a s.len s.cap]) : s.len = l.length ∧ l.length ≤ maxLen ∧ IsE w z s.a l 0 := by
  unfold IsD at h
  obtain ⟨a, cap, h1, h2, h3, h4⟩ := h
  simp only [List.cons.injEq, Value.slice.injEq, and_true] at h1
  obtain ⟨rfl, h5, rfl⟩ := h1
  exact ⟨h5, h3, h4⟩
theorem isD_at {w : World} {z : Nat} {l : List Dat} {s : Sl} (h : IsD w (.sl z l) [.slice s.a s.len s.cap]) {i : Nat} {d : Dat} (hd : l[i]? = some d) : ∃ p es, s.a = some p ∧ es.length = z ∧ (∀ m v, es[m]? = some v → w.cell? ((p.add (i * z)).add m) = some v) ∧ IsD w d es := by
  obtain ⟨_, _, h4⟩ := isD_sl h
  obtain ⟨p, es, h1, h2, h3, h5⟩ := h4.get hd
  rw [Nat.zero_add] at h3
  exact ⟨p, es, h1, h2, h3, h5⟩
/-- What a size comes to. -/
def SzPost (n : Nat) (left : Int) (v : Value) : Prop := ∃ r : Int, v = .int .i64 r ∧ ((r = left - n ∧ 0 ≤ r) ∨ (r < 0 ∧ left < n))
theorem Has.sl_len {z : Nat} {t : Ty} {d : Dat} (h : Has (.sl z t) d) : ∃ l, d = .sl z l ∧ ∀ e, e ∈ l → Has t e := by unfold Has at h; exact h
theorem mem_get {l : List Dat} {i : Nat} {d : Dat} (h : l[i]? = some d) : d ∈ l := List.mem_of_getElem? h
/-! ## Marks in one's own row -/
/-- The middle of a block: one element, of cells v1, between others. -/
structure Mid (w : World) (b z : Nat) (lp lq : List Dat) (bp bq : List Nat) (vp v1 vq : List Value) : Prop where
  blk : Blk w b (vp ++ (v1 ++ vq))
  p : OwnE w z lp bp vp
  q : OwnE w z lq bq vq
  len : v1.length = z
theorem Mid.set {w : World} {b z : Nat} {lp lq : List Dat} {bp bq : List Nat} {vp v1 vq : List Value} (h : Mid w b z lp lq bp bq vp v1 vq) (hb : ∀ c, c ∈ bp ∨ c ∈ bq → c ≠ b) {j : Nat} (hj : j < z) (v : Value) :
    May w (((⟨b, 0, Option.none⟩ : Addr).add vp.length).add j) ∧ Mid (w.setCell (((⟨b, 0, Option.none⟩ : Addr).add vp.length).add j) v) b z lp lq bp bq vp (v1.set j v) vq ∧ Only (fun k => k = b) w (w.setCell (((⟨b, 0, Option.none⟩ : Addr).add vp.length).add j) v) := by
  rw [add_mk, add_mk, Nat.zero_add]
  have o : Only (fun k => k = b) w (w.setCell ⟨b, vp.length + j, Option.none⟩ v) := only_set w ⟨b, vp.length + j, Option.none⟩ v
  refine ⟨h.blk.may (by simp only [List.length_append, h.len]; omega), ⟨?_, OwnE.only o z _ _ _ (fun c hc he => hb c (.inl hc) he) h.p, OwnE.only o z _ _ _ (fun c hc he => hb c (.inr hc) he) h.q, by rw [List.length_set]; exact h.len⟩, o⟩
  have := h.blk.set (vp.length + j) v
  rw [List.set_append_right _ _ (by omega), show vp.length + j - vp.length = j by omega, List.set_append_left _ _ (by rw [h.len]; exact hj)] at this
  exact this
theorem Mid.only {w w' : World} {S : Nat → Prop} {b z : Nat} {lp lq : List Dat} {bp bq : List Nat} {vp v1 vq : List Value} (h : Mid w b z lp lq bp bq vp v1 vq) (o : Only S w w') (hb : ¬ S b) (hp : ∀ c, c ∈ bp ∨ c ∈ bq → ¬ S c) : Mid w' b z lp lq bp bq vp v1 vq :=
  ⟨h.blk.only o hb, OwnE.only o z _ _ _ (fun c hc => hp c (.inl hc)) h.p, OwnE.only o z _ _ _ (fun c hc => hp c (.inr hc)) h.q, h.len⟩
theorem Mid.cell {w : World} {b z : Nat} {lp lq : List Dat} {bp bq : List Nat} {vp v1 vq : List Value} (h : Mid w b z lp lq bp bq vp v1 vq) {j : Nat} {v : Value} (hv : v1[j]? = some v) : w.cell? (((⟨b, 0, Option.none⟩ : Addr).add vp.length).add j) = some v := by
  have hj := (List.getElem?_eq_some_iff.1 hv).1
  rw [add_mk, add_mk, Nat.zero_add, h.blk.cell, List.getElem?_append_right (by omega), show vp.length + j - vp.length = j by omega, List.getElem?_append_left hj]
  exact hv
theorem Mid.row {w : World} {b z cap : Nat} {lp lq : List Dat} {bp bq b1 : List Nat} {vp v1 vq : List Value} {d : Dat} (h : Mid w b z lp lq bp bq vp v1 vq) (hd : OwnD w d b1 v1) (hl : vp.length = lp.length * z) (hm : (lp ++ d :: lq).length ≤ maxLen) (hc : (vp ++ (v1 ++ vq)).length = cap * z) (hcap : (lp ++ d :: lq).length ≤ cap) :
    OwnD w (.sl z (lp ++ d :: lq)) (b :: (bp ++ (b1 ++ bq))) [.slice (some ⟨b, 0, Option.none⟩) (lp ++ d :: lq).length cap] := by
  unfold OwnD
  exact ⟨_, _, rfl, hcap, hm, .inr ⟨b, _, _, rfl, rfl, h.blk, hc, OwnE.join h.p hl (OwnE.cons h.len hd h.q)⟩⟩
/-- One's own row, opened at an element. -/
theorem ownD_at {w : World} {z : Nat} {l : List Dat} {s : Sl} {bs : List Nat} (h : OwnD w (.sl z l) bs [.slice s.a s.len s.cap]) {i : Nat} {d : Dat} (hd : l[i]? = some d) :
    ∃ b bp b1 bq vp v1 vq, s.a = some ⟨b, 0, Option.none⟩ ∧ bs = b :: (bp ++ (b1 ++ bq)) ∧ vp.length = i * z ∧ OwnD w d b1 v1 ∧ Mid w b z (l.take i) (l.drop (i + 1)) bp bq vp v1 vq ∧ (vp ++ (v1 ++ vq)).length = s.cap * z ∧ l.length ≤ s.cap ∧ l.length ≤ maxLen := by
  unfold OwnD at h
  obtain ⟨a, cap, h1, h2, h3, h4⟩ := h
  have hi := (List.getElem?_eq_some_iff.1 hd).1
  simp only [List.cons.injEq, Value.slice.injEq, and_true] at h1
  obtain ⟨rfl, h5, rfl⟩ := h1
  rcases h4 with ⟨h6, _⟩ | ⟨b, bs', vs, h7, h8, h9, h10, h11⟩
  · omega
  obtain ⟨bp, b1, bq, vp, v1, vq, k1, k2, k3, k4, k5, k6, k7⟩ := h11.split hd
  subst k1; subst k2
  exact ⟨b, bp, b1, bq, vp, v1, vq, h7, h8, k3, k6, ⟨h9, k5, k7, k4⟩, h10, h2, h3⟩
theorem ownD_len {w : World} {z : Nat} {l : List Dat} {s : Sl} {bs : List Nat} (h : OwnD w (.sl z l) bs [.slice s.a s.len s.cap]) : s.len = l.length ∧ l.length ≤ maxLen := by
  have := isD_sl (OwnD.is _ _ _ h)
  exact ⟨this.1, this.2.1⟩
end Go.Den

/- Steps of proofs over plain readings; rules for the laws' own functions, more. Conditions: none. -/
set_option linter.unusedVariables false
set_option linter.unusedSimpArgs false
namespace Go.Den
/-! ## Steps -/
theorem alloc_step {w : World} {c : List Value} {e : TypeId} {k : World → Prop} (h : ∀ w1, Ext w w1 → Blk w1 w.heap.size c → w1.heap.size = w.heap.size + 1 → k w1) : LetW (w.alloc (.cells ⟨c⟩ e)) k :=
  LetW_iff.2 (h _ (ext_alloc w _) (blk_alloc w c e) (size_alloc w _))
theorem set_step {w : World} {b i : Nat} {vs : List Value} {v : Value} {k : World → Prop} (hb : Blk w b vs) (hi : i < vs.length) (h : ∀ w2, Only (fun j => j = b) w w2 → Blk w2 b (vs.set i v) → w2.heap.size = w.heap.size → k w2) :
    May w ⟨b, i, none⟩ ∧ LetW (w.setCell ⟨b, i, none⟩ v) k :=
  ⟨hb.may hi, LetW_iff.2 (h _ (only_set w ⟨b, i, none⟩ v) (hb.set i v) (size_set w _ v))⟩
/-- A part of a block written. -/
theorem putAt_step {w : World} {b o n : Nat} {vs us : List Value} {k : World → Prop} (hb : Blk w b vs) (hn : us.length = n) (hi : o + n ≤ vs.length) (h : ∀ w2, Only (fun j => j = b) w w2 → Blk w2 b (setAll vs o us) → w2.heap.size = w.heap.size → k w2) :
    MayN w ⟨b, o, none⟩ n ∧ LetW (Den.puts w ⟨b, o, none⟩ 0 us) k :=
  ⟨hb.mayN hi, LetW_iff.2 (h _ (only_puts us w ⟨b, o, none⟩ 0) (by have := Blk.puts us hb o 0; rwa [Nat.add_zero] at this) (size_puts us w _ 0))⟩
/-- A block written whole. -/
theorem put_step {w : World} {b n : Nat} {vs us : List Value} {k : World → Prop} (hb : Blk w b vs) (hn : us.length = n) (hi : vs.length = n) (h : ∀ w2, Only (fun j => j = b) w w2 → Blk w2 b us → w2.heap.size = w.heap.size → k w2) :
    MayN w ⟨b, 0, none⟩ n ∧ LetW (Den.puts w ⟨b, 0, none⟩ 0 us) k := by
  refine ⟨hb.mayN (by omega), LetW_iff.2 (h _ (only_puts us w ⟨b, 0, none⟩ 0) ?_ (size_puts us w _ 0))⟩
  have h2 := Blk.puts us hb 0 0
  have he : setAll vs (0 + 0) us = us := by
    rw [setAll_eq _ _ _ (by omega)]
    have : List.drop us.length vs = [] := List.drop_eq_nil_of_le (by omega)
    simp [this]
  rwa [he] at h2
/-! ## Trees in blocks of a range -/
def Fr (lo hi : Nat) (w : World) (d : Dat) (cs : List Value) : Prop := ∃ bs, OwnD w d bs cs ∧ bs.Nodup ∧ ∀ b, b ∈ bs → lo ≤ b ∧ b < hi
def FrF (lo hi : Nat) (w : World) (ds : List Dat) (cs : List Value) : Prop := ∃ bs, OwnF w ds bs cs ∧ bs.Nodup ∧ ∀ b, b ∈ bs → lo ≤ b ∧ b < hi
theorem Fresh.fr {w w' : World} {d : Dat} {cs : List Value} (h : Fresh w w' d cs) : Fr w.heap.size w'.heap.size w' d cs := by
  obtain ⟨bs, h1, h2, h3⟩ := h
  exact ⟨bs, h1, h2, fun b hb => ⟨h3 b hb, OwnD.lt _ _ _ h1 b hb⟩⟩
theorem Fr.fresh {lo hi : Nat} {w0 w : World} {d : Dat} {cs : List Value} (h : Fr lo hi w d cs) (hl : w0.heap.size ≤ lo) : Fresh w0 w d cs := by
  obtain ⟨bs, h1, h2, h3⟩ := h
  exact ⟨bs, h1, h2, fun b hb => Nat.le_trans hl (h3 b hb).1⟩
theorem Fr.only {S : Nat → Prop} {lo hi : Nat} {w w' : World} {d : Dat} {cs : List Value} (h : Fr lo hi w d cs) (o : Only S w w') (hS : ∀ k, lo ≤ k → k < hi → ¬ S k) : Fr lo hi w' d cs := by
  obtain ⟨bs, h1, h2, h3⟩ := h
  exact ⟨bs, OwnD.only o _ _ _ (fun b hb => hS b (h3 b hb).1 (h3 b hb).2) h1, h2, h3⟩
theorem Fr.ext {lo hi : Nat} {w w' : World} {d : Dat} {cs : List Value} (h : Fr lo hi w d cs) (e : Ext w w') : Fr lo hi w' d cs := h.only e (fun _ _ _ => id)
theorem Fr.is {lo hi : Nat} {w : World} {d : Dat} {cs : List Value} (h : Fr lo hi w d cs) : IsD w d cs := by obtain ⟨bs, h, _⟩ := h; exact OwnD.is _ _ _ h
theorem Fr.mono {lo hi lo' hi' : Nat} {w : World} {d : Dat} {cs : List Value} (h : Fr lo hi w d cs) (h1 : lo' ≤ lo) (h2 : hi ≤ hi') : Fr lo' hi' w d cs := by
  obtain ⟨bs, h3, h4, h5⟩ := h
  exact ⟨bs, h3, h4, fun b hb => ⟨Nat.le_trans h1 (h5 b hb).1, Nat.lt_of_lt_of_le (h5 b hb).2 h2⟩⟩
theorem fr_int {lo hi : Nat} {w : World} {k : IntKind} {n : Int} (h : (Lit.int k n).wf = true) : Fr lo hi w (.int k n) [.int k n] := ⟨[], by unfold OwnD; exact ⟨rfl, rfl, h⟩, List.nodup_nil, fun b hb => by cases hb⟩
theorem fr_bool {lo hi : Nat} {w : World} {b : Bool} : Fr lo hi w (.bool b) [.bool b] := ⟨[], by unfold OwnD; exact ⟨rfl, rfl⟩, List.nodup_nil, fun b hb => by cases hb⟩
theorem fr_str {lo hi : Nat} {w : World} {s : ByteArray} (h : s.size ≤ maxLen) : Fr lo hi w (.str s) [.string s] := ⟨[], by unfold OwnD; exact ⟨rfl, rfl, h⟩, List.nodup_nil, fun b hb => by cases hb⟩
theorem frF_nil {lo hi : Nat} {w : World} : FrF lo hi w [] [] := ⟨[], by unfold OwnF; exact ⟨rfl, rfl⟩, List.nodup_nil, fun b hb => by cases hb⟩
theorem frF_cons {lo m hi : Nat} {w : World} {d : Dat} {ds : List Dat} {c1 c2 : List Value} (h1 : Fr lo m w d c1) (h2 : FrF m hi w ds c2) (hm : m ≤ hi) (hl : lo ≤ m) : FrF lo hi w (d :: ds) (c1 ++ c2) := by
  obtain ⟨b1, h3, h4, h5⟩ := h1
  obtain ⟨b2, h6, h7, h8⟩ := h2
  refine ⟨b1 ++ b2, by unfold OwnF; exact ⟨b1, b2, c1, c2, rfl, rfl, h3, h6⟩, ?_, fun b hb => ?_⟩
  · rw [List.nodup_append]
    exact ⟨h4, h7, fun x hx y hy hxy => by have := h5 x hx; have := h8 y hy; omega⟩
  · rcases List.mem_append.1 hb with hb | hb
    · have := h5 b hb; omega
    · have := h8 b hb; omega
theorem frF_st {lo hi : Nat} {w : World} {ds : List Dat} {cs : List Value} (h : FrF lo hi w ds cs) : Fr lo hi w (.st ds) cs := by
  obtain ⟨bs, h1, h2⟩ := h
  exact ⟨bs, by unfold OwnD; exact h1, h2⟩
theorem isD_sl_s {w : World} {z : Nat} {l : List Dat} {cs : List Value} (h : IsD w (.sl z l) cs) : ∃ s : Sl, cs = [.slice s.a s.len s.cap] := by
  unfold IsD at h
  obtain ⟨a, cap, rfl, _⟩ := h
  exact ⟨⟨a, l.length, cap⟩, rfl⟩
theorem isD_int {w : World} {k : IntKind} {n : Int} {cs : List Value} (h : IsD w (.int k n) cs) : cs = [.int k n] ∧ (Lit.int k n).wf = true := by unfold IsD at h; exact h
theorem isD_bool {w : World} {b : Bool} {cs : List Value} (h : IsD w (.bool b) cs) : cs = [.bool b] := by unfold IsD at h; exact h
theorem isD_str {w : World} {s : ByteArray} {cs : List Value} (h : IsD w (.str s) cs) : cs = [.string s] ∧ s.size ≤ maxLen := by unfold IsD at h; exact h
theorem isF_cons {w : World} {d : Dat} {r : List Dat} {cs : List Value} (h : IsF w (d :: r) cs) : ∃ c1 c2, cs = c1 ++ c2 ∧ IsD w d c1 ∧ IsF w r c2 := by unfold IsF at h; exact h
theorem isF_nil {w : World} {cs : List Value} (h : IsF w [] cs) : cs = [] := by unfold IsF at h; exact h
theorem isD_st {w : World} {ds : List Dat} {cs : List Value} (h : IsD w (.st ds) cs) : IsF w ds cs := by unfold IsD at h; exact h
theorem has_int {k : IntKind} {d : Dat} (h : Has (.int k) d) : ∃ n, d = .int k n := by unfold Has at h; exact h
theorem has_bool {d : Dat} (h : Has .bool d) : ∃ b, d = .bool b := by unfold Has at h; exact h
theorem has_str {d : Dat} (h : Has .str d) : ∃ s, d = .str s := by unfold Has at h; exact h
theorem has_st {fs : List Ty} {d : Dat} (h : Has (.st fs) d) : ∃ ds, d = .st ds ∧ HasF fs ds := by unfold Has at h; exact h
theorem has_sl {z : Nat} {t : Ty} {d : Dat} (h : Has (.sl z t) d) : ∃ l, d = .sl z l ∧ ∀ e, e ∈ l → Has t e := by unfold Has at h; exact h
theorem hasF_cons {t : Ty} {r : List Ty} {ds : List Dat} (h : HasF (t :: r) ds) : ∃ d ds', ds = d :: ds' ∧ Has t d ∧ HasF r ds' := by unfold HasF at h; exact h
theorem hasF_nil {ds : List Dat} (h : HasF [] ds) : ds = [] := by unfold HasF at h; exact h
theorem mk_int {k : IntKind} {n : Int} : Has (.int k) (.int k n) := by unfold Has; exact ⟨n, rfl⟩
theorem mk_bool {b : Bool} : Has .bool (.bool b) := by unfold Has; exact ⟨b, rfl⟩
theorem mk_str {s : ByteArray} : Has .str (.str s) := by unfold Has; exact ⟨s, rfl⟩
theorem mk_st {fs : List Ty} {ds : List Dat} (h : HasF fs ds) : Has (.st fs) (.st ds) := by unfold Has; exact ⟨ds, rfl, h⟩
theorem mk_sl {z : Nat} {t : Ty} {l : List Dat} (h : ∀ e, e ∈ l → Has t e) : Has (.sl z t) (.sl z l) := by unfold Has; exact ⟨l, rfl, h⟩
theorem mkF_cons {t : Ty} {r : List Ty} {d : Dat} {ds : List Dat} (h : Has t d) (h2 : HasF r ds) : HasF (t :: r) (d :: ds) := by unfold HasF; exact ⟨d, ds, rfl, h, h2⟩
theorem mkF_nil : HasF [] [] := by unfold HasF; rfl
theorem hasF_app : ∀ {a b : List Ty} {x y : List Dat}, HasF a x → HasF b y → HasF (a ++ b) (x ++ y)
  | [], b, x, y, h1, h2 => by rw [hasF_nil h1]; exact h2
  | t :: a, b, x, y, h1, h2 => by
    obtain ⟨d, ds, rfl, h3, h4⟩ := hasF_cons h1
    exact mkF_cons h3 (hasF_app h4 h2)
/-! ## Marks: the fields of an element, one behind the other -/
theorem ownF_app {w : World} : ∀ {d1 d2 : List Dat} {b1 b2 : List Nat} {c1 c2 : List Value}, OwnF w d1 b1 c1 → OwnF w d2 b2 c2 → OwnF w (d1 ++ d2) (b1 ++ b2) (c1 ++ c2)
  | [], d2, b1, b2, c1, c2, h, h2 => by unfold OwnF at h; obtain ⟨rfl, rfl⟩ := h; exact h2
  | d :: r, d2, b1, b2, c1, c2, h, h2 => by
    unfold OwnF at h
    obtain ⟨x1, x2, y1, y2, rfl, rfl, h3, h4⟩ := h
    rw [List.cons_append]; unfold OwnF
    exact ⟨x1, x2 ++ b2, y1, y2 ++ c2, by simp, by simp, h3, ownF_app h4 h2⟩
theorem ownF_one {w : World} {d : Dat} {b : List Nat} {c : List Value} (h : OwnD w d b c) : OwnF w [d] b c := by unfold OwnF; exact ⟨b, [], c, [], by simp, by simp, h, by unfold OwnF; exact ⟨rfl, rfl⟩⟩
theorem ownF_cons {w : World} {d : Dat} {r : List Dat} {bs : List Nat} {cs : List Value} (h : OwnF w (d :: r) bs cs) : ∃ b1 b2 c1 c2, bs = b1 ++ b2 ∧ cs = c1 ++ c2 ∧ OwnD w d b1 c1 ∧ OwnF w r b2 c2 := by unfold OwnF at h; exact h
theorem ownF_nil {w : World} {bs : List Nat} {cs : List Value} (h : OwnF w [] bs cs) : bs = [] ∧ cs = [] := by unfold OwnF at h; exact h
structure ME (w : World) (b z : Nat) (lp lq : List Dat) (bp bq : List Nat) (vp vq : List Value) (dd dr : List Dat) (bd br : List Nat) (cd cr : List Value) : Prop where
  mid : Mid w b z lp lq bp bq vp (cd ++ cr) vq
  dn : OwnF w dd bd cd
  rs : OwnF w dr br cr
  nd : (b :: (bp ++ ((bd ++ br) ++ bq))).Nodup
theorem nd_parts {b : Nat} {bp bd br bq : List Nat} (h : (b :: (bp ++ ((bd ++ br) ++ bq))).Nodup) :
    (∀ c, c ∈ bp ∨ c ∈ bd ∨ c ∈ br ∨ c ∈ bq → c ≠ b) ∧ (∀ c, c ∈ br → c ∉ bp ∧ c ∉ bd ∧ c ∉ bq) ∧ br.Nodup := by
  simp only [List.nodup_cons, List.nodup_append, List.mem_append, not_or] at h
  obtain ⟨⟨h1, ⟨h2, h3⟩, h4⟩, h5, ⟨⟨h6, h7, h8⟩, h9, h10⟩, h11⟩ := h
  refine ⟨fun c hc he => ?_, fun c hc => ⟨fun hp => ?_, fun hp => ?_, fun hp => ?_⟩, h7⟩
  · subst he
    rcases hc with hc | hc | hc | hc
    · exact h1 hc
    · exact h2 hc
    · exact h3 hc
    · exact h4 hc
  · exact h11 c hp c (.inl (.inr hc)) rfl
  · exact h8 c hp c hc rfl
  · exact h10 c (.inr hc) c hp rfl
/-- A field that is a number, a bool, a text. -/
theorem ME.sc {w : World} {b z : Nat} {lp lq : List Dat} {bp bq : List Nat} {vp vq : List Value} {dd dr : List Dat} {d d' : Dat} {bd br : List Nat} {cd cr : List Value} {x : Value} {j : Nat}
    (h : ME w b z lp lq bp bq vp vq dd (d :: dr) bd br cd cr) (h1 : ∀ b1 c1, OwnD w d b1 c1 → b1 = [] ∧ c1.length = 1) (h2 : ∀ w, OwnD w d' [] [x]) (hj : cd.length = j) {k : World → Prop}
    (hk : ∀ w2 cr', Only (fun k => k = b) w w2 → ME w2 b z lp lq bp bq vp vq (dd ++ [d']) dr bd br (cd ++ [x]) cr' → k w2) :
    May w (((⟨b, 0, Option.none⟩ : Addr).add vp.length).add j) ∧ LetW (w.setCell (((⟨b, 0, Option.none⟩ : Addr).add vp.length).add j) x) k := by
  obtain ⟨b1, b2, c1, c2, rfl, rfl, h3, h4⟩ := ownF_cons h.rs
  obtain ⟨rfl, hc1⟩ := h1 _ _ h3
  have hjz : j < z := by have := h.mid.len; simp only [List.length_append] at this; omega
  obtain ⟨n1, n2, n3⟩ := nd_parts h.nd
  obtain ⟨hm, hs, ho⟩ := h.mid.set (fun c hc => n1 c (by rcases hc with hc | hc; exact .inl hc; exact .inr (.inr (.inr hc)))) hjz x
  refine ⟨hm, LetW_iff.2 (hk _ c2 ho ⟨?_, ?_, OwnF.only ho _ _ _ (fun c hc he => n1 c (.inr (.inr (.inl hc))) he) h4, h.nd⟩)⟩
  · obtain ⟨y, rfl⟩ : ∃ y, c1 = [y] := by
      cases c1 with
      | nil => cases hc1
      | cons y r => cases r with
        | nil => exact ⟨y, rfl⟩
        | cons z r => simp at hc1
    rw [List.set_append_right _ _ (by omega), hj, Nat.sub_self] at hs
    simpa using hs
  · have := ownF_app (OwnF.only ho _ _ _ (fun c hc he => n1 c (.inr (.inl hc)) he) h.dn) (ownF_one (h2 _))
    simpa using this
/-- A field that is a tree of its own: read, and marked by a call. -/
theorem ME.open {w : World} {b z : Nat} {lp lq : List Dat} {bp bq : List Nat} {vp vq : List Value} {dd dr : List Dat} {d : Dat} {bd br : List Nat} {cd cr : List Value}
    (h : ME w b z lp lq bp bq vp vq dd (d :: dr) bd br cd cr) : ∃ b1 c1, OwnD w d b1 c1 ∧ b1.Nodup ∧ (∀ j v, c1[j]? = some v → w.cell? (((⟨b, 0, Option.none⟩ : Addr).add vp.length).add (cd.length + j)) = some v) ∧
      ∀ (w2 : World) (d' : Dat), Only (fun k => k ∈ b1) w w2 → OwnD w2 d' b1 c1 → ∃ br' cr', ME w2 b z lp lq bp bq vp vq (dd ++ [d']) dr (bd ++ b1) br' (cd ++ c1) cr' ∧ (b :: (bp ++ ((bd ++ br) ++ bq))) = (b :: (bp ++ (((bd ++ b1) ++ br') ++ bq))) := by
  obtain ⟨b1, b2, c1, c2, rfl, rfl, h3, h4⟩ := ownF_cons h.rs
  obtain ⟨n1, n2, n3⟩ := nd_parts h.nd
  have n4 := List.nodup_append.1 n3
  refine ⟨b1, c1, h3, n4.1, fun j v hv => h.mid.cell ?_, fun w2 d' o hd => ⟨b2, c2, ⟨?_, ?_, ?_, ?_⟩, ?_⟩⟩
  · rw [List.getElem?_append_right (by omega), show cd.length + j - cd.length = j by omega, List.getElem?_append_left (List.getElem?_eq_some_iff.1 hv).1]
    exact hv
  · rw [List.append_assoc]
    exact h.mid.only o (fun hb => n1 b (.inr (.inr (.inl (List.mem_append_left _ hb)))) rfl) (fun c hc hb => by
      have := n2 c (List.mem_append_left _ hb)
      rcases hc with hc | hc
      · exact this.1 hc
      · exact this.2.2 hc)
  · exact ownF_app (OwnF.only o _ _ _ (fun c hc hb => (n2 c (List.mem_append_left _ hb)).2.1 hc) h.dn) (ownF_one hd)
  · exact OwnF.only o _ _ _ (fun c hc hb => n4.2.2 c hb c hc rfl) h4
  · have := h.nd; rwa [show (bd ++ (b1 ++ b2)) = (bd ++ b1) ++ b2 from (List.append_assoc _ _ _).symm] at this
  · rw [show (bd ++ (b1 ++ b2)) = (bd ++ b1) ++ b2 from (List.append_assoc _ _ _).symm]
/-- Handed by value: the fields one behind the other. -/
theorem ownF_step {w : World} {dd dr : List Dat} {d : Dat} {bd br : List Nat} {cd cr : List Value} (h1 : OwnF w dd bd cd) (h2 : OwnF w (d :: dr) br cr) (hn : (bd ++ br).Nodup) :
    ∃ b1 b2 c1 c2, br = b1 ++ b2 ∧ cr = c1 ++ c2 ∧ OwnD w d b1 c1 ∧ b1.Nodup ∧ OwnF w dr b2 c2 ∧ ∀ (w2 : World) (d' : Dat), Only (fun k => k ∈ b1) w w2 → OwnD w2 d' b1 c1 → OwnF w2 (dd ++ [d']) (bd ++ b1) (cd ++ c1) ∧ OwnF w2 dr b2 c2 ∧ ((bd ++ b1) ++ b2).Nodup := by
  obtain ⟨b1, b2, c1, c2, rfl, rfl, h3, h4⟩ := ownF_cons h2
  have n1 := List.nodup_append.1 hn
  have n2 := List.nodup_append.1 n1.2.1
  refine ⟨b1, b2, c1, c2, rfl, rfl, h3, n2.1, h4, fun w2 d' o hd => ⟨?_, ?_, by rw [List.append_assoc]; exact hn⟩⟩
  · exact ownF_app (OwnF.only o _ _ _ (fun c hc hb => n1.2.2 c hc c (List.mem_append_left _ hb) rfl) h1) (ownF_one hd)
  · exact OwnF.only o _ _ _ (fun c hc hb => n2.2.2 c hb c hc rfl) h4
end Go.Den
namespace Go.Den
theorem szs_zero : ∀ {l : List Dat}, (∀ d, d ∈ l → d.sz = 0) → Dat.szs l = 0
  | [], h => by simp [Dat.szs]
  | d :: r, h => by
    simp only [Dat.szs, h d (by simp), szs_zero (fun x hx => h x (List.mem_cons_of_mem _ hx))]
theorem szs_take {l : List Dat} {k : Nat} {d : Dat} (h : l[k]? = some d) : Dat.szs (l.take (k + 1)) = Dat.szs (l.take k) + d.sz := by
  rw [List.take_add_one, h, szs_append]
  simp [Dat.szs]
theorem cnts_take {l : List Dat} {k : Nat} {d : Dat} (h : l[k]? = some d) : Dat.cnts (l.take (k + 1)) = Dat.cnts (l.take k) + d.cnt := by
  rw [List.take_add_one, h, cnts_append]
  simp [Dat.cnts]
theorem cnts_get {l : List Dat} {i : Nat} {d : Dat} (h : l[i]? = some d) : Dat.cnts (l.take i) + d.cnt ≤ Dat.cnts l := by
  have := cnts_append (l.take (i + 1)) (l.drop (i + 1))
  rw [List.take_append_drop, cnts_take h] at this
  omega
end Go.Den
namespace Go.Den
/-! ## The mark that the laws write into a text -/
def txtL (n : Int) (s : ByteArray) : ByteArray := if n > 0 then txtL (n.tdiv 10) (strOfNums [IntKind.wrap .u8 (IntKind.wrap .i64 (48 + n.tmod 10))] ++ s) else s
termination_by n.toNat
decreasing_by rw [Int.tdiv_eq_ediv_of_nonneg (by omega)]; omega
def TXT (n : Int) : ByteArray := ⟨#[109]⟩ ++ txtL n ⟨#[]⟩
theorem txt_one (c : Int) : (strOfNums [c]).size = 1 := rfl
/-! ## Marked trees -/
theorem wf_i64 {n : Int} (h1 : -9223372036854775808 ≤ n) (h2 : n ≤ 9223372036854775807) : (Lit.int .i64 n).wf = true := by simp [Lit.wf, IntKind.min, IntKind.max, IntKind.signed, IntKind.bits]; omega
theorem wf_u8 {n : Int} (h1 : 0 ≤ n) (h2 : n ≤ 255) : (Lit.int .u8 n).wf = true := by simp [Lit.wf, IntKind.min, IntKind.max, IntKind.signed, IntKind.bits]; omega
theorem wf_u8w {n : Int} : (Lit.int .u8 (IntKind.wrap .u8 n)).wf = true := by rw [IntKind.wrap_u8]; exact wf_u8 (by omega) (by omega)
theorem wf_u64 {n : Int} (h1 : 0 ≤ n) (h2 : n ≤ 18446744073709551615) : (Lit.int .u64 n).wf = true := by simp [Lit.wf, IntKind.min, IntKind.max, IntKind.signed, IntKind.bits]; omega
theorem own_int {w : World} {k : IntKind} {n : Int} (h : (Lit.int k n).wf = true) : OwnD w (.int k n) [] [.int k n] := by unfold OwnD; exact ⟨rfl, rfl, h⟩
theorem own_bool {w : World} {b : Bool} : OwnD w (.bool b) [] [.bool b] := by unfold OwnD; exact ⟨rfl, rfl⟩
theorem own_str {w : World} {s : ByteArray} (h : s.size ≤ maxLen) : OwnD w (.str s) [] [.string s] := by unfold OwnD; exact ⟨rfl, rfl, h⟩
theorem sc_int {w : World} {k : IntKind} {n : Int} (b : List Nat) (c : List Value) (h : OwnD w (.int k n) b c) : b = [] ∧ c.length = 1 := by unfold OwnD at h; exact ⟨h.1, by rw [h.2.1]; rfl⟩
theorem sc_bool {w : World} {x : Bool} (b : List Nat) (c : List Value) (h : OwnD w (.bool x) b c) : b = [] ∧ c.length = 1 := by unfold OwnD at h; exact ⟨h.1, by rw [h.2]; rfl⟩
theorem sc_str {w : World} {s : ByteArray} (b : List Nat) (c : List Value) (h : OwnD w (.str s) b c) : b = [] ∧ c.length = 1 := by unfold OwnD at h; exact ⟨h.1, by rw [h.2.1]; rfl⟩
theorem ownD_st {w : World} {ds : List Dat} {bs : List Nat} {cs : List Value} (h : OwnD w (.st ds) bs cs) : OwnF w ds bs cs := by unfold OwnD at h; exact h
theorem own_st {w : World} {ds : List Dat} {bs : List Nat} {cs : List Value} (h : OwnF w ds bs cs) : OwnD w (.st ds) bs cs := by unfold OwnD; exact h
theorem ownD_sl_s {w : World} {z : Nat} {l : List Dat} {bs : List Nat} {cs : List Value} (h : OwnD w (.sl z l) bs cs) : ∃ s : Sl, cs = [.slice s.a s.len s.cap] := isD_sl_s (OwnD.is _ _ _ h)
theorem ME.fin {w : World} {b z : Nat} {lp lq : List Dat} {bp bq : List Nat} {vp vq : List Value} {dd : List Dat} {bd br : List Nat} {cd cr : List Value} (h : ME w b z lp lq bp bq vp vq dd [] bd br cd cr) :
    Mid w b z lp lq bp bq vp cd vq ∧ OwnD w (.st dd) bd cd ∧ br = [] := by
  obtain ⟨h1, h2⟩ := ownF_nil h.rs
  subst h1; subst h2
  have := h.mid
  rw [List.append_nil] at this
  exact ⟨this, own_st h.dn, rfl⟩
theorem row_close {w : World} {b z k : Nat} {l l' : List Dat} {a0 : Sl} {bs bp bd bq : List Nat} {vp v0 v1 vq : List Value} {d' : Dat} (hm : Mid w b z l' (l.drop (k + 1)) bp bq vp v1 vq) (hd : OwnD w d' bd v1) (hvp : vp.length = k * z) (hl' : l'.length = k) (hk : k < l.length)
    (ha : a0.a = some ⟨b, 0, none⟩) (hlen : a0.len = l.length) (hbs : bs = b :: (bp ++ (bd ++ bq))) (hcap : l.length ≤ a0.cap) (hmx : l.length ≤ maxLen) (hv0 : v0.length = z) (hvl : (vp ++ (v0 ++ vq)).length = a0.cap * z) :
    OwnD w (.sl z ((l' ++ [d']) ++ l.drop (k + 1))) bs [.slice a0.a a0.len a0.cap] := by
  have hz := hm.len
  have hl2 : (l' ++ d' :: l.drop (k + 1)).length = l.length := by simp; omega
  have := Mid.row (cap := a0.cap) hm hd (by rw [hvp, hl']) (by omega) (by simp only [List.length_append] at hvl ⊢; omega) (by omega)
  rw [hbs, ha, hlen]
  rw [hl2] at this
  simpa using this
theorem take_app {l l' : List Dat} {k : Nat} (h : l'.length = k) : (l' ++ l.drop k).take k = l' ∧ (l' ++ l.drop k).drop (k + 1) = l.drop (k + 1) := by
  subst h
  refine ⟨List.take_left, ?_⟩
  rw [List.drop_append, List.drop_drop]
  simp
theorem get_app {l l' : List Dat} {k : Nat} {d : Dat} (h : l'.length = k) (hd : l[k]? = some d) : (l' ++ l.drop k)[k]? = some d := by
  subst h
  rw [List.getElem?_append_right (Nat.le_refl _), Nat.sub_self, List.getElem?_drop, Nat.add_zero]
  exact hd
theorem markedF_at {T : Int → ByteArray} {l : List Dat} {k k' : Int} (h : MarkedF T l k) (e : k = k') : MarkedF T l k' := e ▸ h
theorem markedF_snoc {T : Int → ByteArray} {l : List Dat} {d : Dat} {k x : Int} (h : MarkedF T l k) (hd : Marked T d x) (e : x = k + (Dat.cnts l : Int)) : MarkedF T (l ++ [d]) k := by
  subst e
  rw [MarkedF_append]
  refine ⟨h, ?_⟩
  unfold MarkedF
  exact ⟨hd, by unfold MarkedF; trivial⟩
theorem markedF_cons {T : Int → ByteArray} {r : List Dat} {d : Dat} {k k' : Int} (h : Marked T d k) (h2 : MarkedF T r k') (e : k' = k + (d.cnt : Int)) : MarkedF T (d :: r) k := by subst e; unfold MarkedF; exact ⟨h, h2⟩
theorem markedF_nil {T : Int → ByteArray} {k : Int} : MarkedF T [] k := by unfold MarkedF; trivial
theorem marked_int {T : Int → ByteArray} {kd : IntKind} {n k : Int} (h : n = kd.wrap k) : Marked T (.int kd n) k := by unfold Marked; exact h
theorem marked_bool {T : Int → ByteArray} {b : Bool} {k : Int} (h : b = (k % 3 == 0)) : Marked T (.bool b) k := by unfold Marked; exact h
theorem marked_str {T : Int → ByteArray} {s : ByteArray} {k : Int} (h : s = T k) : Marked T (.str s) k := by unfold Marked; exact h
theorem marked_st {T : Int → ByteArray} {ds : List Dat} {k : Int} (h : MarkedF T ds k) : Marked T (.st ds) k := by unfold Marked; exact h
theorem marked_sl {T : Int → ByteArray} {z : Nat} {l : List Dat} {k : Int} (h : MarkedF T l k) : Marked T (.sl z l) k := by unfold Marked; exact h
theorem cnts_snoc (l : List Dat) (d : Dat) : Dat.cnts (l ++ [d]) = Dat.cnts l + d.cnt := by rw [cnts_append]; simp [Dat.cnts]
theorem has_snoc {t : Ty} {l : List Dat} {d : Dat} (h : ∀ e, e ∈ l → Has t e) (hd : Has t d) : ∀ e, e ∈ l ++ [d] → Has t e := fun e he => by
  rcases List.mem_append.1 he with he | he
  · exact h e he
  · rw [List.mem_singleton.1 he]; exact hd
end Go.Den
namespace Go.Den
theorem markedF_get {T : Int → ByteArray} : ∀ {l : List Dat} {k : Int} {i : Nat} {d : Dat}, MarkedF T l k → l[i]? = some d → Marked T d (k + (Dat.cnts (l.take i) : Int))
  | [], k, i, d, h, hd => by simp at hd
  | x :: r, k, 0, d, h, hd => by
    simp at hd; subst hd
    unfold MarkedF at h
    simpa [Dat.cnts] using h.1
  | x :: r, k, i + 1, d, h, hd => by
    unfold MarkedF at h
    have := markedF_get h.2 (i := i) (d := d) (by simpa using hd)
    rw [List.take_succ_cons]
    simp only [Dat.cnts]
    rwa [show k + ((x.cnt + Dat.cnts (List.take i r) : Nat) : Int) = k + (x.cnt : Int) + (Dat.cnts (List.take i r) : Int) by omega]
end Go.Den

/- From a law's arguments, opened, to trees; rows of flat structs. Conditions: none. -/
set_option linter.unusedVariables false
set_option linter.unusedSimpArgs false
namespace Go.Den
theorem isD_mkInt {w : World} {k : IntKind} {cs : List Value} {n : Int} (h : (cInt k).is w cs n) : IsD w (.int k n) cs := by unfold IsD; exact h
theorem isD_mkBool {w : World} {cs : List Value} {b : Bool} (h : cBool.is w cs b) : IsD w (.bool b) cs := by unfold IsD; exact h
theorem isD_mkStr {w : World} {cs : List Value} {s : ByteArray} (h : cStr.is w cs s) : IsD w (.str s) cs := by unfold IsD; exact h
theorem isD_mkSl {α : Type} {c : Cod α} {f : α → Dat} {w : World} {cs : List Value} {l : List α} (h : (cSlice c).is w cs l) (hf : ∀ es x, c.is w es x → IsD w (f x) es) : IsD w (.sl c.z (l.map f)) cs := by
  obtain ⟨a, cap, rfl, h2, h3, h4⟩ := h
  unfold IsD
  refine ⟨a, cap, by simp, by simpa using h2, by simp; omega, IsE.mk (fun j d hj => ?_)⟩
  rw [List.getElem?_map] at hj
  obtain ⟨x, hx, rfl⟩ : ∃ x, l[j]? = some x ∧ f x = d := by
    cases hx : l[j]? with
    | none => rw [hx] at hj; cases hj
    | some x => rw [hx] at hj; exact ⟨x, rfl, by simpa using hj⟩
  obtain ⟨p, es, h5, h6, h7, h8⟩ := h4 j x hx
  exact ⟨p, es, h5, h6, by rw [Nat.zero_add]; exact h7, hf es x h8⟩
theorem isD_mkSt {w : World} {ds : List Dat} {cs : List Value} (h : IsF w ds cs) : IsD w (.st ds) cs := by unfold IsD; exact h
theorem isF_mk {w : World} {d : Dat} {r : List Dat} {c1 c2 : List Value} (h1 : IsD w d c1) (h2 : IsF w r c2) : IsF w (d :: r) (c1 ++ c2) := by unfold IsF; exact ⟨c1, c2, rfl, h1, h2⟩
theorem isF_mk0 {w : World} {cs : List Value} (h : cs = []) : IsF w [] cs := by unfold IsF; exact h
/-- The elements of a lent slice, one by one, at their places. -/
theorem isD_elem {α : Type} {f : α → Dat} {w : World} {z : Nat} {l : List α} {s : Sl} (h : IsD w (.sl z (l.map f)) [.slice s.a s.len s.cap]) {i : Nat} {x : α} (hx : l[i]? = some x) : ∃ p es, s.a = some p ∧ es.length = z ∧ (∀ m v, es[m]? = some v → w.cell? ((p.add (i * z)).add m) = some v) ∧ IsD w (f x) es :=
  isD_at h (by rw [List.getElem?_map, hx]; rfl)
theorem isD_len {α : Type} {f : α → Dat} {w : World} {z : Nat} {l : List α} {s : Sl} (h : IsD w (.sl z (l.map f)) [.slice s.a s.len s.cap]) : s.len = l.length ∧ l.length ≤ maxLen := by
  have := isD_sl h
  rw [List.length_map] at this
  exact ⟨this.1, this.2.1⟩
/-- A lent slice of flat elements is a row. -/
theorem isD_row {α : Type} {f : α → Dat} {g : α → List Value} {w : World} {z : Nat} {l : List α} {s : Sl} (h : IsD w (.sl z (l.map f)) [.slice s.a s.len s.cap]) (hg : ∀ x, (g x).length = z) (hf : ∀ es x, IsD w (f x) es → es = g x) : RowAt w s.a (s.len * z) (l.flatMap g) := by
  have hl := (isD_len h).1
  have hlen := flatMap_length g z hg l
  refine ⟨by rw [hl]; exact hlen, fun hn => ?_⟩
  rw [hl] at hn
  have hz : 0 < z := Nat.pos_of_mul_pos_left hn
  have hl0 : 0 < l.length := Nat.pos_of_mul_pos_right hn
  obtain ⟨p, _, hp, _⟩ := isD_elem h (List.getElem?_eq_getElem hl0)
  refine ⟨p, hp, fun j v hj => ?_⟩
  have hjl := (List.getElem?_eq_some_iff.1 hj).1
  rw [hlen] at hjl
  have hi : j / z < l.length := Nat.div_lt_of_lt_mul (by rw [Nat.mul_comm]; exact hjl)
  have hr : j % z < z := Nat.mod_lt _ hz
  have hx : l[j / z]? = some l[j / z] := List.getElem?_eq_getElem hi
  obtain ⟨q, es, hq, _, hcell, his⟩ := isD_elem h hx
  rw [hp] at hq; cases hq
  have hes := hf _ _ his
  have hdm : j / z * z + j % z = j := by rw [Nat.mul_comm]; exact Nat.div_add_mod j z
  have := hcell (j % z) v (by rw [hes, ← flatMap_get g z hg l (j / z) (j % z) hr _ hx, hdm]; exact hj)
  rwa [add_add, hdm] at this
theorem map_flat {k : IntKind} : ∀ l : List Int, l.flatMap (fun n => [Value.int k n]) = l.map (Value.int k)
  | [] => rfl
  | a :: r => by rw [List.flatMap_cons, map_flat r]; rfl
/-- Bytes, numbers: a lent slice of them. -/
theorem isD_nums {k : IntKind} {w : World} {l : List Int} {s : Sl} (h : IsD w (.sl 1 (l.map (Dat.int k))) [.slice s.a s.len s.cap]) : RowAt w s.a s.len (l.map (Value.int k)) := by
  have := isD_row (g := fun n => [Value.int k n]) h (fun _ => rfl) (fun es x hx => (isD_int hx).1)
  rw [Nat.mul_one, map_flat] at this
  exact this
theorem isD_wf {k : IntKind} {w : World} {l : List Int} {s : Sl} (h : IsD w (.sl 1 (l.map (Dat.int k))) [.slice s.a s.len s.cap]) : ∀ n, n ∈ l → (Lit.int k n).wf = true := by
  intro n hn
  obtain ⟨i, hi, rfl⟩ := List.getElem_of_mem hn
  obtain ⟨p, es, _, _, _, h2⟩ := isD_elem h (List.getElem?_eq_getElem hi)
  exact (isD_int h2).2
end Go.Den

/- The types of the program as the plainer reading wants them, held against the program. Conditions: none. -/
namespace Go.Proofs.Ytenhcpjlkmbedaa
open Go Go.Den
def ti2 : TI := ⟨.int .i64, [.int .i64], [.int .i64 0], 8⟩
theorem tiok2 : TIOk Try.prog 2 ti2 := ⟨⟨Try.t2, (.int .i64 0 : Value), by kernel_rfl, by kernel_rfl, by kernel_rfl, by kernel_rfl, by kernel_rfl⟩, Try.underlying2, by kernel_rfl, by kernel_rfl⟩
def ti3 : TI := ⟨.int .i64, [.int .i64], [.int .i64 0], 8⟩
theorem tiok3 : TIOk Try.prog 3 ti3 := ⟨⟨Try.t3, (.int .i64 0 : Value), by kernel_rfl, by kernel_rfl, by kernel_rfl, by kernel_rfl, by kernel_rfl⟩, Try.underlying3, by kernel_rfl, by kernel_rfl⟩
def ti4 : TI := ⟨.bool, [.bool], [.bool false], 1⟩
theorem tiok4 : TIOk Try.prog 4 ti4 := ⟨⟨Try.t4, (.bool false : Value), by kernel_rfl, by kernel_rfl, by kernel_rfl, by kernel_rfl, by kernel_rfl⟩, Try.underlying4, by kernel_rfl, by kernel_rfl⟩
def ti22 : TI := ⟨.slice 155, [.slice], [.slice none 0 0], 24⟩
theorem tiok22 : TIOk Try.prog 22 ti22 := ⟨⟨Try.t22, (.slice none 0 0 : Value), by kernel_rfl, by kernel_rfl, by kernel_rfl, by kernel_rfl, by kernel_rfl⟩, Try.underlying22, by kernel_rfl, by kernel_rfl⟩
def ti23 : TI := ⟨.slice 157, [.slice], [.slice none 0 0], 24⟩
theorem tiok23 : TIOk Try.prog 23 ti23 := ⟨⟨Try.t23, (.slice none 0 0 : Value), by kernel_rfl, by kernel_rfl, by kernel_rfl, by kernel_rfl, by kernel_rfl⟩, Try.underlying23, by kernel_rfl, by kernel_rfl⟩
def ti25 : TI := ⟨.struct [(2, 0), (2, 1), (22, 2), (23, 3)], [.int .i64, .int .i64, .slice, .slice], [.int .i64 0, .int .i64 0, .slice none 0 0, .slice none 0 0], 64⟩
theorem tiok25 : TIOk Try.prog 25 ti25 := ⟨⟨Try.t25, (.agg #[.int .i64 0, .int .i64 0, .slice none 0 0, .slice none 0 0] : Value), by kernel_rfl, by kernel_rfl, by kernel_rfl, by kernel_rfl, by kernel_rfl⟩, ⟨_, Try.underlying25, by kernel_rfl⟩, by kernel_rfl, by kernel_rfl⟩
def ti28 : TI := ⟨.slice 86, [.slice], [.slice none 0 0], 24⟩
theorem tiok28 : TIOk Try.prog 28 ti28 := ⟨⟨Try.t28, (.slice none 0 0 : Value), by kernel_rfl, by kernel_rfl, by kernel_rfl, by kernel_rfl, by kernel_rfl⟩, Try.underlying28, by kernel_rfl, by kernel_rfl⟩
def ti29 : TI := ⟨.slice 149, [.slice], [.slice none 0 0], 24⟩
theorem tiok29 : TIOk Try.prog 29 ti29 := ⟨⟨Try.t29, (.slice none 0 0 : Value), by kernel_rfl, by kernel_rfl, by kernel_rfl, by kernel_rfl, by kernel_rfl⟩, Try.underlying29, by kernel_rfl, by kernel_rfl⟩
def ti31 : TI := ⟨.struct [(2, 0), (2, 1), (28, 2), (29, 3)], [.int .i64, .int .i64, .slice, .slice], [.int .i64 0, .int .i64 0, .slice none 0 0, .slice none 0 0], 64⟩
theorem tiok31 : TIOk Try.prog 31 ti31 := ⟨⟨Try.t31, (.agg #[.int .i64 0, .int .i64 0, .slice none 0 0, .slice none 0 0] : Value), by kernel_rfl, by kernel_rfl, by kernel_rfl, by kernel_rfl, by kernel_rfl⟩, ⟨_, Try.underlying31, by kernel_rfl⟩, by kernel_rfl, by kernel_rfl⟩
def ti83 : TI := ⟨.ptr 86, [.ptr], [.pointer none], 8⟩
theorem tiok83 : TIOk Try.prog 83 ti83 := ⟨⟨Try.t83, (.pointer none : Value), by kernel_rfl, by kernel_rfl, by kernel_rfl, by kernel_rfl, by kernel_rfl⟩, Try.underlying83, by kernel_rfl, by kernel_rfl⟩
def ti86 : TI := ⟨.struct [(2, 0), (2, 1), (2, 2), (2, 3), (2, 4), (2, 5), (2, 6), (2, 7)], [.int .i64, .int .i64, .int .i64, .int .i64, .int .i64, .int .i64, .int .i64, .int .i64], [.int .i64 0, .int .i64 0, .int .i64 0, .int .i64 0, .int .i64 0, .int .i64 0, .int .i64 0, .int .i64 0], 64⟩
theorem tiok86 : TIOk Try.prog 86 ti86 := ⟨⟨Try.t86, (.agg #[.int .i64 0, .int .i64 0, .int .i64 0, .int .i64 0, .int .i64 0, .int .i64 0, .int .i64 0, .int .i64 0] : Value), by kernel_rfl, by kernel_rfl, by kernel_rfl, by kernel_rfl, by kernel_rfl⟩, ⟨_, Try.underlying86, by kernel_rfl⟩, by kernel_rfl, by kernel_rfl⟩
def ti149 : TI := ⟨.struct [(2, 0), (2, 1)], [.int .i64, .int .i64], [.int .i64 0, .int .i64 0], 16⟩
theorem tiok149 : TIOk Try.prog 149 ti149 := ⟨⟨Try.t149, (.agg #[.int .i64 0, .int .i64 0] : Value), by kernel_rfl, by kernel_rfl, by kernel_rfl, by kernel_rfl, by kernel_rfl⟩, ⟨_, Try.underlying149, by kernel_rfl⟩, by kernel_rfl, by kernel_rfl⟩
def ti155 : TI := ⟨.struct [(2, 0), (2, 1), (2, 2), (2, 3), (2, 4), (2, 5), (2, 6), (2, 7)], [.int .i64, .int .i64, .int .i64, .int .i64, .int .i64, .int .i64, .int .i64, .int .i64], [.int .i64 0, .int .i64 0, .int .i64 0, .int .i64 0, .int .i64 0, .int .i64 0, .int .i64 0, .int .i64 0], 64⟩
theorem tiok155 : TIOk Try.prog 155 ti155 := ⟨⟨Try.t155, (.agg #[.int .i64 0, .int .i64 0, .int .i64 0, .int .i64 0, .int .i64 0, .int .i64 0, .int .i64 0, .int .i64 0] : Value), by kernel_rfl, by kernel_rfl, by kernel_rfl, by kernel_rfl, by kernel_rfl⟩, ⟨_, Try.underlying155, by kernel_rfl⟩, by kernel_rfl, by kernel_rfl⟩
def ti157 : TI := ⟨.struct [(2, 0), (2, 1)], [.int .i64, .int .i64], [.int .i64 0, .int .i64 0], 16⟩
theorem tiok157 : TIOk Try.prog 157 ti157 := ⟨⟨Try.t157, (.agg #[.int .i64 0, .int .i64 0] : Value), by kernel_rfl, by kernel_rfl, by kernel_rfl, by kernel_rfl, by kernel_rfl⟩, ⟨_, Try.underlying157, by kernel_rfl⟩, by kernel_rfl, by kernel_rfl⟩
def ti158 : TI := ⟨.map 2 4, [.map], [.map none], 8⟩
theorem tiok158 : TIOk Try.prog 158 ti158 := ⟨⟨Try.t158, (.map none : Value), by kernel_rfl, by kernel_rfl, by kernel_rfl, by kernel_rfl, by kernel_rfl⟩, Try.underlying158, by kernel_rfl, by kernel_rfl⟩
def ti159 : TI := ⟨.ptr 149, [.ptr], [.pointer none], 8⟩
theorem tiok159 : TIOk Try.prog 159 ti159 := ⟨⟨Try.t159, (.pointer none : Value), by kernel_rfl, by kernel_rfl, by kernel_rfl, by kernel_rfl, by kernel_rfl⟩, Try.underlying159, by kernel_rfl, by kernel_rfl⟩
def ti163 : TI := ⟨.ptr 31, [.ptr], [.pointer none], 8⟩
theorem tiok163 : TIOk Try.prog 163 ti163 := ⟨⟨Try.t163, (.pointer none : Value), by kernel_rfl, by kernel_rfl, by kernel_rfl, by kernel_rfl, by kernel_rfl⟩, Try.underlying163, by kernel_rfl, by kernel_rfl⟩
def ti165 : TI := ⟨.func, [.any], [.nilFunc], 8⟩
theorem tiok165 : TIOk Try.prog 165 ti165 := ⟨⟨Try.t165, (.nilFunc : Value), by kernel_rfl, by kernel_rfl, by kernel_rfl, by kernel_rfl, by kernel_rfl⟩, ⟨_, _, _, Try.underlying165⟩, by kernel_rfl, by kernel_rfl⟩
def tt : Tab := [(2, ti2), (3, ti3), (4, ti4), (22, ti22), (23, ti23), (25, ti25), (28, ti28), (29, ti29), (31, ti31), (83, ti83), (86, ti86), (149, ti149), (155, ti155), (157, ti157), (158, ti158), (159, ti159), (163, ti163), (165, ti165)]
theorem tt_ok : TabOk Try.prog tt := ⟨tiok2, tiok3, tiok4, tiok22, tiok23, tiok25, tiok28, tiok29, tiok31, tiok83, tiok86, tiok149, tiok155, tiok157, tiok158, tiok159, tiok163, tiok165, trivial⟩
theorem mix : Try.prog.follows .mixedOrders = true := by kernel_rfl
end Go.Proofs.Ytenhcpjlkmbedaa

/- The plainer reading of functions of the program, each held against its code. Conditions: none. -/
set_option linter.unusedVariables false
set_option maxRecDepth 100000
namespace Go.Proofs.Ytenhcpjlkmbedaa
open Go Go.Den
/- loop.example/g00008/laws.FnExactPick -/
def an3 : Ann := (.seq .leaf (.seq .leaf (.seq .leaf (.seq (.seq .leaf (.cond (.seq .leaf .leaf) .leaf)) (.seq .leaf (.seq .leaf (.seq .leaf (.seq (.seq .leaf (.cond (.seq .leaf .leaf) .leaf)) (.seq (.seq (.draw [0, 0, 2, 7, 15] [0, 1, 2, 3, 4]) (.cond (.seq .leaf .leaf) .leaf)) (.seq .leaf .leaf))))))))))
def W3 (a0_0 : Int) (a0_1 : Int) (a0_2 : Sl) (a0_3 : Sl) (w : World) (K : Value → World → Prop) : Prop :=
  LetW (w.alloc (.cells #[.int .i64 a0_0, .int .i64 a0_1, .slice a0_2.a a0_2.len a0_2.cap, .slice a0_3.a a0_3.len a0_3.cap] 25)) fun w1 => ∃ n2 : Int, w1.cell? ⟨w.heap.size, 0, none⟩ = some (.int .i64 n2) ∧ ∃ n3 : Int, w1.cell? ⟨w.heap.size, 1, none⟩ = some (.int .i64 n3) ∧ ∃ l4 : Sl, w1.cell? ⟨w.heap.size, 2, none⟩ = some (.slice l4.a l4.len l4.cap) ∧ ∃ l5 : Sl, w1.cell? ⟨w.heap.size, 3, none⟩ = some (.slice l5.a l5.len l5.cap) ∧ CallW Try.prog 9 #[.agg #[.int .i64 n2, .int .i64 n3, .slice l4.a l4.len l4.cap, .slice l5.a l5.len l5.cap], .int .i64 1048576] w1 fun v6 w7 => ∃ n8 : Int, v6 = .int .i64 n8 ∧ BIf (decide ((n8 : Int) < 0)) (K (.bool true) w7) (∃ n9 : Int, w7.cell? ⟨w.heap.size, 0, none⟩ = some (.int .i64 n9) ∧ ∃ n10 : Int, w7.cell? ⟨w.heap.size, 1, none⟩ = some (.int .i64 n10) ∧ ∃ l11 : Sl, w7.cell? ⟨w.heap.size, 2, none⟩ = some (.slice l11.a l11.len l11.cap) ∧ ∃ l12 : Sl, w7.cell? ⟨w.heap.size, 3, none⟩ = some (.slice l12.a l12.len l12.cap) ∧ CallW Try.prog 11 #[.agg #[.int .i64 n9, .int .i64 n10, .slice l11.a l11.len l11.cap, .slice l12.a l12.len l12.cap]] w7 fun v13 w14 => ∃ n15 : Int, ∃ n16 : Int, ∃ l17 : Sl, ∃ l18 : Sl, v13 = .agg #[.int .i64 n15, .int .i64 n16, .slice l17.a l17.len l17.cap, .slice l18.a l18.len l18.cap] ∧ CallW Try.prog 10 #[.agg #[.int .i64 n15, .int .i64 n16, .slice l17.a l17.len l17.cap, .slice l18.a l18.len l18.cap]] w14 fun v19 w20 => ∃ n21 : Int, v19 = .int .i64 n21 ∧ ∃ n22 : Int, w20.cell? ⟨w.heap.size, 0, none⟩ = some (.int .i64 n22) ∧ ∃ n23 : Int, w20.cell? ⟨w.heap.size, 1, none⟩ = some (.int .i64 n23) ∧ ∃ l24 : Sl, w20.cell? ⟨w.heap.size, 2, none⟩ = some (.slice l24.a l24.len l24.cap) ∧ ∃ l25 : Sl, w20.cell? ⟨w.heap.size, 3, none⟩ = some (.slice l25.a l25.len l25.cap) ∧ CallW Try.prog 11 #[.agg #[.int .i64 n22, .int .i64 n23, .slice l24.a l24.len l24.cap, .slice l25.a l25.len l25.cap]] w20 fun v26 w27 => ∃ n28 : Int, ∃ n29 : Int, ∃ l30 : Sl, ∃ l31 : Sl, v26 = .agg #[.int .i64 n28, .int .i64 n29, .slice l30.a l30.len l30.cap, .slice l31.a l31.len l31.cap] ∧ LetW (w27.alloc (.cells #[.int .i64 0, .int .i64 0, .slice none 0 0, .slice none 0 0] 31)) fun w32 => MayN w32 ⟨w27.heap.size, 0, none⟩ 4 ∧ LetW (puts w32 ⟨w27.heap.size, 0, none⟩ 0 [.int .i64 n28, .int .i64 n29, .slice l30.a l30.len l30.cap, .slice l31.a l31.len l31.cap]) fun w33 => ∃ n34 : Int, w33.cell? ⟨w27.heap.size, 0, none⟩ = some (.int .i64 n34) ∧ ∃ n35 : Int, w33.cell? ⟨w27.heap.size, 1, none⟩ = some (.int .i64 n35) ∧ ∃ l36 : Sl, w33.cell? ⟨w27.heap.size, 2, none⟩ = some (.slice l36.a l36.len l36.cap) ∧ ∃ l37 : Sl, w33.cell? ⟨w27.heap.size, 3, none⟩ = some (.slice l37.a l37.len l37.cap) ∧ CallW Try.prog 12 #[.agg #[.int .i64 n34, .int .i64 n35, .slice l36.a l36.len l36.cap, .slice l37.a l37.len l37.cap]] w33 fun v38 w39 => ∃ n40 : Int, v38 = .int .i64 n40 ∧ BIf ((n40 : Int) != n21) (K (.bool false) w39) (∃ n41 : Int, w39.drew.cell? ⟨w27.heap.size, 0, none⟩ = some (.int .i64 n41) ∧ ∃ n42 : Int, w39.drew.cell? ⟨w27.heap.size, 1, none⟩ = some (.int .i64 n42) ∧ ∃ l43 : Sl, w39.drew.cell? ⟨w27.heap.size, 2, none⟩ = some (.slice l43.a l43.len l43.cap) ∧ ∃ l44 : Sl, w39.drew.cell? ⟨w27.heap.size, 3, none⟩ = some (.slice l44.a l44.len l44.cap) ∧ ∃ n45 : Int, w39.drew.cell? ⟨w.heap.size, 0, none⟩ = some (.int .i64 n45) ∧ ∃ n46 : Int, w39.drew.cell? ⟨w.heap.size, 1, none⟩ = some (.int .i64 n46) ∧ ∃ l47 : Sl, w39.drew.cell? ⟨w.heap.size, 2, none⟩ = some (.slice l47.a l47.len l47.cap) ∧ ∃ l48 : Sl, w39.drew.cell? ⟨w.heap.size, 3, none⟩ = some (.slice l48.a l48.len l48.cap) ∧ CallW Try.prog 11 #[.agg #[.int .i64 n45, .int .i64 n46, .slice l47.a l47.len l47.cap, .slice l48.a l48.len l48.cap]] w39.drew fun v49 w50 => ∃ n51 : Int, ∃ n52 : Int, ∃ l53 : Sl, ∃ l54 : Sl, v49 = .agg #[.int .i64 n51, .int .i64 n52, .slice l53.a l53.len l53.cap, .slice l54.a l54.len l54.cap] ∧ (∃ n55 : Int, w50.cell? ⟨w27.heap.size, 0, none⟩ = some (.int .i64 n55) ∧ ∃ n56 : Int, w50.cell? ⟨w27.heap.size, 1, none⟩ = some (.int .i64 n56) ∧ ∃ l57 : Sl, w50.cell? ⟨w27.heap.size, 2, none⟩ = some (.slice l57.a l57.len l57.cap) ∧ ∃ l58 : Sl, w50.cell? ⟨w27.heap.size, 3, none⟩ = some (.slice l58.a l58.len l58.cap) ∧ (.agg #[.int .i64 n55, .int .i64 n56, .slice l57.a l57.len l57.cap, .slice l58.a l58.len l58.cap] : Value) = (.agg #[.int .i64 n41, .int .i64 n42, .slice l43.a l43.len l43.cap, .slice l44.a l44.len l44.cap] : Value)) ∧ CallW Try.prog 13 #[.agg #[.int .i64 n41, .int .i64 n42, .slice l43.a l43.len l43.cap, .slice l44.a l44.len l44.cap], .agg #[.int .i64 n51, .int .i64 n52, .slice l53.a l53.len l53.cap, .slice l54.a l54.len l54.cap]] w50 fun v59 w60 => ∃ b61 : Bool, v59 = .bool b61 ∧ BIf (!b61) (K (.bool false) w60) (K (.bool true) w60)))
theorem eq3 (a0_0 : Int) (a0_1 : Int) (a0_2 : Sl) (a0_3 : Sl) (w : World) (K : Value → World → Prop) : denFn Try.prog tt Try.f3 an3 [.agg #[.int .i64 a0_0, .int .i64 a0_1, .slice a0_2.a a0_2.len a0_2.cap, .slice a0_3.a a0_3.len a0_3.cap]] w K = W3 a0_0 a0_1 a0_2 a0_3 w K := by kernel_rfl
theorem ok3 : OkFn Try.prog 3 := ⟨Try.f3, Try.func3, by kernel_rfl, by kernel_rfl⟩
theorem go3 {a0_0 : Int} {a0_1 : Int} {a0_2 : Sl} {a0_3 : Sl} {w : World} {K : Value → World → Prop} (h : W3 a0_0 a0_1 a0_2 a0_3 w K) : CallW Try.prog 3 #[.agg #[.int .i64 a0_0, .int .i64 a0_1, .slice a0_2.a a0_2.len a0_2.cap, .slice a0_3.a a0_3.len a0_3.cap]] w K :=
  .inl ⟨ok3, denFn_sound tt_ok mix Try.func3 (by kernel_rfl) (eq3 a0_0 a0_1 a0_2 a0_3 w K ▸ h)⟩

/- loop.example/g00008/laws.szSched -/
def an9 : Ann := (.seq .leaf (.seq .leaf (.seq (.seq .leaf (.cond (.seq .leaf .leaf) .leaf)) (.seq .leaf (.seq (.seq .leaf (.cond (.seq .leaf .leaf) .leaf)) (.seq .leaf .leaf))))))
def W9 (a0_0 : Int) (a0_1 : Int) (a0_2 : Sl) (a0_3 : Sl) (a1 : Int) (w : World) (K : Value → World → Prop) : Prop :=
  LetW (w.alloc (.cells #[.int .i64 a0_0, .int .i64 a0_1, .slice a0_2.a a0_2.len a0_2.cap, .slice a0_3.a a0_3.len a0_3.cap] 25)) fun w1 => ∃ l2 : Sl, w1.cell? ⟨w.heap.size, 2, none⟩ = some (.slice l2.a l2.len l2.cap) ∧ CallW Try.prog 46 #[.slice l2.a l2.len l2.cap, .int .i64 a1] w1 fun v3 w4 => ∃ n5 : Int, v3 = .int .i64 n5 ∧ BIf (decide ((n5 : Int) < 0)) (K (.int .i64 (-1)) w4) (∃ l6 : Sl, w4.cell? ⟨w.heap.size, 3, none⟩ = some (.slice l6.a l6.len l6.cap) ∧ CallW Try.prog 47 #[.slice l6.a l6.len l6.cap, .int .i64 n5] w4 fun v7 w8 => ∃ n9 : Int, v7 = .int .i64 n9 ∧ BIf (decide ((n9 : Int) < 0)) (K (.int .i64 (-1)) w8) (K (.int .i64 n9) w8))
theorem eq9 (a0_0 : Int) (a0_1 : Int) (a0_2 : Sl) (a0_3 : Sl) (a1 : Int) (w : World) (K : Value → World → Prop) : denFn Try.prog tt Try.f9 an9 [.agg #[.int .i64 a0_0, .int .i64 a0_1, .slice a0_2.a a0_2.len a0_2.cap, .slice a0_3.a a0_3.len a0_3.cap], .int .i64 a1] w K = W9 a0_0 a0_1 a0_2 a0_3 a1 w K := by kernel_rfl
theorem ok9 : OkFn Try.prog 9 := ⟨Try.f9, Try.func9, by kernel_rfl, by kernel_rfl⟩
theorem go9 {a0_0 : Int} {a0_1 : Int} {a0_2 : Sl} {a0_3 : Sl} {a1 : Int} {w : World} {K : Value → World → Prop} (h : W9 a0_0 a0_1 a0_2 a0_3 a1 w K) : CallW Try.prog 9 #[.agg #[.int .i64 a0_0, .int .i64 a0_1, .slice a0_2.a a0_2.len a0_2.cap, .slice a0_3.a a0_3.len a0_3.cap], .int .i64 a1] w K :=
  .inl ⟨ok9, denFn_sound tt_ok mix Try.func9 (by kernel_rfl) (eq9 a0_0 a0_1 a0_2 a0_3 a1 w K ▸ h)⟩

/- loop.example/g00008/spec.Pick -/
def an10 : Ann := (.seq .leaf (.seq (.seq .leaf (.cond (.seq .leaf .leaf) .leaf)) (.seq .leaf .leaf)))
def W10 (a0_0 : Int) (a0_1 : Int) (a0_2 : Sl) (a0_3 : Sl) (w : World) (K : Value → World → Prop) : Prop :=
  LetW (w.alloc (.cells #[.int .i64 a0_0, .int .i64 a0_1, .slice a0_2.a a0_2.len a0_2.cap, .slice a0_3.a a0_3.len a0_3.cap] 31)) fun w1 => ∃ n2 : Int, w1.cell? ⟨w.heap.size, 0, none⟩ = some (.int .i64 n2) ∧ ∃ n3 : Int, w1.cell? ⟨w.heap.size, 1, none⟩ = some (.int .i64 n3) ∧ ∃ l4 : Sl, w1.cell? ⟨w.heap.size, 2, none⟩ = some (.slice l4.a l4.len l4.cap) ∧ ∃ l5 : Sl, w1.cell? ⟨w.heap.size, 3, none⟩ = some (.slice l5.a l5.len l5.cap) ∧ CallW Try.prog 48 #[.agg #[.int .i64 n2, .int .i64 n3, .slice l4.a l4.len l4.cap, .slice l5.a l5.len l5.cap]] w1 fun v6 w7 => ∃ b8 : Bool, v6 = .bool b8 ∧ BIf (!b8) (K (.int .i64 (-1)) w7) (∃ n9 : Int, w7.cell? ⟨w.heap.size, 0, none⟩ = some (.int .i64 n9) ∧ ∃ n10 : Int, w7.cell? ⟨w.heap.size, 1, none⟩ = some (.int .i64 n10) ∧ ∃ l11 : Sl, w7.cell? ⟨w.heap.size, 2, none⟩ = some (.slice l11.a l11.len l11.cap) ∧ ∃ l12 : Sl, w7.cell? ⟨w.heap.size, 3, none⟩ = some (.slice l12.a l12.len l12.cap) ∧ CallW Try.prog 49 #[.agg #[.int .i64 n9, .int .i64 n10, .slice l11.a l11.len l11.cap, .slice l12.a l12.len l12.cap]] w7 fun v13 w14 => ∃ n15 : Int, v13 = .int .i64 n15 ∧ K (.int .i64 n15) w14)
theorem eq10 (a0_0 : Int) (a0_1 : Int) (a0_2 : Sl) (a0_3 : Sl) (w : World) (K : Value → World → Prop) : denFn Try.prog tt Try.f10 an10 [.agg #[.int .i64 a0_0, .int .i64 a0_1, .slice a0_2.a a0_2.len a0_2.cap, .slice a0_3.a a0_3.len a0_3.cap]] w K = W10 a0_0 a0_1 a0_2 a0_3 w K := by kernel_rfl
theorem ok10 : OkFn Try.prog 10 := ⟨Try.f10, Try.func10, by kernel_rfl, by kernel_rfl⟩
theorem go10 {a0_0 : Int} {a0_1 : Int} {a0_2 : Sl} {a0_3 : Sl} {w : World} {K : Value → World → Prop} (h : W10 a0_0 a0_1 a0_2 a0_3 w K) : CallW Try.prog 10 #[.agg #[.int .i64 a0_0, .int .i64 a0_1, .slice a0_2.a a0_2.len a0_2.cap, .slice a0_3.a a0_3.len a0_3.cap]] w K :=
  .inl ⟨ok10, denFn_sound tt_ok mix Try.func10 (by kernel_rfl) (eq10 a0_0 a0_1 a0_2 a0_3 w K ▸ h)⟩

/- loop.example/g00008/laws.toSched -/
def an11 : Ann := (.seq .leaf (.seq .leaf (.seq .leaf (.seq .leaf (.seq .leaf (.seq .leaf (.seq .leaf .leaf)))))))
def W11 (a0_0 : Int) (a0_1 : Int) (a0_2 : Sl) (a0_3 : Sl) (w : World) (K : Value → World → Prop) : Prop :=
  LetW (w.alloc (.cells #[.int .i64 a0_0, .int .i64 a0_1, .slice a0_2.a a0_2.len a0_2.cap, .slice a0_3.a a0_3.len a0_3.cap] 25)) fun w1 => LetW (w1.alloc (.cells #[.int .i64 0, .int .i64 0, .slice none 0 0, .slice none 0 0] 31)) fun w2 => LetW (w2.alloc (.cells #[.int .i64 0, .int .i64 0, .slice none 0 0, .slice none 0 0] 31)) fun w3 => ∃ n4 : Int, w3.cell? ⟨w.heap.size, 0, none⟩ = some (.int .i64 n4) ∧ May w3 ⟨w2.heap.size, 0, none⟩ ∧ LetW (w3.setCell ⟨w2.heap.size, 0, none⟩ (.int .i64 n4)) fun w5 => ∃ n6 : Int, w5.cell? ⟨w.heap.size, 1, none⟩ = some (.int .i64 n6) ∧ May w5 ⟨w2.heap.size, 1, none⟩ ∧ LetW (w5.setCell ⟨w2.heap.size, 1, none⟩ (.int .i64 n6)) fun w7 => ∃ l8 : Sl, w7.cell? ⟨w.heap.size, 2, none⟩ = some (.slice l8.a l8.len l8.cap) ∧ CallW Try.prog 50 #[.slice l8.a l8.len l8.cap] w7 fun v9 w10 => ∃ l11 : Sl, v9 = .slice l11.a l11.len l11.cap ∧ May w10 ⟨w2.heap.size, 2, none⟩ ∧ LetW (w10.setCell ⟨w2.heap.size, 2, none⟩ (.slice l11.a l11.len l11.cap)) fun w12 => ∃ l13 : Sl, w12.cell? ⟨w.heap.size, 3, none⟩ = some (.slice l13.a l13.len l13.cap) ∧ CallW Try.prog 51 #[.slice l13.a l13.len l13.cap] w12 fun v14 w15 => ∃ l16 : Sl, v14 = .slice l16.a l16.len l16.cap ∧ May w15 ⟨w2.heap.size, 3, none⟩ ∧ LetW (w15.setCell ⟨w2.heap.size, 3, none⟩ (.slice l16.a l16.len l16.cap)) fun w17 => ∃ n18 : Int, w17.cell? ⟨w2.heap.size, 0, none⟩ = some (.int .i64 n18) ∧ ∃ n19 : Int, w17.cell? ⟨w2.heap.size, 1, none⟩ = some (.int .i64 n19) ∧ ∃ l20 : Sl, w17.cell? ⟨w2.heap.size, 2, none⟩ = some (.slice l20.a l20.len l20.cap) ∧ ∃ l21 : Sl, w17.cell? ⟨w2.heap.size, 3, none⟩ = some (.slice l21.a l21.len l21.cap) ∧ MayN w17 ⟨w1.heap.size, 0, none⟩ 4 ∧ LetW (puts w17 ⟨w1.heap.size, 0, none⟩ 0 [.int .i64 n18, .int .i64 n19, .slice l20.a l20.len l20.cap, .slice l21.a l21.len l21.cap]) fun w22 => ∃ n23 : Int, w22.cell? ⟨w1.heap.size, 0, none⟩ = some (.int .i64 n23) ∧ ∃ n24 : Int, w22.cell? ⟨w1.heap.size, 1, none⟩ = some (.int .i64 n24) ∧ ∃ l25 : Sl, w22.cell? ⟨w1.heap.size, 2, none⟩ = some (.slice l25.a l25.len l25.cap) ∧ ∃ l26 : Sl, w22.cell? ⟨w1.heap.size, 3, none⟩ = some (.slice l26.a l26.len l26.cap) ∧ K (.agg #[.int .i64 n23, .int .i64 n24, .slice l25.a l25.len l25.cap, .slice l26.a l26.len l26.cap]) w22
theorem eq11 (a0_0 : Int) (a0_1 : Int) (a0_2 : Sl) (a0_3 : Sl) (w : World) (K : Value → World → Prop) : denFn Try.prog tt Try.f11 an11 [.agg #[.int .i64 a0_0, .int .i64 a0_1, .slice a0_2.a a0_2.len a0_2.cap, .slice a0_3.a a0_3.len a0_3.cap]] w K = W11 a0_0 a0_1 a0_2 a0_3 w K := by kernel_rfl
theorem ok11 : OkFn Try.prog 11 := ⟨Try.f11, Try.func11, by kernel_rfl, by kernel_rfl⟩
theorem go11 {a0_0 : Int} {a0_1 : Int} {a0_2 : Sl} {a0_3 : Sl} {w : World} {K : Value → World → Prop} (h : W11 a0_0 a0_1 a0_2 a0_3 w K) : CallW Try.prog 11 #[.agg #[.int .i64 a0_0, .int .i64 a0_1, .slice a0_2.a a0_2.len a0_2.cap, .slice a0_3.a a0_3.len a0_3.cap]] w K :=
  .inl ⟨ok11, denFn_sound tt_ok mix Try.func11 (by kernel_rfl) (eq11 a0_0 a0_1 a0_2 a0_3 w K ▸ h)⟩

/- loop.example/g00008/impl.Pick -/
def an12 : Ann := (.seq .leaf (.seq (.seq .leaf (.cond (.seq .leaf .leaf) .leaf)) (.seq (.seq .leaf (.seq .leaf (.cond (.seq .leaf .leaf) .leaf))) (.seq .leaf .leaf))))
def W12 (a0_0 : Int) (a0_1 : Int) (a0_2 : Sl) (a0_3 : Sl) (w : World) (K : Value → World → Prop) : Prop :=
  LetW (w.alloc (.cells #[.int .i64 a0_0, .int .i64 a0_1, .slice a0_2.a a0_2.len a0_2.cap, .slice a0_3.a a0_3.len a0_3.cap] 31)) fun w1 => ∃ n2 : Int, w1.cell? ⟨w.heap.size, 0, none⟩ = some (.int .i64 n2) ∧ ∃ n3 : Int, w1.cell? ⟨w.heap.size, 1, none⟩ = some (.int .i64 n3) ∧ ∃ l4 : Sl, w1.cell? ⟨w.heap.size, 2, none⟩ = some (.slice l4.a l4.len l4.cap) ∧ ∃ l5 : Sl, w1.cell? ⟨w.heap.size, 3, none⟩ = some (.slice l5.a l5.len l5.cap) ∧ CallW Try.prog 52 #[.agg #[.int .i64 n2, .int .i64 n3, .slice l4.a l4.len l4.cap, .slice l5.a l5.len l5.cap]] w1 fun v6 w7 => ∃ b8 : Bool, v6 = .bool b8 ∧ BIf (!b8) (K (.int .i64 (-1)) w7) (CallW Try.prog 53 #[.pointer (some ⟨w.heap.size, 0, none⟩)] w7 fun v9 w10 => ∃ p11 : Option Addr, v9 = .pointer p11 ∧ BIf (!(Option.isNone p11)) (∃ p12 : Addr, (p11 : Option Addr) = some p12 ∧ ∃ n13 : Int, w10.cell? (p12.add 0) = some (.int .i64 n13) ∧ K (.int .i64 n13) w10) (K (.int .i64 (-1)) w10))
theorem eq12 (a0_0 : Int) (a0_1 : Int) (a0_2 : Sl) (a0_3 : Sl) (w : World) (K : Value → World → Prop) : denFn Try.prog tt Try.f12 an12 [.agg #[.int .i64 a0_0, .int .i64 a0_1, .slice a0_2.a a0_2.len a0_2.cap, .slice a0_3.a a0_3.len a0_3.cap]] w K = W12 a0_0 a0_1 a0_2 a0_3 w K := by kernel_rfl
theorem ok12 : OkFn Try.prog 12 := ⟨Try.f12, Try.func12, by kernel_rfl, by kernel_rfl⟩
theorem go12 {a0_0 : Int} {a0_1 : Int} {a0_2 : Sl} {a0_3 : Sl} {w : World} {K : Value → World → Prop} (h : W12 a0_0 a0_1 a0_2 a0_3 w K) : CallW Try.prog 12 #[.agg #[.int .i64 a0_0, .int .i64 a0_1, .slice a0_2.a a0_2.len a0_2.cap, .slice a0_3.a a0_3.len a0_3.cap]] w K :=
  .inl ⟨ok12, denFn_sound tt_ok mix Try.func12 (by kernel_rfl) (eq12 a0_0 a0_1 a0_2 a0_3 w K ▸ h)⟩

/- loop.example/g00008/laws.eqSched -/
def an13 : Ann := (.seq .leaf (.seq (.seq .leaf (.cond (.seq .leaf .leaf) .leaf)) (.seq (.seq .leaf (.cond (.seq .leaf .leaf) .leaf)) (.seq (.seq .leaf (.cond (.seq .leaf .leaf) .leaf)) (.seq (.seq .leaf (.cond (.seq .leaf .leaf) .leaf)) (.seq .leaf .leaf))))))
def W13 (a0_0 : Int) (a0_1 : Int) (a0_2 : Sl) (a0_3 : Sl) (a1_0 : Int) (a1_1 : Int) (a1_2 : Sl) (a1_3 : Sl) (w : World) (K : Value → World → Prop) : Prop :=
  LetW (w.alloc (.cells #[.int .i64 a0_0, .int .i64 a0_1, .slice a0_2.a a0_2.len a0_2.cap, .slice a0_3.a a0_3.len a0_3.cap] 31)) fun w1 => LetW (w1.alloc (.cells #[.int .i64 a1_0, .int .i64 a1_1, .slice a1_2.a a1_2.len a1_2.cap, .slice a1_3.a a1_3.len a1_3.cap] 31)) fun w2 => ∃ n3 : Int, w2.cell? ⟨w.heap.size, 0, none⟩ = some (.int .i64 n3) ∧ ∃ n4 : Int, w2.cell? ⟨w1.heap.size, 0, none⟩ = some (.int .i64 n4) ∧ BIf ((n3 : Int) != n4) (K (.bool false) w2) (∃ n5 : Int, w2.cell? ⟨w.heap.size, 1, none⟩ = some (.int .i64 n5) ∧ ∃ n6 : Int, w2.cell? ⟨w1.heap.size, 1, none⟩ = some (.int .i64 n6) ∧ BIf ((n5 : Int) != n6) (K (.bool false) w2) (∃ l7 : Sl, w2.cell? ⟨w.heap.size, 2, none⟩ = some (.slice l7.a l7.len l7.cap) ∧ ∃ l8 : Sl, w2.cell? ⟨w1.heap.size, 2, none⟩ = some (.slice l8.a l8.len l8.cap) ∧ CallW Try.prog 54 #[.slice l7.a l7.len l7.cap, .slice l8.a l8.len l8.cap] w2 fun v9 w10 => ∃ b11 : Bool, v9 = .bool b11 ∧ BIf (!b11) (K (.bool false) w10) (∃ l12 : Sl, w10.cell? ⟨w.heap.size, 3, none⟩ = some (.slice l12.a l12.len l12.cap) ∧ ∃ l13 : Sl, w10.cell? ⟨w1.heap.size, 3, none⟩ = some (.slice l13.a l13.len l13.cap) ∧ CallW Try.prog 55 #[.slice l12.a l12.len l12.cap, .slice l13.a l13.len l13.cap] w10 fun v14 w15 => ∃ b16 : Bool, v14 = .bool b16 ∧ BIf (!b16) (K (.bool false) w15) (K (.bool true) w15))))
theorem eq13 (a0_0 : Int) (a0_1 : Int) (a0_2 : Sl) (a0_3 : Sl) (a1_0 : Int) (a1_1 : Int) (a1_2 : Sl) (a1_3 : Sl) (w : World) (K : Value → World → Prop) : denFn Try.prog tt Try.f13 an13 [.agg #[.int .i64 a0_0, .int .i64 a0_1, .slice a0_2.a a0_2.len a0_2.cap, .slice a0_3.a a0_3.len a0_3.cap], .agg #[.int .i64 a1_0, .int .i64 a1_1, .slice a1_2.a a1_2.len a1_2.cap, .slice a1_3.a a1_3.len a1_3.cap]] w K = W13 a0_0 a0_1 a0_2 a0_3 a1_0 a1_1 a1_2 a1_3 w K := by kernel_rfl
theorem ok13 : OkFn Try.prog 13 := ⟨Try.f13, Try.func13, by kernel_rfl, by kernel_rfl⟩
theorem go13 {a0_0 : Int} {a0_1 : Int} {a0_2 : Sl} {a0_3 : Sl} {a1_0 : Int} {a1_1 : Int} {a1_2 : Sl} {a1_3 : Sl} {w : World} {K : Value → World → Prop} (h : W13 a0_0 a0_1 a0_2 a0_3 a1_0 a1_1 a1_2 a1_3 w K) : CallW Try.prog 13 #[.agg #[.int .i64 a0_0, .int .i64 a0_1, .slice a0_2.a a0_2.len a0_2.cap, .slice a0_3.a a0_3.len a0_3.cap], .agg #[.int .i64 a1_0, .int .i64 a1_1, .slice a1_2.a a1_2.len a1_2.cap, .slice a1_3.a a1_3.len a1_3.cap]] w K :=
  .inl ⟨ok13, denFn_sound tt_ok mix Try.func13 (by kernel_rfl) (eq13 a0_0 a0_1 a0_2 a0_3 a1_0 a1_1 a1_2 a1_3 w K ▸ h)⟩

/- loop.example/g00008/laws.szThreadS -/
def an46 : Ann := (.seq .leaf (.seq .leaf (.seq (.seq .leaf (.cond (.seq .leaf .leaf) .leaf)) (.seq .leaf .leaf))))
def W46 (a0 : Sl) (a1 : Int) (w : World) (K : Value → World → Prop) : Prop :=
  BIf (decide ((IntKind.wrap .i64 (a1 - ((a0.len : Nat) : Int)) : Int) < 0)) (K (.int .i64 (-1)) w) (K (.int .i64 (IntKind.wrap .i64 (a1 - ((a0.len : Nat) : Int)))) w)
theorem eq46 (a0 : Sl) (a1 : Int) (w : World) (K : Value → World → Prop) : denFn Try.prog tt Try.f46 an46 [.slice a0.a a0.len a0.cap, .int .i64 a1] w K = W46 a0 a1 w K := by kernel_rfl
theorem ok46 : OkFn Try.prog 46 := ⟨Try.f46, Try.func46, by kernel_rfl, by kernel_rfl⟩
theorem go46 {a0 : Sl} {a1 : Int} {w : World} {K : Value → World → Prop} (h : W46 a0 a1 w K) : CallW Try.prog 46 #[.slice a0.a a0.len a0.cap, .int .i64 a1] w K :=
  .inl ⟨ok46, denFn_sound tt_ok mix Try.func46 (by kernel_rfl) (eq46 a0 a1 w K ▸ h)⟩

/- loop.example/g00008/laws.szLockS -/
def an47 : Ann := (.seq .leaf (.seq .leaf (.seq (.seq .leaf (.cond (.seq .leaf .leaf) .leaf)) (.seq .leaf .leaf))))
def W47 (a0 : Sl) (a1 : Int) (w : World) (K : Value → World → Prop) : Prop :=
  BIf (decide ((IntKind.wrap .i64 (a1 - ((a0.len : Nat) : Int)) : Int) < 0)) (K (.int .i64 (-1)) w) (K (.int .i64 (IntKind.wrap .i64 (a1 - ((a0.len : Nat) : Int)))) w)
theorem eq47 (a0 : Sl) (a1 : Int) (w : World) (K : Value → World → Prop) : denFn Try.prog tt Try.f47 an47 [.slice a0.a a0.len a0.cap, .int .i64 a1] w K = W47 a0 a1 w K := by kernel_rfl
theorem ok47 : OkFn Try.prog 47 := ⟨Try.f47, Try.func47, by kernel_rfl, by kernel_rfl⟩
theorem go47 {a0 : Sl} {a1 : Int} {w : World} {K : Value → World → Prop} (h : W47 a0 a1 w K) : CallW Try.prog 47 #[.slice a0.a a0.len a0.cap, .int .i64 a1] w K :=
  .inl ⟨ok47, denFn_sound tt_ok mix Try.func47 (by kernel_rfl) (eq47 a0 a1 w K ▸ h)⟩

/- loop.example/g00008/spec.SchedOk -/
def an48 : Ann := (.seq .leaf (.seq (.seq (.reg [(5, none), (5, some (2, [(17, .bool)])), (1, none), (5, some (2, [(23, .bool)])), (1, none), (5, some (2, [(29, .bool)]))]) (.cond (.seq .leaf .leaf) .leaf)) (.seq (.seq .leaf (.in_ (.loop 2 [(3, .int .i64)] (.seq (.seq .leaf (.cond .leaf .leaf)) (.seq (.in_ (.seq .leaf (.join 10 [(72, .bool)] (.draw [0, 1, 3, 7, 15, 31, 63, 127, 255, 511, 1023, 2047, 4095, 8191, 4095, 20479, 65535, 131071, 262143, 4095, 528383, 2097151, 4194303, 8388607, 16777215, 33554431, 33554431, 100663295, 268435455, 536870911, 1073741823] [0, 1, 2, 3, 4, 5, 6, 7, 8, 9, 10, 11, 12, 13, 14, 15, 16, 17, 18, 19, 20, 21, 22, 23, 24, 25, 26, 27, 28, 29, 30]) (.cond (.seq .leaf .leaf) .leaf)))) .leaf))))) (.seq (.seq .leaf (.in_ (.loop 2 [(5, .int .i64)] (.seq (.seq .leaf (.cond .leaf .leaf)) (.seq (.in_ (.seq .leaf (.seq (.join 98 [(112, .bool)] (.draw [0, 1, 3, 7, 15, 7, 39, 127, 255, 511, 7, 1031, 4095, 8191, 16383, 32767, 32767, 131071, 262143, 524287, 1048575, 2097151, 2097151, 6291455, 2097151, 18874367, 67108863, 134217727] [0, 1, 2, 3, 4, 5, 6, 7, 8, 9, 10, 11, 12, 13, 14, 15, 16, 17, 18, 19, 20, 21, 22, 23, 24, 25, 26, 27]) (.cond (.seq .leaf .leaf) .leaf)) (.seq .leaf (.in_ (.loop 98 [(7, .int .i64)] (.seq (.seq .leaf (.cond .leaf .leaf)) (.seq (.in_ (.seq (.draw [0, 1, 0, 7, 15, 31, 0, 64, 255] [0, 1, 2, 3, 4, 5, 6, 7, 8]) (.cond (.seq .leaf .leaf) .leaf))) .leaf)))))))) .leaf))))) (.seq .leaf .leaf)))))
def W48 (a0_0 : Int) (a0_1 : Int) (a0_2 : Sl) (a0_3 : Sl) (w : World) (K : Value → World → Prop) : Prop :=
  LetW (w.alloc (.cells #[.int .i64 a0_0, .int .i64 a0_1, .slice a0_2.a a0_2.len a0_2.cap, .slice a0_3.a a0_3.len a0_3.cap] 31)) fun w1 => ∃ n2 : Int, w1.cell? ⟨w.heap.size, 0, none⟩ = some (.int .i64 n2) ∧ CallW Try.prog 107 #[.int .i64 n2] w1 fun v3 w4 => ∃ b5 : Bool, v3 = .bool b5 ∧ JoinW [.bool] (fun J7 => BIf (!b5) (J7 true w4) (∃ n130 : Int, w4.cell? ⟨w.heap.size, 1, none⟩ = some (.int .i64 n130) ∧ CallW Try.prog 107 #[.int .i64 n130] w4 fun v131 w132 => ∃ b133 : Bool, v131 = .bool b133 ∧ J7 (!b133) w132)) (fun (b6 : Bool) w8 => JoinW [.bool] (fun J10 => BIf b6 (J10 true w8) (∃ l129 : Sl, w8.cell? ⟨w.heap.size, 2, none⟩ = some (.slice l129.a l129.len l129.cap) ∧ J10 (decide ((((l129.len : Nat) : Int) : Int) > 32)) w8)) (fun (b9 : Bool) w11 => JoinW [.bool] (fun J13 => BIf b9 (J13 true w11) (∃ l128 : Sl, w11.cell? ⟨w.heap.size, 3, none⟩ = some (.slice l128.a l128.len l128.cap) ∧ J13 (decide ((((l128.len : Nat) : Int) : Int) > 16)) w11)) (fun (b12 : Bool) w14 => BIf b12 (K (.bool false) w14) (LoopW [.int .i64] (fun J16 => fun (n15 : Int) w17 => ∃ l18 : Sl, w17.cell? ⟨w.heap.size, 3, none⟩ = some (.slice l18.a l18.len l18.cap) ∧ BIf (decide ((n15 : Int) < ((l18.len : Nat) : Int))) (∃ l19 : Sl, w17.cell? ⟨w.heap.size, 3, none⟩ = some (.slice l19.a l19.len l19.cap) ∧ 0 ≤ (n15 : Int) ∧ (n15 : Int) < ((l19.len : Nat) : Int) ∧ ∃ q20 : Addr, (l19.a : Option Addr) = some q20 ∧ ∃ n21 : Int, w17.cell? ((q20.add (Int.toNat n15 * 2)).add 0) = some (.int .i64 n21) ∧ ∃ n22 : Int, w17.cell? ((q20.add (Int.toNat n15 * 2)).add 1) = some (.int .i64 n22) ∧ LetW (w17.alloc (.cells #[.int .i64 0, .int .i64 0] 149)) fun w23 => MayN w23 ⟨w17.heap.size, 0, none⟩ 2 ∧ LetW (puts w23 ⟨w17.heap.size, 0, none⟩ 0 [.int .i64 n21, .int .i64 n22]) fun w24 => JoinW [.bool] (fun J26 => ∃ n28 : Int, w24.drew.cell? ⟨w17.heap.size, 0, none⟩ = some (.int .i64 n28) ∧ BIf (decide ((n28 : Int) < 0)) (J26 true w24.drew) (∃ n29 : Int, w24.drew.cell? ⟨w17.heap.size, 0, none⟩ = some (.int .i64 n29) ∧ BIf (decide ((n29 : Int) ≥ 16)) (J26 true w24.drew) (BIf (decide ((n15 : Int) > 0)) (∃ l30 : Sl, w24.drew.cell? ⟨w.heap.size, 3, none⟩ = some (.slice l30.a l30.len l30.cap) ∧ 0 ≤ (IntKind.wrap .i64 (n15 - 1) : Int) ∧ (IntKind.wrap .i64 (n15 - 1) : Int) < ((l30.len : Nat) : Int) ∧ ∃ q31 : Addr, (l30.a : Option Addr) = some q31 ∧ ∃ n32 : Int, w24.drew.cell? ((q31.add (Int.toNat (IntKind.wrap .i64 (n15 - 1)) * 2)).add 0) = some (.int .i64 n32) ∧ ∃ n33 : Int, w24.drew.cell? ⟨w17.heap.size, 0, none⟩ = some (.int .i64 n33) ∧ BIf (decide ((n32 : Int) ≥ n33)) (J26 true w24.drew) (∃ n34 : Int, w24.drew.cell? ⟨w.heap.size, 0, none⟩ = some (.int .i64 n34) ∧ ∃ n35 : Int, w24.drew.cell? ⟨w.heap.size, 1, none⟩ = some (.int .i64 n35) ∧ ∃ l36 : Sl, w24.drew.cell? ⟨w.heap.size, 2, none⟩ = some (.slice l36.a l36.len l36.cap) ∧ ∃ l37 : Sl, w24.drew.cell? ⟨w.heap.size, 3, none⟩ = some (.slice l37.a l37.len l37.cap) ∧ ∃ n38 : Int, w24.drew.cell? ⟨w17.heap.size, 1, none⟩ = some (.int .i64 n38) ∧ CallW Try.prog 108 #[.agg #[.int .i64 n34, .int .i64 n35, .slice l36.a l36.len l36.cap, .slice l37.a l37.len l37.cap], .int .i64 n38] w24.drew fun v39 w40 => ∃ n41 : Int, v39 = .int .i64 n41 ∧ J26 (decide ((n41 : Int) < 0)) w40)) (∃ n42 : Int, w24.drew.cell? ⟨w.heap.size, 0, none⟩ = some (.int .i64 n42) ∧ ∃ n43 : Int, w24.drew.cell? ⟨w.heap.size, 1, none⟩ = some (.int .i64 n43) ∧ ∃ l44 : Sl, w24.drew.cell? ⟨w.heap.size, 2, none⟩ = some (.slice l44.a l44.len l44.cap) ∧ ∃ l45 : Sl, w24.drew.cell? ⟨w.heap.size, 3, none⟩ = some (.slice l45.a l45.len l45.cap) ∧ ∃ n46 : Int, w24.drew.cell? ⟨w17.heap.size, 1, none⟩ = some (.int .i64 n46) ∧ CallW Try.prog 108 #[.agg #[.int .i64 n42, .int .i64 n43, .slice l44.a l44.len l44.cap, .slice l45.a l45.len l45.cap], .int .i64 n46] w24.drew fun v47 w48 => ∃ n49 : Int, v47 = .int .i64 n49 ∧ J26 (decide ((n49 : Int) < 0)) w48)))) (fun (b25 : Bool) w27 => BIf b25 (K (.bool false) w27) (J16 (IntKind.wrap .i64 (n15 + 1)) w27))) (LoopW [.int .i64] (fun J51 => fun (n50 : Int) w52 => ∃ l53 : Sl, w52.cell? ⟨w.heap.size, 2, none⟩ = some (.slice l53.a l53.len l53.cap) ∧ BIf (decide ((n50 : Int) < ((l53.len : Nat) : Int))) (∃ l54 : Sl, w52.cell? ⟨w.heap.size, 2, none⟩ = some (.slice l54.a l54.len l54.cap) ∧ 0 ≤ (n50 : Int) ∧ (n50 : Int) < ((l54.len : Nat) : Int) ∧ ∃ q55 : Addr, (l54.a : Option Addr) = some q55 ∧ ∃ n56 : Int, w52.cell? ((q55.add (Int.toNat n50 * 8)).add 0) = some (.int .i64 n56) ∧ ∃ n57 : Int, w52.cell? ((q55.add (Int.toNat n50 * 8)).add 1) = some (.int .i64 n57) ∧ ∃ n58 : Int, w52.cell? ((q55.add (Int.toNat n50 * 8)).add 2) = some (.int .i64 n58) ∧ ∃ n59 : Int, w52.cell? ((q55.add (Int.toNat n50 * 8)).add 3) = some (.int .i64 n59) ∧ ∃ n60 : Int, w52.cell? ((q55.add (Int.toNat n50 * 8)).add 4) = some (.int .i64 n60) ∧ ∃ n61 : Int, w52.cell? ((q55.add (Int.toNat n50 * 8)).add 5) = some (.int .i64 n61) ∧ ∃ n62 : Int, w52.cell? ((q55.add (Int.toNat n50 * 8)).add 6) = some (.int .i64 n62) ∧ ∃ n63 : Int, w52.cell? ((q55.add (Int.toNat n50 * 8)).add 7) = some (.int .i64 n63) ∧ LetW (w52.alloc (.cells #[.int .i64 0, .int .i64 0, .int .i64 0, .int .i64 0, .int .i64 0, .int .i64 0, .int .i64 0, .int .i64 0] 86)) fun w64 => MayN w64 ⟨w52.heap.size, 0, none⟩ 8 ∧ LetW (puts w64 ⟨w52.heap.size, 0, none⟩ 0 [.int .i64 n56, .int .i64 n57, .int .i64 n58, .int .i64 n59, .int .i64 n60, .int .i64 n61, .int .i64 n62, .int .i64 n63]) fun w65 => JoinW [.bool] (fun J67 => BIf (decide ((n50 : Int) > 0)) (∃ l76 : Sl, w65.drew.cell? ⟨w.heap.size, 2, none⟩ = some (.slice l76.a l76.len l76.cap) ∧ 0 ≤ (IntKind.wrap .i64 (n50 - 1) : Int) ∧ (IntKind.wrap .i64 (n50 - 1) : Int) < ((l76.len : Nat) : Int) ∧ ∃ q77 : Addr, (l76.a : Option Addr) = some q77 ∧ ∃ n78 : Int, w65.drew.cell? ((q77.add (Int.toNat (IntKind.wrap .i64 (n50 - 1)) * 8)).add 0) = some (.int .i64 n78) ∧ ∃ n79 : Int, w65.drew.cell? ⟨w52.heap.size, 0, none⟩ = some (.int .i64 n79) ∧ BIf (decide ((n78 : Int) ≥ n79)) (J67 true w65.drew) (∃ n80 : Int, w65.drew.cell? ⟨w.heap.size, 0, none⟩ = some (.int .i64 n80) ∧ ∃ n81 : Int, w65.drew.cell? ⟨w.heap.size, 1, none⟩ = some (.int .i64 n81) ∧ ∃ l82 : Sl, w65.drew.cell? ⟨w.heap.size, 2, none⟩ = some (.slice l82.a l82.len l82.cap) ∧ ∃ l83 : Sl, w65.drew.cell? ⟨w.heap.size, 3, none⟩ = some (.slice l83.a l83.len l83.cap) ∧ ∃ n84 : Int, w65.drew.cell? ⟨w52.heap.size, 0, none⟩ = some (.int .i64 n84) ∧ ∃ n85 : Int, w65.drew.cell? ⟨w52.heap.size, 1, none⟩ = some (.int .i64 n85) ∧ ∃ n86 : Int, w65.drew.cell? ⟨w52.heap.size, 2, none⟩ = some (.int .i64 n86) ∧ ∃ n87 : Int, w65.drew.cell? ⟨w52.heap.size, 3, none⟩ = some (.int .i64 n87) ∧ ∃ n88 : Int, w65.drew.cell? ⟨w52.heap.size, 4, none⟩ = some (.int .i64 n88) ∧ ∃ n89 : Int, w65.drew.cell? ⟨w52.heap.size, 5, none⟩ = some (.int .i64 n89) ∧ ∃ n90 : Int, w65.drew.cell? ⟨w52.heap.size, 6, none⟩ = some (.int .i64 n90) ∧ ∃ n91 : Int, w65.drew.cell? ⟨w52.heap.size, 7, none⟩ = some (.int .i64 n91) ∧ CallW Try.prog 109 #[.agg #[.int .i64 n80, .int .i64 n81, .slice l82.a l82.len l82.cap, .slice l83.a l83.len l83.cap], .agg #[.int .i64 n84, .int .i64 n85, .int .i64 n86, .int .i64 n87, .int .i64 n88, .int .i64 n89, .int .i64 n90, .int .i64 n91]] w65.drew fun v92 w93 => ∃ b94 : Bool, v92 = .bool b94 ∧ BIf (!b94) (J67 true w93) (∃ n95 : Int, w93.cell? ⟨w.heap.size, 0, none⟩ = some (.int .i64 n95) ∧ ∃ n96 : Int, w93.cell? ⟨w.heap.size, 1, none⟩ = some (.int .i64 n96) ∧ ∃ l97 : Sl, w93.cell? ⟨w.heap.size, 2, none⟩ = some (.slice l97.a l97.len l97.cap) ∧ ∃ l98 : Sl, w93.cell? ⟨w.heap.size, 3, none⟩ = some (.slice l98.a l98.len l98.cap) ∧ ∃ n99 : Int, w93.cell? ⟨w52.heap.size, 0, none⟩ = some (.int .i64 n99) ∧ ∃ n100 : Int, w93.cell? ⟨w52.heap.size, 0, none⟩ = some (.int .i64 n100) ∧ CallW Try.prog 110 #[.agg #[.int .i64 n95, .int .i64 n96, .slice l97.a l97.len l97.cap, .slice l98.a l98.len l98.cap], .int .i64 n99, .int .i64 n100] w93 fun v101 w102 => ∃ b103 : Bool, v101 = .bool b103 ∧ J67 b103 w102))) (∃ n104 : Int, w65.drew.cell? ⟨w.heap.size, 0, none⟩ = some (.int .i64 n104) ∧ ∃ n105 : Int, w65.drew.cell? ⟨w.heap.size, 1, none⟩ = some (.int .i64 n105) ∧ ∃ l106 : Sl, w65.drew.cell? ⟨w.heap.size, 2, none⟩ = some (.slice l106.a l106.len l106.cap) ∧ ∃ l107 : Sl, w65.drew.cell? ⟨w.heap.size, 3, none⟩ = some (.slice l107.a l107.len l107.cap) ∧ ∃ n108 : Int, w65.drew.cell? ⟨w52.heap.size, 0, none⟩ = some (.int .i64 n108) ∧ ∃ n109 : Int, w65.drew.cell? ⟨w52.heap.size, 1, none⟩ = some (.int .i64 n109) ∧ ∃ n110 : Int, w65.drew.cell? ⟨w52.heap.size, 2, none⟩ = some (.int .i64 n110) ∧ ∃ n111 : Int, w65.drew.cell? ⟨w52.heap.size, 3, none⟩ = some (.int .i64 n111) ∧ ∃ n112 : Int, w65.drew.cell? ⟨w52.heap.size, 4, none⟩ = some (.int .i64 n112) ∧ ∃ n113 : Int, w65.drew.cell? ⟨w52.heap.size, 5, none⟩ = some (.int .i64 n113) ∧ ∃ n114 : Int, w65.drew.cell? ⟨w52.heap.size, 6, none⟩ = some (.int .i64 n114) ∧ ∃ n115 : Int, w65.drew.cell? ⟨w52.heap.size, 7, none⟩ = some (.int .i64 n115) ∧ CallW Try.prog 109 #[.agg #[.int .i64 n104, .int .i64 n105, .slice l106.a l106.len l106.cap, .slice l107.a l107.len l107.cap], .agg #[.int .i64 n108, .int .i64 n109, .int .i64 n110, .int .i64 n111, .int .i64 n112, .int .i64 n113, .int .i64 n114, .int .i64 n115]] w65.drew fun v116 w117 => ∃ b118 : Bool, v116 = .bool b118 ∧ BIf (!b118) (J67 true w117) (∃ n119 : Int, w117.cell? ⟨w.heap.size, 0, none⟩ = some (.int .i64 n119) ∧ ∃ n120 : Int, w117.cell? ⟨w.heap.size, 1, none⟩ = some (.int .i64 n120) ∧ ∃ l121 : Sl, w117.cell? ⟨w.heap.size, 2, none⟩ = some (.slice l121.a l121.len l121.cap) ∧ ∃ l122 : Sl, w117.cell? ⟨w.heap.size, 3, none⟩ = some (.slice l122.a l122.len l122.cap) ∧ ∃ n123 : Int, w117.cell? ⟨w52.heap.size, 0, none⟩ = some (.int .i64 n123) ∧ ∃ n124 : Int, w117.cell? ⟨w52.heap.size, 0, none⟩ = some (.int .i64 n124) ∧ CallW Try.prog 110 #[.agg #[.int .i64 n119, .int .i64 n120, .slice l121.a l121.len l121.cap, .slice l122.a l122.len l122.cap], .int .i64 n123, .int .i64 n124] w117 fun v125 w126 => ∃ b127 : Bool, v125 = .bool b127 ∧ J67 b127 w126))) (fun (b66 : Bool) w68 => BIf b66 (K (.bool false) w68) (LoopW [.int .i64] (fun J70 => fun (n69 : Int) w71 => BIf (decide ((n69 : Int) < n50)) (∃ l72 : Sl, w71.drew.cell? ⟨w.heap.size, 2, none⟩ = some (.slice l72.a l72.len l72.cap) ∧ 0 ≤ (n69 : Int) ∧ (n69 : Int) < ((l72.len : Nat) : Int) ∧ ∃ q73 : Addr, (l72.a : Option Addr) = some q73 ∧ ∃ n74 : Int, w71.drew.cell? ((q73.add (Int.toNat n69 * 8)).add 3) = some (.int .i64 n74) ∧ ∃ n75 : Int, w71.drew.cell? ⟨w52.heap.size, 3, none⟩ = some (.int .i64 n75) ∧ BIf ((n74 : Int) == n75) (K (.bool false) w71.drew) (J70 (IntKind.wrap .i64 (n69 + 1)) w71.drew)) (J51 (IntKind.wrap .i64 (n50 + 1)) w71)) ((0 : Int), ()) w68))) (K (.bool true) w52)) ((0 : Int), ()) w17)) ((0 : Int), ()) w14))))
theorem eq48 (a0_0 : Int) (a0_1 : Int) (a0_2 : Sl) (a0_3 : Sl) (w : World) (K : Value → World → Prop) : denFn Try.prog tt Try.f48 an48 [.agg #[.int .i64 a0_0, .int .i64 a0_1, .slice a0_2.a a0_2.len a0_2.cap, .slice a0_3.a a0_3.len a0_3.cap]] w K = W48 a0_0 a0_1 a0_2 a0_3 w K := by kernel_rfl
theorem ok48 : OkFn Try.prog 48 := ⟨Try.f48, Try.func48, by kernel_rfl, by kernel_rfl⟩
theorem go48 {a0_0 : Int} {a0_1 : Int} {a0_2 : Sl} {a0_3 : Sl} {w : World} {K : Value → World → Prop} (h : W48 a0_0 a0_1 a0_2 a0_3 w K) : CallW Try.prog 48 #[.agg #[.int .i64 a0_0, .int .i64 a0_1, .slice a0_2.a a0_2.len a0_2.cap, .slice a0_3.a a0_3.len a0_3.cap]] w K :=
  .inl ⟨ok48, denFn_sound tt_ok mix Try.func48 (by kernel_rfl) (eq48 a0_0 a0_1 a0_2 a0_3 w K ▸ h)⟩

/- loop.example/g00008/spec.l11Pick -/
def an49 : Ann := (.seq .leaf (.seq .leaf (.seq .leaf (.seq (.seq .leaf (.in_ (.loop 2 [(3, .int .i64), (4, .int .i64), (5, .int .i64)] (.seq (.seq .leaf (.cond .leaf .leaf)) (.seq (.in_ (.seq .leaf (.seq (.seq .leaf (.cond .leaf .leaf)) (.seq .leaf (.join 186 [(45, .bool)] (.draw [0, 0, 3, 7, 15, 15, 63, 127, 255, 511, 255, 1279, 255, 7423, 15615, 31999, 65535, 131071, 262143] [0, 1, 2, 3, 4, 5, 6, 7, 8, 9, 10, 11, 12, 13, 14, 15, 16, 17, 18]) (.cond (.seq .leaf .leaf) .leaf)))))) .leaf))))) (.seq (.seq .leaf (.cond (.seq .leaf .leaf) .leaf)) (.seq .leaf .leaf))))))
def W49 (a0_0 : Int) (a0_1 : Int) (a0_2 : Sl) (a0_3 : Sl) (w : World) (K : Value → World → Prop) : Prop :=
  LetW (w.alloc (.cells #[.int .i64 a0_0, .int .i64 a0_1, .slice a0_2.a a0_2.len a0_2.cap, .slice a0_3.a a0_3.len a0_3.cap] 31)) fun w1 => LoopW [.int .i64, .int .i64, .int .i64] (fun J5 => fun (n2 : Int) (n3 : Int) (n4 : Int) w6 => ∃ l7 : Sl, w6.cell? ⟨w.heap.size, 2, none⟩ = some (.slice l7.a l7.len l7.cap) ∧ BIf (decide ((n4 : Int) < ((l7.len : Nat) : Int))) (∃ l8 : Sl, w6.cell? ⟨w.heap.size, 2, none⟩ = some (.slice l8.a l8.len l8.cap) ∧ 0 ≤ (n4 : Int) ∧ (n4 : Int) < ((l8.len : Nat) : Int) ∧ ∃ q9 : Addr, (l8.a : Option Addr) = some q9 ∧ ∃ n10 : Int, w6.cell? ((q9.add (Int.toNat n4 * 8)).add 0) = some (.int .i64 n10) ∧ ∃ n11 : Int, w6.cell? ((q9.add (Int.toNat n4 * 8)).add 1) = some (.int .i64 n11) ∧ ∃ n12 : Int, w6.cell? ((q9.add (Int.toNat n4 * 8)).add 2) = some (.int .i64 n12) ∧ ∃ n13 : Int, w6.cell? ((q9.add (Int.toNat n4 * 8)).add 3) = some (.int .i64 n13) ∧ ∃ n14 : Int, w6.cell? ((q9.add (Int.toNat n4 * 8)).add 4) = some (.int .i64 n14) ∧ ∃ n15 : Int, w6.cell? ((q9.add (Int.toNat n4 * 8)).add 5) = some (.int .i64 n15) ∧ ∃ n16 : Int, w6.cell? ((q9.add (Int.toNat n4 * 8)).add 6) = some (.int .i64 n16) ∧ ∃ n17 : Int, w6.cell? ((q9.add (Int.toNat n4 * 8)).add 7) = some (.int .i64 n17) ∧ LetW (w6.alloc (.cells #[.int .i64 0, .int .i64 0, .int .i64 0, .int .i64 0, .int .i64 0, .int .i64 0, .int .i64 0, .int .i64 0] 86)) fun w18 => MayN w18 ⟨w6.heap.size, 0, none⟩ 8 ∧ LetW (puts w18 ⟨w6.heap.size, 0, none⟩ 0 [.int .i64 n10, .int .i64 n11, .int .i64 n12, .int .i64 n13, .int .i64 n14, .int .i64 n15, .int .i64 n16, .int .i64 n17]) fun w19 => ∃ n20 : Int, w19.cell? ⟨w6.heap.size, 2, none⟩ = some (.int .i64 n20) ∧ BIf ((n20 : Int) != 1) (J5 n2 n3 (IntKind.wrap .i64 (n4 + 1)) w19) (∃ n21 : Int, w19.cell? ⟨w.heap.size, 0, none⟩ = some (.int .i64 n21) ∧ ∃ n22 : Int, w19.cell? ⟨w.heap.size, 1, none⟩ = some (.int .i64 n22) ∧ ∃ l23 : Sl, w19.cell? ⟨w.heap.size, 2, none⟩ = some (.slice l23.a l23.len l23.cap) ∧ ∃ l24 : Sl, w19.cell? ⟨w.heap.size, 3, none⟩ = some (.slice l24.a l24.len l24.cap) ∧ ∃ n25 : Int, w19.cell? ⟨w6.heap.size, 0, none⟩ = some (.int .i64 n25) ∧ CallW Try.prog 111 #[.agg #[.int .i64 n21, .int .i64 n22, .slice l23.a l23.len l23.cap, .slice l24.a l24.len l24.cap], .int .i64 n25] w19 fun v26 w27 => ∃ n28 : Int, v26 = .int .i64 n28 ∧ JoinW [.bool] (fun J30 => BIf (decide ((n28 : Int) > n3)) (J30 true w27.drew) (BIf ((n28 : Int) == n3) (∃ n32 : Int, w27.drew.cell? ⟨w6.heap.size, 3, none⟩ = some (.int .i64 n32) ∧ ∃ l33 : Sl, w27.drew.cell? ⟨w.heap.size, 2, none⟩ = some (.slice l33.a l33.len l33.cap) ∧ 0 ≤ (n2 : Int) ∧ (n2 : Int) < ((l33.len : Nat) : Int) ∧ ∃ q34 : Addr, (l33.a : Option Addr) = some q34 ∧ ∃ n35 : Int, w27.drew.cell? ((q34.add (Int.toNat n2 * 8)).add 3) = some (.int .i64 n35) ∧ J30 (decide ((n32 : Int) < n35)) w27.drew) (J30 false w27.drew))) (fun (b29 : Bool) w31 => BIf b29 (J5 n4 n28 (IntKind.wrap .i64 (n4 + 1)) w31) (J5 n2 n3 (IntKind.wrap .i64 (n4 + 1)) w31)))) (BIf (decide ((n2 : Int) < 0)) (K (.int .i64 (-1)) w6) (∃ l36 : Sl, w6.cell? ⟨w.heap.size, 2, none⟩ = some (.slice l36.a l36.len l36.cap) ∧ 0 ≤ (n2 : Int) ∧ (n2 : Int) < ((l36.len : Nat) : Int) ∧ ∃ q37 : Addr, (l36.a : Option Addr) = some q37 ∧ ∃ n38 : Int, w6.cell? ((q37.add (Int.toNat n2 * 8)).add 0) = some (.int .i64 n38) ∧ K (.int .i64 n38) w6))) (((-1) : Int), (((-1) : Int), ((0 : Int), ()))) w1
theorem eq49 (a0_0 : Int) (a0_1 : Int) (a0_2 : Sl) (a0_3 : Sl) (w : World) (K : Value → World → Prop) : denFn Try.prog tt Try.f49 an49 [.agg #[.int .i64 a0_0, .int .i64 a0_1, .slice a0_2.a a0_2.len a0_2.cap, .slice a0_3.a a0_3.len a0_3.cap]] w K = W49 a0_0 a0_1 a0_2 a0_3 w K := by kernel_rfl
theorem ok49 : OkFn Try.prog 49 := ⟨Try.f49, Try.func49, by kernel_rfl, by kernel_rfl⟩
theorem go49 {a0_0 : Int} {a0_1 : Int} {a0_2 : Sl} {a0_3 : Sl} {w : World} {K : Value → World → Prop} (h : W49 a0_0 a0_1 a0_2 a0_3 w K) : CallW Try.prog 49 #[.agg #[.int .i64 a0_0, .int .i64 a0_1, .slice a0_2.a a0_2.len a0_2.cap, .slice a0_3.a a0_3.len a0_3.cap]] w K :=
  .inl ⟨ok49, denFn_sound tt_ok mix Try.func49 (by kernel_rfl) (eq49 a0_0 a0_1 a0_2 a0_3 w K ▸ h)⟩

/- loop.example/g00008/laws.toThreadS -/
def an50 : Ann := (.seq .leaf (.seq .leaf (.seq (.seq .leaf (.in_ (.loop 9 [(4, .int .i64)] (.seq (.seq .leaf (.cond .leaf .leaf)) (.seq (.in_ .leaf) .leaf))))) (.seq .leaf .leaf))))
def W50 (a0 : Sl) (w : World) (K : Value → World → Prop) : Prop :=
  0 ≤ ((a0.len : Nat) : Int) ∧ ((a0.len : Nat) : Int) ≤ ((a0.len : Nat) : Int) ∧ ((a0.len : Nat) : Int) * 64 ≤ (140737488355328 : Int) ∧ 0 < 64 ∧ LetW (w.alloc (.cells ⟨zerosOf ti86.zero (Int.toNat ((a0.len : Nat) : Int))⟩ 86)) fun w1 => LoopW [.int .i64] (fun J3 => fun (n2 : Int) w4 => BIf (decide ((n2 : Int) < ((a0.len : Nat) : Int))) (0 ≤ (n2 : Int) ∧ (n2 : Int) < ((a0.len : Nat) : Int) ∧ ∃ q5 : Addr, (a0.a : Option Addr) = some q5 ∧ ∃ n6 : Int, w4.cell? ((q5.add (Int.toNat n2 * 8)).add 0) = some (.int .i64 n6) ∧ ∃ n7 : Int, w4.cell? ((q5.add (Int.toNat n2 * 8)).add 1) = some (.int .i64 n7) ∧ ∃ n8 : Int, w4.cell? ((q5.add (Int.toNat n2 * 8)).add 2) = some (.int .i64 n8) ∧ ∃ n9 : Int, w4.cell? ((q5.add (Int.toNat n2 * 8)).add 3) = some (.int .i64 n9) ∧ ∃ n10 : Int, w4.cell? ((q5.add (Int.toNat n2 * 8)).add 4) = some (.int .i64 n10) ∧ ∃ n11 : Int, w4.cell? ((q5.add (Int.toNat n2 * 8)).add 5) = some (.int .i64 n11) ∧ ∃ n12 : Int, w4.cell? ((q5.add (Int.toNat n2 * 8)).add 6) = some (.int .i64 n12) ∧ ∃ n13 : Int, w4.cell? ((q5.add (Int.toNat n2 * 8)).add 7) = some (.int .i64 n13) ∧ CallW Try.prog 112 #[.agg #[.int .i64 n6, .int .i64 n7, .int .i64 n8, .int .i64 n9, .int .i64 n10, .int .i64 n11, .int .i64 n12, .int .i64 n13]] w4 fun v14 w15 => ∃ n16 : Int, ∃ n17 : Int, ∃ n18 : Int, ∃ n19 : Int, ∃ n20 : Int, ∃ n21 : Int, ∃ n22 : Int, ∃ n23 : Int, v14 = .agg #[.int .i64 n16, .int .i64 n17, .int .i64 n18, .int .i64 n19, .int .i64 n20, .int .i64 n21, .int .i64 n22, .int .i64 n23] ∧ 0 ≤ (n2 : Int) ∧ (n2 : Int) < ((Int.toNat ((a0.len : Nat) : Int) : Nat) : Int) ∧ ∃ q24 : Addr, (some ⟨w.heap.size, 0, none⟩ : Option Addr) = some q24 ∧ MayN w15 (q24.add (Int.toNat n2 * 8)) 8 ∧ LetW (puts w15 (q24.add (Int.toNat n2 * 8)) 0 [.int .i64 n16, .int .i64 n17, .int .i64 n18, .int .i64 n19, .int .i64 n20, .int .i64 n21, .int .i64 n22, .int .i64 n23]) fun w25 => J3 (IntKind.wrap .i64 (n2 + 1)) w25) (K (.slice (some ⟨w.heap.size, 0, none⟩) (Int.toNat ((a0.len : Nat) : Int)) (Int.toNat ((a0.len : Nat) : Int))) w4)) ((0 : Int), ()) w1
theorem eq50 (a0 : Sl) (w : World) (K : Value → World → Prop) : denFn Try.prog tt Try.f50 an50 [.slice a0.a a0.len a0.cap] w K = W50 a0 w K := by kernel_rfl
theorem ok50 : OkFn Try.prog 50 := ⟨Try.f50, Try.func50, by kernel_rfl, by kernel_rfl⟩
theorem go50 {a0 : Sl} {w : World} {K : Value → World → Prop} (h : W50 a0 w K) : CallW Try.prog 50 #[.slice a0.a a0.len a0.cap] w K :=
  .inl ⟨ok50, denFn_sound tt_ok mix Try.func50 (by kernel_rfl) (eq50 a0 w K ▸ h)⟩

/- loop.example/g00008/laws.toLockS -/
def an51 : Ann := (.seq .leaf (.seq .leaf (.seq (.seq .leaf (.in_ (.loop 9 [(4, .int .i64)] (.seq (.seq .leaf (.cond .leaf .leaf)) (.seq (.in_ .leaf) .leaf))))) (.seq .leaf .leaf))))
def W51 (a0 : Sl) (w : World) (K : Value → World → Prop) : Prop :=
  0 ≤ ((a0.len : Nat) : Int) ∧ ((a0.len : Nat) : Int) ≤ ((a0.len : Nat) : Int) ∧ ((a0.len : Nat) : Int) * 16 ≤ (140737488355328 : Int) ∧ 0 < 16 ∧ LetW (w.alloc (.cells ⟨zerosOf ti149.zero (Int.toNat ((a0.len : Nat) : Int))⟩ 149)) fun w1 => LoopW [.int .i64] (fun J3 => fun (n2 : Int) w4 => BIf (decide ((n2 : Int) < ((a0.len : Nat) : Int))) (0 ≤ (n2 : Int) ∧ (n2 : Int) < ((a0.len : Nat) : Int) ∧ ∃ q5 : Addr, (a0.a : Option Addr) = some q5 ∧ ∃ n6 : Int, w4.cell? ((q5.add (Int.toNat n2 * 2)).add 0) = some (.int .i64 n6) ∧ ∃ n7 : Int, w4.cell? ((q5.add (Int.toNat n2 * 2)).add 1) = some (.int .i64 n7) ∧ CallW Try.prog 113 #[.agg #[.int .i64 n6, .int .i64 n7]] w4 fun v8 w9 => ∃ n10 : Int, ∃ n11 : Int, v8 = .agg #[.int .i64 n10, .int .i64 n11] ∧ 0 ≤ (n2 : Int) ∧ (n2 : Int) < ((Int.toNat ((a0.len : Nat) : Int) : Nat) : Int) ∧ ∃ q12 : Addr, (some ⟨w.heap.size, 0, none⟩ : Option Addr) = some q12 ∧ MayN w9 (q12.add (Int.toNat n2 * 2)) 2 ∧ LetW (puts w9 (q12.add (Int.toNat n2 * 2)) 0 [.int .i64 n10, .int .i64 n11]) fun w13 => J3 (IntKind.wrap .i64 (n2 + 1)) w13) (K (.slice (some ⟨w.heap.size, 0, none⟩) (Int.toNat ((a0.len : Nat) : Int)) (Int.toNat ((a0.len : Nat) : Int))) w4)) ((0 : Int), ()) w1
theorem eq51 (a0 : Sl) (w : World) (K : Value → World → Prop) : denFn Try.prog tt Try.f51 an51 [.slice a0.a a0.len a0.cap] w K = W51 a0 w K := by kernel_rfl
theorem ok51 : OkFn Try.prog 51 := ⟨Try.f51, Try.func51, by kernel_rfl, by kernel_rfl⟩
theorem go51 {a0 : Sl} {w : World} {K : Value → World → Prop} (h : W51 a0 w K) : CallW Try.prog 51 #[.slice a0.a a0.len a0.cap] w K :=
  .inl ⟨ok51, denFn_sound tt_ok mix Try.func51 (by kernel_rfl) (eq51 a0 w K ▸ h)⟩

/- loop.example/g00008/impl.SchedOk -/
def an52 : Ann := (.seq .leaf (.seq (.seq (.reg [(4, none), (4, some (2, [(18, .bool)])), (1, none), (4, some (2, [(23, .bool)])), (1, none), (4, some (2, [(28, .bool)])), (1, none), (5, some (2, [(34, .bool)])), (1, none), (5, some (2, [(40, .bool)]))]) (.cond (.seq .leaf .leaf) .leaf)) (.seq .leaf (.seq .leaf (.seq (.seq .leaf (.in_ (.loop 26388279066634 [(4, .int .i64), (45, .int .i64)] (.seq .leaf (.seq (.cond .leaf .leaf) (.seq (.in_ (.seq .leaf (.seq (.seq (.reg [(5, none), (4, some (61572651155530, [(57, .bool)])), (1, none), (4, some (61572651155530, [(62, .bool)])), (1, none), (4, some (61572651155530, [(67, .bool)])), (1, none), (4, some (61572651155530, [(72, .bool)])), (1, none), (6, some (61572651155530, [(79, .bool)])), (1, none), (5, some (61572651155530, [(85, .bool)])), (1, none), (4, some (61572651155530, [(90, .bool)])), (1, none), (4, some (61572651155530, [(95, .bool)])), (1, none), (4, some (61572651155530, [(100, .bool)])), (1, none), (6, some (61572651155530, [(107, .bool)]))]) (.cond (.seq .leaf .leaf) .leaf)) (.seq .leaf (.seq .leaf (.seq .leaf (.in_ (.seq .leaf (.cond (.seq (.reg [(4, none), (4, some (61572651155482, [(124, .bool)]))]) (.cond (.seq .leaf .leaf) .leaf)) (.seq .leaf (.cond (.seq (.reg [(4, none), (5, some (61572651155482, [(135, .bool)]))]) (.cond (.seq .leaf .leaf) .leaf)) (.seq .leaf (.cond (.seq (.reg [(4, none), (4, some (61572651155482, [(145, .bool)]))]) (.cond (.seq .leaf .leaf) .leaf)) (.seq .leaf .leaf)))))))))))))) .leaf)))))) (.seq .leaf (.seq (.seq .leaf (.in_ (.loop 1070435769529469910793714477087121352287059970 [(4, .int .i64), (150, .int .i64)] (.seq .leaf (.seq (.cond .leaf .leaf) (.seq (.in_ (.seq .leaf (.seq (.seq (.reg [(5, none), (4, some (2497683462235429791852000446536616488669806850, [(162, .bool)])), (1, none), (5, some (2497683462235429791852000446536616488669806850, [(168, .bool)]))]) (.cond (.seq .leaf .leaf) .leaf)) .leaf))) .leaf)))))) (.seq (.seq .leaf (.in_ (.loop 35917864239044270117773758448835371491064198176178178 [(175, .int .i64)] (.seq .leaf (.seq (.cond .leaf .leaf) (.seq (.in_ (.seq .leaf (.seq .leaf (.cond (.seq .leaf .leaf) .leaf)))) .leaf)))))) (.seq .leaf .leaf)))))))))
def W52 (a0_0 : Int) (a0_1 : Int) (a0_2 : Sl) (a0_3 : Sl) (w : World) (K : Value → World → Prop) : Prop :=
  LetW (w.alloc (.cells #[.int .i64 a0_0, .int .i64 a0_1, .slice a0_2.a a0_2.len a0_2.cap, .slice a0_3.a a0_3.len a0_3.cap] 31)) fun w1 => ∃ n2 : Int, w1.cell? ⟨w.heap.size, 0, none⟩ = some (.int .i64 n2) ∧ JoinW [.bool] (fun J4 => BIf (decide ((n2 : Int) < 0)) (J4 true w1) (∃ n149 : Int, w1.cell? ⟨w.heap.size, 0, none⟩ = some (.int .i64 n149) ∧ J4 (decide ((n149 : Int) > 1099511627776)) w1)) (fun (b3 : Bool) w5 => JoinW [.bool] (fun J7 => BIf b3 (J7 true w5) (∃ n148 : Int, w5.cell? ⟨w.heap.size, 1, none⟩ = some (.int .i64 n148) ∧ J7 (decide ((n148 : Int) < 0)) w5)) (fun (b6 : Bool) w8 => JoinW [.bool] (fun J10 => BIf b6 (J10 true w8) (∃ n147 : Int, w8.cell? ⟨w.heap.size, 1, none⟩ = some (.int .i64 n147) ∧ J10 (decide ((n147 : Int) > 1099511627776)) w8)) (fun (b9 : Bool) w11 => JoinW [.bool] (fun J13 => BIf b9 (J13 true w11) (∃ l146 : Sl, w11.cell? ⟨w.heap.size, 2, none⟩ = some (.slice l146.a l146.len l146.cap) ∧ J13 (decide ((((l146.len : Nat) : Int) : Int) > 32)) w11)) (fun (b12 : Bool) w14 => JoinW [.bool] (fun J16 => BIf b12 (J16 true w14) (∃ l145 : Sl, w14.cell? ⟨w.heap.size, 3, none⟩ = some (.slice l145.a l145.len l145.cap) ∧ J16 (decide ((((l145.len : Nat) : Int) : Int) > 16)) w14)) (fun (b15 : Bool) w17 => BIf b15 (K (.bool false) w17) (LetW (w17.alloc (.map #[] 0)) fun w18 => ∃ l19 : Sl, w18.cell? ⟨w.heap.size, 2, none⟩ = some (.slice l19.a l19.len l19.cap) ∧ LoopW [.int .i64, .int .i64] (fun J22 => fun (n20 : Int) (n21 : Int) w23 => BIf (decide ((n21 : Int) < ((l19.len : Nat) : Int))) (0 ≤ (n21 : Int) ∧ (n21 : Int) < ((l19.len : Nat) : Int) ∧ ∃ q24 : Addr, (l19.a : Option Addr) = some q24 ∧ ∃ n25 : Int, w23.cell? ((q24.add (Int.toNat n21 * 8)).add 0) = some (.int .i64 n25) ∧ ∃ n26 : Int, w23.cell? ((q24.add (Int.toNat n21 * 8)).add 1) = some (.int .i64 n26) ∧ ∃ n27 : Int, w23.cell? ((q24.add (Int.toNat n21 * 8)).add 2) = some (.int .i64 n27) ∧ ∃ n28 : Int, w23.cell? ((q24.add (Int.toNat n21 * 8)).add 3) = some (.int .i64 n28) ∧ ∃ n29 : Int, w23.cell? ((q24.add (Int.toNat n21 * 8)).add 4) = some (.int .i64 n29) ∧ ∃ n30 : Int, w23.cell? ((q24.add (Int.toNat n21 * 8)).add 5) = some (.int .i64 n30) ∧ ∃ n31 : Int, w23.cell? ((q24.add (Int.toNat n21 * 8)).add 6) = some (.int .i64 n31) ∧ ∃ n32 : Int, w23.cell? ((q24.add (Int.toNat n21 * 8)).add 7) = some (.int .i64 n32) ∧ LetW (w23.alloc (.cells #[.int .i64 0, .int .i64 0, .int .i64 0, .int .i64 0, .int .i64 0, .int .i64 0, .int .i64 0, .int .i64 0] 86)) fun w33 => MayN w33 ⟨w23.heap.size, 0, none⟩ 8 ∧ LetW (puts w33 ⟨w23.heap.size, 0, none⟩ 0 [.int .i64 n25, .int .i64 n26, .int .i64 n27, .int .i64 n28, .int .i64 n29, .int .i64 n30, .int .i64 n31, .int .i64 n32]) fun w34 => ∃ n35 : Int, w34.cell? ⟨w23.heap.size, 0, none⟩ = some (.int .i64 n35) ∧ JoinW [.bool] (fun J37 => BIf (decide ((n35 : Int) ≤ n20)) (J37 true w34) (∃ n101 : Int, w34.cell? ⟨w23.heap.size, 0, none⟩ = some (.int .i64 n101) ∧ J37 (decide ((n101 : Int) ≥ 32)) w34)) (fun (b36 : Bool) w38 => JoinW [.bool] (fun J40 => BIf b36 (J40 true w38) (∃ n100 : Int, w38.cell? ⟨w23.heap.size, 1, none⟩ = some (.int .i64 n100) ∧ J40 (decide ((n100 : Int) < 0)) w38)) (fun (b39 : Bool) w41 => JoinW [.bool] (fun J43 => BIf b39 (J43 true w41) (∃ n99 : Int, w41.cell? ⟨w23.heap.size, 1, none⟩ = some (.int .i64 n99) ∧ J43 (decide ((n99 : Int) > 7)) w41)) (fun (b42 : Bool) w44 => JoinW [.bool] (fun J46 => BIf b42 (J46 true w44) (∃ n98 : Int, w44.cell? ⟨w23.heap.size, 3, none⟩ = some (.int .i64 n98) ∧ J46 (decide ((n98 : Int) < 1)) w44)) (fun (b45 : Bool) w47 => JoinW [.bool] (fun J49 => BIf b45 (J49 true w47) (∃ n96 : Int, w47.cell? ⟨w23.heap.size, 3, none⟩ = some (.int .i64 n96) ∧ ∃ n97 : Int, w47.cell? ⟨w.heap.size, 1, none⟩ = some (.int .i64 n97) ∧ J49 (decide ((n96 : Int) > n97)) w47)) (fun (b48 : Bool) w50 => JoinW [.bool] (fun J52 => BIf b48 (J52 true w50) (∃ n93 : Int, w50.cell? ⟨w23.heap.size, 3, none⟩ = some (.int .i64 n93) ∧ MapGetW w50 (some w17.heap.size) (.int .i64 n93) fun o94 => ∃ b95 : Bool, valOr o94 (.bool false) = (.bool b95 : Value) ∧ J52 b95 w50)) (fun (b51 : Bool) w53 => JoinW [.bool] (fun J55 => BIf b51 (J55 true w53) (∃ n92 : Int, w53.cell? ⟨w23.heap.size, 4, none⟩ = some (.int .i64 n92) ∧ J55 (decide ((n92 : Int) < 1)) w53)) (fun (b54 : Bool) w56 => JoinW [.bool] (fun J58 => BIf b54 (J58 true w56) (∃ n91 : Int, w56.cell? ⟨w23.heap.size, 4, none⟩ = some (.int .i64 n91) ∧ J58 (decide ((n91 : Int) > 4)) w56)) (fun (b57 : Bool) w59 => JoinW [.bool] (fun J61 => BIf b57 (J61 true w59) (∃ n90 : Int, w59.cell? ⟨w23.heap.size, 5, none⟩ = some (.int .i64 n90) ∧ J61 (decide ((n90 : Int) < 0)) w59)) (fun (b60 : Bool) w62 => JoinW [.bool] (fun J64 => BIf b60 (J64 true w62) (∃ n88 : Int, w62.cell? ⟨w23.heap.size, 5, none⟩ = some (.int .i64 n88) ∧ ∃ n89 : Int, w62.cell? ⟨w.heap.size, 0, none⟩ = some (.int .i64 n89) ∧ J64 (decide ((n88 : Int) > n89)) w62)) (fun (b63 : Bool) w65 => BIf b63 (K (.bool false) w65) (∃ n66 : Int, w65.cell? ⟨w23.heap.size, 0, none⟩ = some (.int .i64 n66) ∧ ∃ n67 : Int, w65.cell? ⟨w23.heap.size, 3, none⟩ = some (.int .i64 n67) ∧ MapPutW w65 (some w17.heap.size) (.int .i64 n67) (.bool true) fun w68 => ∃ n69 : Int, w68.cell? ⟨w23.heap.size, 2, none⟩ = some (.int .i64 n69) ∧ BIf ((n69 : Int) == 1) (∃ n70 : Int, w68.cell? ⟨w23.heap.size, 7, none⟩ = some (.int .i64 n70) ∧ JoinW [.bool] (fun J72 => BIf ((n70 : Int) != (-1)) (J72 true w68) (∃ n74 : Int, w68.cell? ⟨w23.heap.size, 6, none⟩ = some (.int .i64 n74) ∧ J72 ((n74 : Int) != 0) w68)) (fun (b71 : Bool) w73 => BIf b71 (K (.bool false) w73) (J22 n66 (IntKind.wrap .i64 (n21 + 1)) w73))) (BIf ((n69 : Int) == 2) (∃ n75 : Int, w68.cell? ⟨w23.heap.size, 6, none⟩ = some (.int .i64 n75) ∧ JoinW [.bool] (fun J77 => BIf ((n75 : Int) != 0) (J77 true w68) (∃ n79 : Int, w68.cell? ⟨w23.heap.size, 7, none⟩ = some (.int .i64 n79) ∧ CallW Try.prog 114 #[.pointer (some ⟨w.heap.size, 0, none⟩), .int .i64 n79] w68 fun v80 w81 => ∃ p82 : Option Addr, v80 = .pointer p82 ∧ J77 (Option.isNone p82) w81)) (fun (b76 : Bool) w78 => BIf b76 (K (.bool false) w78) (J22 n66 (IntKind.wrap .i64 (n21 + 1)) w78))) (BIf ((n69 : Int) == 3) (∃ n83 : Int, w68.cell? ⟨w23.heap.size, 7, none⟩ = some (.int .i64 n83) ∧ JoinW [.bool] (fun J85 => BIf ((n83 : Int) != (-1)) (J85 true w68) (∃ n87 : Int, w68.cell? ⟨w23.heap.size, 6, none⟩ = some (.int .i64 n87) ∧ J85 (decide ((n87 : Int) ≤ 0)) w68)) (fun (b84 : Bool) w86 => BIf b84 (K (.bool false) w86) (J22 n66 (IntKind.wrap .i64 (n21 + 1)) w86))) (K (.bool false) w68))))))))))))))) (∃ l102 : Sl, w23.cell? ⟨w.heap.size, 3, none⟩ = some (.slice l102.a l102.len l102.cap) ∧ LoopW [.int .i64, .int .i64] (fun J105 => fun (n103 : Int) (n104 : Int) w106 => BIf (decide ((n104 : Int) < ((l102.len : Nat) : Int))) (0 ≤ (n104 : Int) ∧ (n104 : Int) < ((l102.len : Nat) : Int) ∧ ∃ q107 : Addr, (l102.a : Option Addr) = some q107 ∧ ∃ n108 : Int, w106.cell? ((q107.add (Int.toNat n104 * 2)).add 0) = some (.int .i64 n108) ∧ ∃ n109 : Int, w106.cell? ((q107.add (Int.toNat n104 * 2)).add 1) = some (.int .i64 n109) ∧ LetW (w106.alloc (.cells #[.int .i64 0, .int .i64 0] 149)) fun w110 => MayN w110 ⟨w106.heap.size, 0, none⟩ 2 ∧ LetW (puts w110 ⟨w106.heap.size, 0, none⟩ 0 [.int .i64 n108, .int .i64 n109]) fun w111 => ∃ n112 : Int, w111.cell? ⟨w106.heap.size, 0, none⟩ = some (.int .i64 n112) ∧ JoinW [.bool] (fun J114 => BIf (decide ((n112 : Int) ≤ n103)) (J114 true w111) (∃ n124 : Int, w111.cell? ⟨w106.heap.size, 0, none⟩ = some (.int .i64 n124) ∧ J114 (decide ((n124 : Int) ≥ 16)) w111)) (fun (b113 : Bool) w115 => JoinW [.bool] (fun J117 => BIf b113 (J117 true w115) (∃ n120 : Int, w115.cell? ⟨w106.heap.size, 1, none⟩ = some (.int .i64 n120) ∧ CallW Try.prog 115 #[.pointer (some ⟨w.heap.size, 0, none⟩), .int .i64 n120] w115 fun v121 w122 => ∃ p123 : Option Addr, v121 = .pointer p123 ∧ J117 (Option.isNone p123) w122)) (fun (b116 : Bool) w118 => BIf b116 (K (.bool false) w118) (∃ n119 : Int, w118.cell? ⟨w106.heap.size, 0, none⟩ = some (.int .i64 n119) ∧ J105 n119 (IntKind.wrap .i64 (n104 + 1)) w118)))) (∃ l125 : Sl, w106.cell? ⟨w.heap.size, 2, none⟩ = some (.slice l125.a l125.len l125.cap) ∧ LoopW [.int .i64] (fun J127 => fun (n126 : Int) w128 => BIf (decide ((n126 : Int) < ((l125.len : Nat) : Int))) (0 ≤ (n126 : Int) ∧ (n126 : Int) < ((l125.len : Nat) : Int) ∧ ∃ q129 : Addr, (l125.a : Option Addr) = some q129 ∧ ∃ n130 : Int, w128.cell? ((q129.add (Int.toNat n126 * 8)).add 0) = some (.int .i64 n130) ∧ ∃ n131 : Int, w128.cell? ((q129.add (Int.toNat n126 * 8)).add 1) = some (.int .i64 n131) ∧ ∃ n132 : Int, w128.cell? ((q129.add (Int.toNat n126 * 8)).add 2) = some (.int .i64 n132) ∧ ∃ n133 : Int, w128.cell? ((q129.add (Int.toNat n126 * 8)).add 3) = some (.int .i64 n133) ∧ ∃ n134 : Int, w128.cell? ((q129.add (Int.toNat n126 * 8)).add 4) = some (.int .i64 n134) ∧ ∃ n135 : Int, w128.cell? ((q129.add (Int.toNat n126 * 8)).add 5) = some (.int .i64 n135) ∧ ∃ n136 : Int, w128.cell? ((q129.add (Int.toNat n126 * 8)).add 6) = some (.int .i64 n136) ∧ ∃ n137 : Int, w128.cell? ((q129.add (Int.toNat n126 * 8)).add 7) = some (.int .i64 n137) ∧ LetW (w128.alloc (.cells #[.int .i64 0, .int .i64 0, .int .i64 0, .int .i64 0, .int .i64 0, .int .i64 0, .int .i64 0, .int .i64 0] 86)) fun w138 => MayN w138 ⟨w128.heap.size, 0, none⟩ 8 ∧ LetW (puts w138 ⟨w128.heap.size, 0, none⟩ 0 [.int .i64 n130, .int .i64 n131, .int .i64 n132, .int .i64 n133, .int .i64 n134, .int .i64 n135, .int .i64 n136, .int .i64 n137]) fun w139 => ∃ n140 : Int, w139.cell? ⟨w128.heap.size, 0, none⟩ = some (.int .i64 n140) ∧ ∃ n141 : Int, w139.cell? ⟨w128.heap.size, 0, none⟩ = some (.int .i64 n141) ∧ CallW Try.prog 116 #[.pointer (some ⟨w.heap.size, 0, none⟩), .int .i64 n140, .int .i64 n141] w139 fun v142 w143 => ∃ b144 : Bool, v142 = .bool b144 ∧ BIf b144 (K (.bool false) w143) (J127 (IntKind.wrap .i64 (n126 + 1)) w143)) (K (.bool true) w128)) ((0 : Int), ()) w106)) (((-1) : Int), ((0 : Int), ())) w23)) (((-1) : Int), ((0 : Int), ())) w18))))))
theorem eq52 (a0_0 : Int) (a0_1 : Int) (a0_2 : Sl) (a0_3 : Sl) (w : World) (K : Value → World → Prop) : denFn Try.prog tt Try.f52 an52 [.agg #[.int .i64 a0_0, .int .i64 a0_1, .slice a0_2.a a0_2.len a0_2.cap, .slice a0_3.a a0_3.len a0_3.cap]] w K = W52 a0_0 a0_1 a0_2 a0_3 w K := by kernel_rfl
theorem ok52 : OkFn Try.prog 52 := ⟨Try.f52, Try.func52, by kernel_rfl, by kernel_rfl⟩
theorem go52 {a0_0 : Int} {a0_1 : Int} {a0_2 : Sl} {a0_3 : Sl} {w : World} {K : Value → World → Prop} (h : W52 a0_0 a0_1 a0_2 a0_3 w K) : CallW Try.prog 52 #[.agg #[.int .i64 a0_0, .int .i64 a0_1, .slice a0_2.a a0_2.len a0_2.cap, .slice a0_3.a a0_3.len a0_3.cap]] w K :=
  .inl ⟨ok52, denFn_sound tt_ok mix Try.func52 (by kernel_rfl) (eq52 a0_0 a0_1 a0_2 a0_3 w K ▸ h)⟩

/- (*loop.example/g00008/impl.Sched).pick -/
def an53 : Ann := (.seq .leaf (.seq .leaf .leaf))
def W53 (a0 : Option Addr) (w : World) (K : Value → World → Prop) : Prop :=
  CallW Try.prog 117 #[.pointer a0, .func (.func 118) #[] #[]] w fun v1 w2 => ∃ p3 : Option Addr, v1 = .pointer p3 ∧ K (.pointer p3) w2
theorem eq53 (a0 : Option Addr) (w : World) (K : Value → World → Prop) : denFn Try.prog tt Try.f53 an53 [.pointer a0] w K = W53 a0 w K := by kernel_rfl
theorem ok53 : OkFn Try.prog 53 := ⟨Try.f53, Try.func53, by kernel_rfl, by kernel_rfl⟩
theorem go53 {a0 : Option Addr} {w : World} {K : Value → World → Prop} (h : W53 a0 w K) : CallW Try.prog 53 #[.pointer a0] w K :=
  .inl ⟨ok53, denFn_sound tt_ok mix Try.func53 (by kernel_rfl) (eq53 a0 w K ▸ h)⟩

/- loop.example/g00008/laws.eqThreadS -/
def an54 : Ann := (.seq .leaf (.seq (.seq .leaf (.cond (.seq .leaf .leaf) .leaf)) (.seq (.seq .leaf (.in_ (.loop 3 [(5, .int .i64)] (.seq (.seq .leaf (.cond .leaf .leaf)) (.seq (.in_ (.seq (.draw [0, 0, 3, 7, 0, 0, 48, 112, 255, 511] [0, 1, 2, 3, 4, 5, 6, 7, 8, 9]) (.cond (.seq .leaf .leaf) .leaf))) .leaf))))) (.seq .leaf .leaf))))
def W54 (a0 : Sl) (a1 : Sl) (w : World) (K : Value → World → Prop) : Prop :=
  BIf ((((a0.len : Nat) : Int) : Int) != ((a1.len : Nat) : Int)) (K (.bool false) w) (LoopW [.int .i64] (fun J2 => fun (n1 : Int) w3 => BIf (decide ((n1 : Int) < ((a0.len : Nat) : Int))) (0 ≤ (n1 : Int) ∧ (n1 : Int) < ((a0.len : Nat) : Int) ∧ ∃ q4 : Addr, (a0.a : Option Addr) = some q4 ∧ ∃ n5 : Int, w3.drew.cell? ((q4.add (Int.toNat n1 * 8)).add 0) = some (.int .i64 n5) ∧ ∃ n6 : Int, w3.drew.cell? ((q4.add (Int.toNat n1 * 8)).add 1) = some (.int .i64 n6) ∧ ∃ n7 : Int, w3.drew.cell? ((q4.add (Int.toNat n1 * 8)).add 2) = some (.int .i64 n7) ∧ ∃ n8 : Int, w3.drew.cell? ((q4.add (Int.toNat n1 * 8)).add 3) = some (.int .i64 n8) ∧ ∃ n9 : Int, w3.drew.cell? ((q4.add (Int.toNat n1 * 8)).add 4) = some (.int .i64 n9) ∧ ∃ n10 : Int, w3.drew.cell? ((q4.add (Int.toNat n1 * 8)).add 5) = some (.int .i64 n10) ∧ ∃ n11 : Int, w3.drew.cell? ((q4.add (Int.toNat n1 * 8)).add 6) = some (.int .i64 n11) ∧ ∃ n12 : Int, w3.drew.cell? ((q4.add (Int.toNat n1 * 8)).add 7) = some (.int .i64 n12) ∧ 0 ≤ (n1 : Int) ∧ (n1 : Int) < ((a1.len : Nat) : Int) ∧ ∃ q13 : Addr, (a1.a : Option Addr) = some q13 ∧ ∃ n14 : Int, w3.drew.cell? ((q13.add (Int.toNat n1 * 8)).add 0) = some (.int .i64 n14) ∧ ∃ n15 : Int, w3.drew.cell? ((q13.add (Int.toNat n1 * 8)).add 1) = some (.int .i64 n15) ∧ ∃ n16 : Int, w3.drew.cell? ((q13.add (Int.toNat n1 * 8)).add 2) = some (.int .i64 n16) ∧ ∃ n17 : Int, w3.drew.cell? ((q13.add (Int.toNat n1 * 8)).add 3) = some (.int .i64 n17) ∧ ∃ n18 : Int, w3.drew.cell? ((q13.add (Int.toNat n1 * 8)).add 4) = some (.int .i64 n18) ∧ ∃ n19 : Int, w3.drew.cell? ((q13.add (Int.toNat n1 * 8)).add 5) = some (.int .i64 n19) ∧ ∃ n20 : Int, w3.drew.cell? ((q13.add (Int.toNat n1 * 8)).add 6) = some (.int .i64 n20) ∧ ∃ n21 : Int, w3.drew.cell? ((q13.add (Int.toNat n1 * 8)).add 7) = some (.int .i64 n21) ∧ CallW Try.prog 119 #[.agg #[.int .i64 n5, .int .i64 n6, .int .i64 n7, .int .i64 n8, .int .i64 n9, .int .i64 n10, .int .i64 n11, .int .i64 n12], .agg #[.int .i64 n14, .int .i64 n15, .int .i64 n16, .int .i64 n17, .int .i64 n18, .int .i64 n19, .int .i64 n20, .int .i64 n21]] w3.drew fun v22 w23 => ∃ b24 : Bool, v22 = .bool b24 ∧ BIf (!b24) (K (.bool false) w23) (J2 (IntKind.wrap .i64 (n1 + 1)) w23)) (K (.bool true) w3)) ((0 : Int), ()) w)
theorem eq54 (a0 : Sl) (a1 : Sl) (w : World) (K : Value → World → Prop) : denFn Try.prog tt Try.f54 an54 [.slice a0.a a0.len a0.cap, .slice a1.a a1.len a1.cap] w K = W54 a0 a1 w K := by kernel_rfl
theorem ok54 : OkFn Try.prog 54 := ⟨Try.f54, Try.func54, by kernel_rfl, by kernel_rfl⟩
theorem go54 {a0 : Sl} {a1 : Sl} {w : World} {K : Value → World → Prop} (h : W54 a0 a1 w K) : CallW Try.prog 54 #[.slice a0.a a0.len a0.cap, .slice a1.a a1.len a1.cap] w K :=
  .inl ⟨ok54, denFn_sound tt_ok mix Try.func54 (by kernel_rfl) (eq54 a0 a1 w K ▸ h)⟩

/- loop.example/g00008/laws.eqLockS -/
def an55 : Ann := (.seq .leaf (.seq (.seq .leaf (.cond (.seq .leaf .leaf) .leaf)) (.seq (.seq .leaf (.in_ (.loop 3 [(5, .int .i64)] (.seq (.seq .leaf (.cond .leaf .leaf)) (.seq (.in_ (.seq (.draw [0, 0, 3, 7, 0, 0, 48, 112, 255, 511] [0, 1, 2, 3, 4, 5, 6, 7, 8, 9]) (.cond (.seq .leaf .leaf) .leaf))) .leaf))))) (.seq .leaf .leaf))))
def W55 (a0 : Sl) (a1 : Sl) (w : World) (K : Value → World → Prop) : Prop :=
  BIf ((((a0.len : Nat) : Int) : Int) != ((a1.len : Nat) : Int)) (K (.bool false) w) (LoopW [.int .i64] (fun J2 => fun (n1 : Int) w3 => BIf (decide ((n1 : Int) < ((a0.len : Nat) : Int))) (0 ≤ (n1 : Int) ∧ (n1 : Int) < ((a0.len : Nat) : Int) ∧ ∃ q4 : Addr, (a0.a : Option Addr) = some q4 ∧ ∃ n5 : Int, w3.drew.cell? ((q4.add (Int.toNat n1 * 2)).add 0) = some (.int .i64 n5) ∧ ∃ n6 : Int, w3.drew.cell? ((q4.add (Int.toNat n1 * 2)).add 1) = some (.int .i64 n6) ∧ 0 ≤ (n1 : Int) ∧ (n1 : Int) < ((a1.len : Nat) : Int) ∧ ∃ q7 : Addr, (a1.a : Option Addr) = some q7 ∧ ∃ n8 : Int, w3.drew.cell? ((q7.add (Int.toNat n1 * 2)).add 0) = some (.int .i64 n8) ∧ ∃ n9 : Int, w3.drew.cell? ((q7.add (Int.toNat n1 * 2)).add 1) = some (.int .i64 n9) ∧ CallW Try.prog 120 #[.agg #[.int .i64 n5, .int .i64 n6], .agg #[.int .i64 n8, .int .i64 n9]] w3.drew fun v10 w11 => ∃ b12 : Bool, v10 = .bool b12 ∧ BIf (!b12) (K (.bool false) w11) (J2 (IntKind.wrap .i64 (n1 + 1)) w11)) (K (.bool true) w3)) ((0 : Int), ()) w)
theorem eq55 (a0 : Sl) (a1 : Sl) (w : World) (K : Value → World → Prop) : denFn Try.prog tt Try.f55 an55 [.slice a0.a a0.len a0.cap, .slice a1.a a1.len a1.cap] w K = W55 a0 a1 w K := by kernel_rfl
theorem ok55 : OkFn Try.prog 55 := ⟨Try.f55, Try.func55, by kernel_rfl, by kernel_rfl⟩
theorem go55 {a0 : Sl} {a1 : Sl} {w : World} {K : Value → World → Prop} (h : W55 a0 a1 w K) : CallW Try.prog 55 #[.slice a0.a a0.len a0.cap, .slice a1.a a1.len a1.cap] w K :=
  .inl ⟨ok55, denFn_sound tt_ok mix Try.func55 (by kernel_rfl) (eq55 a0 a1 w K ▸ h)⟩

/- loop.example/g00008/spec.l10Count -/
def an107 : Ann := (.seq .leaf (.seq (.reg [(3, none), (3, some (0, [(8, .bool)])), (1, none)]) .leaf))
def W107 (a0 : Int) (w : World) (K : Value → World → Prop) : Prop :=
  JoinW [.bool] (fun J2 => BIf (decide ((a0 : Int) ≥ 0)) (J2 (decide ((a0 : Int) ≤ 1099511627776)) w) (J2 false w)) (fun (b1 : Bool) w3 => K (.bool b1) w3)
theorem eq107 (a0 : Int) (w : World) (K : Value → World → Prop) : denFn Try.prog tt Try.f107 an107 [.int .i64 a0] w K = W107 a0 w K := by kernel_rfl
theorem ok107 : OkFn Try.prog 107 := ⟨Try.f107, Try.func107, by kernel_rfl, by kernel_rfl⟩
theorem go107 {a0 : Int} {w : World} {K : Value → World → Prop} (h : W107 a0 w K) : CallW Try.prog 107 #[.int .i64 a0] w K :=
  .inl ⟨ok107, denFn_sound tt_ok mix Try.func107 (by kernel_rfl) (eq107 a0 w K ▸ h)⟩

/- loop.example/g00008/spec.l11Thread -/
def an108 : Ann := (.seq .leaf (.seq (.seq .leaf (.in_ (.loop 6 [(5, .int .i64)] (.seq (.seq .leaf (.cond .leaf .leaf)) (.seq (.in_ (.seq .leaf (.cond (.seq .leaf .leaf) .leaf))) .leaf))))) (.seq .leaf .leaf)))
def W108 (a0_0 : Int) (a0_1 : Int) (a0_2 : Sl) (a0_3 : Sl) (a1 : Int) (w : World) (K : Value → World → Prop) : Prop :=
  LetW (w.alloc (.cells #[.int .i64 a0_0, .int .i64 a0_1, .slice a0_2.a a0_2.len a0_2.cap, .slice a0_3.a a0_3.len a0_3.cap] 31)) fun w1 => LoopW [.int .i64] (fun J3 => fun (n2 : Int) w4 => ∃ l5 : Sl, w4.cell? ⟨w.heap.size, 2, none⟩ = some (.slice l5.a l5.len l5.cap) ∧ BIf (decide ((n2 : Int) < ((l5.len : Nat) : Int))) (∃ l6 : Sl, w4.cell? ⟨w.heap.size, 2, none⟩ = some (.slice l6.a l6.len l6.cap) ∧ 0 ≤ (n2 : Int) ∧ (n2 : Int) < ((l6.len : Nat) : Int) ∧ ∃ q7 : Addr, (l6.a : Option Addr) = some q7 ∧ ∃ n8 : Int, w4.cell? ((q7.add (Int.toNat n2 * 8)).add 0) = some (.int .i64 n8) ∧ BIf ((n8 : Int) == a1) (K (.int .i64 n2) w4) (J3 (IntKind.wrap .i64 (n2 + 1)) w4)) (K (.int .i64 (-1)) w4)) ((0 : Int), ()) w1
theorem eq108 (a0_0 : Int) (a0_1 : Int) (a0_2 : Sl) (a0_3 : Sl) (a1 : Int) (w : World) (K : Value → World → Prop) : denFn Try.prog tt Try.f108 an108 [.agg #[.int .i64 a0_0, .int .i64 a0_1, .slice a0_2.a a0_2.len a0_2.cap, .slice a0_3.a a0_3.len a0_3.cap], .int .i64 a1] w K = W108 a0_0 a0_1 a0_2 a0_3 a1 w K := by kernel_rfl
theorem ok108 : OkFn Try.prog 108 := ⟨Try.f108, Try.func108, by kernel_rfl, by kernel_rfl⟩
theorem go108 {a0_0 : Int} {a0_1 : Int} {a0_2 : Sl} {a0_3 : Sl} {a1 : Int} {w : World} {K : Value → World → Prop} (h : W108 a0_0 a0_1 a0_2 a0_3 a1 w K) : CallW Try.prog 108 #[.agg #[.int .i64 a0_0, .int .i64 a0_1, .slice a0_2.a a0_2.len a0_2.cap, .slice a0_3.a a0_3.len a0_3.cap], .int .i64 a1] w K :=
  .inl ⟨ok108, denFn_sound tt_ok mix Try.func108 (by kernel_rfl) (eq108 a0_0 a0_1 a0_2 a0_3 a1 w K ▸ h)⟩

/- loop.example/g00008/spec.l11ThreadOk -/
def an109 : Ann := (.seq .leaf (.seq (.seq (.reg [(4, none), (4, some (12, [(12, .bool)])), (1, none), (4, some (12, [(17, .bool)])), (1, none), (4, some (12, [(22, .bool)])), (1, none), (4, some (12, [(27, .bool)])), (1, none), (6, some (12, [(34, .bool)])), (1, none), (4, some (12, [(39, .bool)])), (1, none), (4, some (12, [(44, .bool)])), (1, none), (4, some (12, [(49, .bool)])), (1, none), (6, some (12, [(56, .bool)]))]) (.cond (.seq .leaf .leaf) .leaf)) (.seq (.seq .leaf (.in_ (.seq .leaf (.cond (.seq (.reg [(4, none), (4, some (0, [(68, .bool)])), (1, none)]) .leaf) (.seq .leaf (.cond (.seq (.reg [(6, none), (4, some (0, [(80, .bool)])), (1, none)]) .leaf) .leaf)))))) (.seq (.reg [(4, none), (4, some (8, [(88, .bool)])), (1, none), (4, some (0, [(93, .bool)])), (1, none)]) .leaf))))
def W109 (a0_0 : Int) (a0_1 : Int) (a0_2 : Sl) (a0_3 : Sl) (a1_0 : Int) (a1_1 : Int) (a1_2 : Int) (a1_3 : Int) (a1_4 : Int) (a1_5 : Int) (a1_6 : Int) (a1_7 : Int) (w : World) (K : Value → World → Prop) : Prop :=
  LetW (w.alloc (.cells #[.int .i64 a0_0, .int .i64 a0_1, .slice a0_2.a a0_2.len a0_2.cap, .slice a0_3.a a0_3.len a0_3.cap] 31)) fun w1 => LetW (w1.alloc (.cells #[.int .i64 a1_0, .int .i64 a1_1, .int .i64 a1_2, .int .i64 a1_3, .int .i64 a1_4, .int .i64 a1_5, .int .i64 a1_6, .int .i64 a1_7] 86)) fun w2 => ∃ n3 : Int, w2.cell? ⟨w1.heap.size, 0, none⟩ = some (.int .i64 n3) ∧ JoinW [.bool] (fun J5 => BIf (decide ((n3 : Int) < 0)) (J5 true w2) (∃ n68 : Int, w2.cell? ⟨w1.heap.size, 0, none⟩ = some (.int .i64 n68) ∧ J5 (decide ((n68 : Int) ≥ 32)) w2)) (fun (b4 : Bool) w6 => JoinW [.bool] (fun J8 => BIf b4 (J8 true w6) (∃ n67 : Int, w6.cell? ⟨w1.heap.size, 1, none⟩ = some (.int .i64 n67) ∧ J8 (decide ((n67 : Int) < 0)) w6)) (fun (b7 : Bool) w9 => JoinW [.bool] (fun J11 => BIf b7 (J11 true w9) (∃ n66 : Int, w9.cell? ⟨w1.heap.size, 1, none⟩ = some (.int .i64 n66) ∧ J11 (decide ((n66 : Int) > 7)) w9)) (fun (b10 : Bool) w12 => JoinW [.bool] (fun J14 => BIf b10 (J14 true w12) (∃ n65 : Int, w12.cell? ⟨w1.heap.size, 3, none⟩ = some (.int .i64 n65) ∧ J14 (decide ((n65 : Int) < 1)) w12)) (fun (b13 : Bool) w15 => JoinW [.bool] (fun J17 => BIf b13 (J17 true w15) (∃ n63 : Int, w15.cell? ⟨w1.heap.size, 3, none⟩ = some (.int .i64 n63) ∧ ∃ n64 : Int, w15.cell? ⟨w.heap.size, 1, none⟩ = some (.int .i64 n64) ∧ J17 (decide ((n63 : Int) > n64)) w15)) (fun (b16 : Bool) w18 => JoinW [.bool] (fun J20 => BIf b16 (J20 true w18) (∃ n62 : Int, w18.cell? ⟨w1.heap.size, 4, none⟩ = some (.int .i64 n62) ∧ J20 (decide ((n62 : Int) < 1)) w18)) (fun (b19 : Bool) w21 => JoinW [.bool] (fun J23 => BIf b19 (J23 true w21) (∃ n61 : Int, w21.cell? ⟨w1.heap.size, 4, none⟩ = some (.int .i64 n61) ∧ J23 (decide ((n61 : Int) > 4)) w21)) (fun (b22 : Bool) w24 => JoinW [.bool] (fun J26 => BIf b22 (J26 true w24) (∃ n60 : Int, w24.cell? ⟨w1.heap.size, 5, none⟩ = some (.int .i64 n60) ∧ J26 (decide ((n60 : Int) < 0)) w24)) (fun (b25 : Bool) w27 => JoinW [.bool] (fun J29 => BIf b25 (J29 true w27) (∃ n58 : Int, w27.cell? ⟨w1.heap.size, 5, none⟩ = some (.int .i64 n58) ∧ ∃ n59 : Int, w27.cell? ⟨w.heap.size, 0, none⟩ = some (.int .i64 n59) ∧ J29 (decide ((n58 : Int) > n59)) w27)) (fun (b28 : Bool) w30 => BIf b28 (K (.bool false) w30) (∃ n31 : Int, w30.cell? ⟨w1.heap.size, 2, none⟩ = some (.int .i64 n31) ∧ BIf ((n31 : Int) == 1) (∃ n32 : Int, w30.cell? ⟨w1.heap.size, 7, none⟩ = some (.int .i64 n32) ∧ JoinW [.bool] (fun J34 => BIf ((n32 : Int) == (-1)) (∃ n36 : Int, w30.cell? ⟨w1.heap.size, 6, none⟩ = some (.int .i64 n36) ∧ J34 ((n36 : Int) == 0) w30) (J34 false w30)) (fun (b33 : Bool) w35 => K (.bool b33) w35)) (BIf ((n31 : Int) == 2) (∃ n37 : Int, w30.cell? ⟨w.heap.size, 0, none⟩ = some (.int .i64 n37) ∧ ∃ n38 : Int, w30.cell? ⟨w.heap.size, 1, none⟩ = some (.int .i64 n38) ∧ ∃ l39 : Sl, w30.cell? ⟨w.heap.size, 2, none⟩ = some (.slice l39.a l39.len l39.cap) ∧ ∃ l40 : Sl, w30.cell? ⟨w.heap.size, 3, none⟩ = some (.slice l40.a l40.len l40.cap) ∧ ∃ n41 : Int, w30.cell? ⟨w1.heap.size, 7, none⟩ = some (.int .i64 n41) ∧ CallW Try.prog 158 #[.agg #[.int .i64 n37, .int .i64 n38, .slice l39.a l39.len l39.cap, .slice l40.a l40.len l40.cap], .int .i64 n41] w30 fun v42 w43 => ∃ n44 : Int, v42 = .int .i64 n44 ∧ JoinW [.bool] (fun J46 => BIf (decide ((n44 : Int) ≥ 0)) (∃ n48 : Int, w43.cell? ⟨w1.heap.size, 6, none⟩ = some (.int .i64 n48) ∧ J46 ((n48 : Int) == 0) w43) (J46 false w43)) (fun (b45 : Bool) w47 => K (.bool b45) w47)) (∃ n49 : Int, w30.cell? ⟨w1.heap.size, 2, none⟩ = some (.int .i64 n49) ∧ JoinW [.bool] (fun J51 => BIf ((n49 : Int) == 3) (∃ n57 : Int, w30.cell? ⟨w1.heap.size, 7, none⟩ = some (.int .i64 n57) ∧ J51 ((n57 : Int) == (-1)) w30) (J51 false w30)) (fun (b50 : Bool) w52 => JoinW [.bool] (fun J54 => BIf b50 (∃ n56 : Int, w52.cell? ⟨w1.heap.size, 6, none⟩ = some (.int .i64 n56) ∧ J54 (decide ((n56 : Int) > 0)) w52) (J54 false w52)) (fun (b53 : Bool) w55 => K (.bool b53) w55))))))))))))))
theorem eq109 (a0_0 : Int) (a0_1 : Int) (a0_2 : Sl) (a0_3 : Sl) (a1_0 : Int) (a1_1 : Int) (a1_2 : Int) (a1_3 : Int) (a1_4 : Int) (a1_5 : Int) (a1_6 : Int) (a1_7 : Int) (w : World) (K : Value → World → Prop) : denFn Try.prog tt Try.f109 an109 [.agg #[.int .i64 a0_0, .int .i64 a0_1, .slice a0_2.a a0_2.len a0_2.cap, .slice a0_3.a a0_3.len a0_3.cap], .agg #[.int .i64 a1_0, .int .i64 a1_1, .int .i64 a1_2, .int .i64 a1_3, .int .i64 a1_4, .int .i64 a1_5, .int .i64 a1_6, .int .i64 a1_7]] w K = W109 a0_0 a0_1 a0_2 a0_3 a1_0 a1_1 a1_2 a1_3 a1_4 a1_5 a1_6 a1_7 w K := by kernel_rfl
theorem ok109 : OkFn Try.prog 109 := ⟨Try.f109, Try.func109, by kernel_rfl, by kernel_rfl⟩
theorem go109 {a0_0 : Int} {a0_1 : Int} {a0_2 : Sl} {a0_3 : Sl} {a1_0 : Int} {a1_1 : Int} {a1_2 : Int} {a1_3 : Int} {a1_4 : Int} {a1_5 : Int} {a1_6 : Int} {a1_7 : Int} {w : World} {K : Value → World → Prop} (h : W109 a0_0 a0_1 a0_2 a0_3 a1_0 a1_1 a1_2 a1_3 a1_4 a1_5 a1_6 a1_7 w K) : CallW Try.prog 109 #[.agg #[.int .i64 a0_0, .int .i64 a0_1, .slice a0_2.a a0_2.len a0_2.cap, .slice a0_3.a a0_3.len a0_3.cap], .agg #[.int .i64 a1_0, .int .i64 a1_1, .int .i64 a1_2, .int .i64 a1_3, .int .i64 a1_4, .int .i64 a1_5, .int .i64 a1_6, .int .i64 a1_7]] w K :=
  .inl ⟨ok109, denFn_sound tt_ok mix Try.func109 (by kernel_rfl) (eq109 a0_0 a0_1 a0_2 a0_3 a1_0 a1_1 a1_2 a1_3 a1_4 a1_5 a1_6 a1_7 w K ▸ h)⟩

/- loop.example/g00008/spec.l11Waits -/
def an110 : Ann := (.seq .leaf (.seq .leaf (.seq (.seq .leaf (.in_ (.loop 12 [(7, .int .i64), (8, .int .i64)] (.seq (.seq (.reg [(6, none), (3, some (396, [(20, .bool)]))]) (.cond .leaf .leaf)) (.seq (.in_ (.seq (.seq .leaf (.cond (.seq .leaf .leaf) .leaf)) .leaf)) .leaf))))) (.seq .leaf .leaf))))
def W110 (a0_0 : Int) (a0_1 : Int) (a0_2 : Sl) (a0_3 : Sl) (a1 : Int) (a2 : Int) (w : World) (K : Value → World → Prop) : Prop :=
  LetW (w.alloc (.cells #[.int .i64 a0_0, .int .i64 a0_1, .slice a0_2.a a0_2.len a0_2.cap, .slice a0_3.a a0_3.len a0_3.cap] 31)) fun w1 => ∃ n2 : Int, w1.cell? ⟨w.heap.size, 0, none⟩ = some (.int .i64 n2) ∧ ∃ n3 : Int, w1.cell? ⟨w.heap.size, 1, none⟩ = some (.int .i64 n3) ∧ ∃ l4 : Sl, w1.cell? ⟨w.heap.size, 2, none⟩ = some (.slice l4.a l4.len l4.cap) ∧ ∃ l5 : Sl, w1.cell? ⟨w.heap.size, 3, none⟩ = some (.slice l5.a l5.len l5.cap) ∧ CallW Try.prog 159 #[.agg #[.int .i64 n2, .int .i64 n3, .slice l4.a l4.len l4.cap, .slice l5.a l5.len l5.cap], .int .i64 a1] w1 fun v6 w7 => ∃ n8 : Int, v6 = .int .i64 n8 ∧ LoopW [.int .i64, .int .i64] (fun J11 => fun (n9 : Int) (n10 : Int) w12 => ∃ l13 : Sl, w12.cell? ⟨w.heap.size, 2, none⟩ = some (.slice l13.a l13.len l13.cap) ∧ JoinW [.bool] (fun J15 => BIf (decide ((n10 : Int) ≤ ((l13.len : Nat) : Int))) (J15 (decide ((n9 : Int) ≥ 0)) w12) (J15 false w12)) (fun (b14 : Bool) w16 => BIf b14 (BIf ((n9 : Int) == a2) (K (.bool true) w16) (∃ n17 : Int, w16.cell? ⟨w.heap.size, 0, none⟩ = some (.int .i64 n17) ∧ ∃ n18 : Int, w16.cell? ⟨w.heap.size, 1, none⟩ = some (.int .i64 n18) ∧ ∃ l19 : Sl, w16.cell? ⟨w.heap.size, 2, none⟩ = some (.slice l19.a l19.len l19.cap) ∧ ∃ l20 : Sl, w16.cell? ⟨w.heap.size, 3, none⟩ = some (.slice l20.a l20.len l20.cap) ∧ CallW Try.prog 159 #[.agg #[.int .i64 n17, .int .i64 n18, .slice l19.a l19.len l19.cap, .slice l20.a l20.len l20.cap], .int .i64 n9] w16 fun v21 w22 => ∃ n23 : Int, v21 = .int .i64 n23 ∧ J11 n23 (IntKind.wrap .i64 (n10 + 1)) w22)) (K (.bool false) w16))) ((n8 : Int), ((0 : Int), ())) w7
theorem eq110 (a0_0 : Int) (a0_1 : Int) (a0_2 : Sl) (a0_3 : Sl) (a1 : Int) (a2 : Int) (w : World) (K : Value → World → Prop) : denFn Try.prog tt Try.f110 an110 [.agg #[.int .i64 a0_0, .int .i64 a0_1, .slice a0_2.a a0_2.len a0_2.cap, .slice a0_3.a a0_3.len a0_3.cap], .int .i64 a1, .int .i64 a2] w K = W110 a0_0 a0_1 a0_2 a0_3 a1 a2 w K := by kernel_rfl
theorem ok110 : OkFn Try.prog 110 := ⟨Try.f110, Try.func110, by kernel_rfl, by kernel_rfl⟩
theorem go110 {a0_0 : Int} {a0_1 : Int} {a0_2 : Sl} {a0_3 : Sl} {a1 : Int} {a2 : Int} {w : World} {K : Value → World → Prop} (h : W110 a0_0 a0_1 a0_2 a0_3 a1 a2 w K) : CallW Try.prog 110 #[.agg #[.int .i64 a0_0, .int .i64 a0_1, .slice a0_2.a a0_2.len a0_2.cap, .slice a0_3.a a0_3.len a0_3.cap], .int .i64 a1, .int .i64 a2] w K :=
  .inl ⟨ok110, denFn_sound tt_ok mix Try.func110 (by kernel_rfl) (eq110 a0_0 a0_1 a0_2 a0_3 a1 a2 w K ▸ h)⟩

/- loop.example/g00008/spec.l11Prio -/
def an111 : Ann := (.seq .leaf (.seq (.draw [0, 0, 2, 0, 0, 24, 62, 126, 255, 511] [0, 1, 2, 3, 4, 5, 6, 7, 8, 9]) (.seq (.seq .leaf (.in_ (.loop 6 [(5, .int .i64), (6, .int .i64)] (.seq (.seq .leaf (.cond .leaf .leaf)) (.seq (.in_ (.seq (.draw [0, 0, 2, 0, 14, 30, 62, 0, 255] [0, 1, 2, 3, 4, 5, 6, 7, 8]) (.cond (.seq (.draw [0, 0, 2, 0, 14, 30, 63, 127] [0, 1, 2, 3, 4, 5, 6, 7]) (.seq .leaf (.cond .leaf .leaf))) .leaf))) .leaf))))) (.seq .leaf .leaf))))
def W111 (a0_0 : Int) (a0_1 : Int) (a0_2 : Sl) (a0_3 : Sl) (a1 : Int) (w : World) (K : Value → World → Prop) : Prop :=
  LetW (w.alloc (.cells #[.int .i64 a0_0, .int .i64 a0_1, .slice a0_2.a a0_2.len a0_2.cap, .slice a0_3.a a0_3.len a0_3.cap] 31)) fun w1 => ∃ n2 : Int, w1.drew.cell? ⟨w.heap.size, 0, none⟩ = some (.int .i64 n2) ∧ ∃ n3 : Int, w1.drew.cell? ⟨w.heap.size, 1, none⟩ = some (.int .i64 n3) ∧ ∃ l4 : Sl, w1.drew.cell? ⟨w.heap.size, 2, none⟩ = some (.slice l4.a l4.len l4.cap) ∧ ∃ l5 : Sl, w1.drew.cell? ⟨w.heap.size, 3, none⟩ = some (.slice l5.a l5.len l5.cap) ∧ ∃ l6 : Sl, w1.drew.cell? ⟨w.heap.size, 2, none⟩ = some (.slice l6.a l6.len l6.cap) ∧ ∃ n7 : Int, w1.drew.cell? ⟨w.heap.size, 0, none⟩ = some (.int .i64 n7) ∧ ∃ n8 : Int, w1.drew.cell? ⟨w.heap.size, 1, none⟩ = some (.int .i64 n8) ∧ ∃ l9 : Sl, w1.drew.cell? ⟨w.heap.size, 2, none⟩ = some (.slice l9.a l9.len l9.cap) ∧ ∃ l10 : Sl, w1.drew.cell? ⟨w.heap.size, 3, none⟩ = some (.slice l10.a l10.len l10.cap) ∧ CallW Try.prog 108 #[.agg #[.int .i64 n7, .int .i64 n8, .slice l9.a l9.len l9.cap, .slice l10.a l10.len l10.cap], .int .i64 a1] w1.drew fun v11 w12 => ∃ n13 : Int, v11 = .int .i64 n13 ∧ (∃ l14 : Sl, w12.cell? ⟨w.heap.size, 2, none⟩ = some (.slice l14.a l14.len l14.cap) ∧ (.slice l14.a l14.len l14.cap : Value) = (.slice l6.a l6.len l6.cap : Value)) ∧ (∃ n15 : Int, w12.cell? ⟨w.heap.size, 0, none⟩ = some (.int .i64 n15) ∧ ∃ n16 : Int, w12.cell? ⟨w.heap.size, 1, none⟩ = some (.int .i64 n16) ∧ ∃ l17 : Sl, w12.cell? ⟨w.heap.size, 2, none⟩ = some (.slice l17.a l17.len l17.cap) ∧ ∃ l18 : Sl, w12.cell? ⟨w.heap.size, 3, none⟩ = some (.slice l18.a l18.len l18.cap) ∧ (.agg #[.int .i64 n15, .int .i64 n16, .slice l17.a l17.len l17.cap, .slice l18.a l18.len l18.cap] : Value) = (.agg #[.int .i64 n2, .int .i64 n3, .slice l4.a l4.len l4.cap, .slice l5.a l5.len l5.cap] : Value)) ∧ 0 ≤ (n13 : Int) ∧ (n13 : Int) < ((l6.len : Nat) : Int) ∧ ∃ q19 : Addr, (l6.a : Option Addr) = some q19 ∧ ∃ n20 : Int, w12.cell? ((q19.add (Int.toNat n13 * 8)).add 0) = some (.int .i64 n20) ∧ ∃ n21 : Int, w12.cell? ((q19.add (Int.toNat n13 * 8)).add 1) = some (.int .i64 n21) ∧ ∃ n22 : Int, w12.cell? ((q19.add (Int.toNat n13 * 8)).add 2) = some (.int .i64 n22) ∧ ∃ n23 : Int, w12.cell? ((q19.add (Int.toNat n13 * 8)).add 3) = some (.int .i64 n23) ∧ ∃ n24 : Int, w12.cell? ((q19.add (Int.toNat n13 * 8)).add 4) = some (.int .i64 n24) ∧ ∃ n25 : Int, w12.cell? ((q19.add (Int.toNat n13 * 8)).add 5) = some (.int .i64 n25) ∧ ∃ n26 : Int, w12.cell? ((q19.add (Int.toNat n13 * 8)).add 6) = some (.int .i64 n26) ∧ ∃ n27 : Int, w12.cell? ((q19.add (Int.toNat n13 * 8)).add 7) = some (.int .i64 n27) ∧ CallW Try.prog 160 #[.agg #[.int .i64 n2, .int .i64 n3, .slice l4.a l4.len l4.cap, .slice l5.a l5.len l5.cap], .agg #[.int .i64 n20, .int .i64 n21, .int .i64 n22, .int .i64 n23, .int .i64 n24, .int .i64 n25, .int .i64 n26, .int .i64 n27]] w12 fun v28 w29 => ∃ n30 : Int, v28 = .int .i64 n30 ∧ LoopW [.int .i64, .int .i64] (fun J33 => fun (n31 : Int) (n32 : Int) w34 => ∃ l35 : Sl, w34.cell? ⟨w.heap.size, 2, none⟩ = some (.slice l35.a l35.len l35.cap) ∧ BIf (decide ((n32 : Int) < ((l35.len : Nat) : Int))) (∃ n36 : Int, w34.drew.cell? ⟨w.heap.size, 0, none⟩ = some (.int .i64 n36) ∧ ∃ n37 : Int, w34.drew.cell? ⟨w.heap.size, 1, none⟩ = some (.int .i64 n37) ∧ ∃ l38 : Sl, w34.drew.cell? ⟨w.heap.size, 2, none⟩ = some (.slice l38.a l38.len l38.cap) ∧ ∃ l39 : Sl, w34.drew.cell? ⟨w.heap.size, 3, none⟩ = some (.slice l39.a l39.len l39.cap) ∧ ∃ l40 : Sl, w34.drew.cell? ⟨w.heap.size, 2, none⟩ = some (.slice l40.a l40.len l40.cap) ∧ 0 ≤ (n32 : Int) ∧ (n32 : Int) < ((l40.len : Nat) : Int) ∧ ∃ q41 : Addr, (l40.a : Option Addr) = some q41 ∧ ∃ n42 : Int, w34.drew.cell? ((q41.add (Int.toNat n32 * 8)).add 0) = some (.int .i64 n42) ∧ CallW Try.prog 110 #[.agg #[.int .i64 n36, .int .i64 n37, .slice l38.a l38.len l38.cap, .slice l39.a l39.len l39.cap], .int .i64 n42, .int .i64 a1] w34.drew fun v43 w44 => ∃ b45 : Bool, v43 = .bool b45 ∧ BIf b45 (∃ n46 : Int, w44.drew.cell? ⟨w.heap.size, 0, none⟩ = some (.int .i64 n46) ∧ ∃ n47 : Int, w44.drew.cell? ⟨w.heap.size, 1, none⟩ = some (.int .i64 n47) ∧ ∃ l48 : Sl, w44.drew.cell? ⟨w.heap.size, 2, none⟩ = some (.slice l48.a l48.len l48.cap) ∧ ∃ l49 : Sl, w44.drew.cell? ⟨w.heap.size, 3, none⟩ = some (.slice l49.a l49.len l49.cap) ∧ ∃ l50 : Sl, w44.drew.cell? ⟨w.heap.size, 2, none⟩ = some (.slice l50.a l50.len l50.cap) ∧ 0 ≤ (n32 : Int) ∧ (n32 : Int) < ((l50.len : Nat) : Int) ∧ ∃ q51 : Addr, (l50.a : Option Addr) = some q51 ∧ ∃ n52 : Int, w44.drew.cell? ((q51.add (Int.toNat n32 * 8)).add 0) = some (.int .i64 n52) ∧ ∃ n53 : Int, w44.drew.cell? ((q51.add (Int.toNat n32 * 8)).add 1) = some (.int .i64 n53) ∧ ∃ n54 : Int, w44.drew.cell? ((q51.add (Int.toNat n32 * 8)).add 2) = some (.int .i64 n54) ∧ ∃ n55 : Int, w44.drew.cell? ((q51.add (Int.toNat n32 * 8)).add 3) = some (.int .i64 n55) ∧ ∃ n56 : Int, w44.drew.cell? ((q51.add (Int.toNat n32 * 8)).add 4) = some (.int .i64 n56) ∧ ∃ n57 : Int, w44.drew.cell? ((q51.add (Int.toNat n32 * 8)).add 5) = some (.int .i64 n57) ∧ ∃ n58 : Int, w44.drew.cell? ((q51.add (Int.toNat n32 * 8)).add 6) = some (.int .i64 n58) ∧ ∃ n59 : Int, w44.drew.cell? ((q51.add (Int.toNat n32 * 8)).add 7) = some (.int .i64 n59) ∧ CallW Try.prog 160 #[.agg #[.int .i64 n46, .int .i64 n47, .slice l48.a l48.len l48.cap, .slice l49.a l49.len l49.cap], .agg #[.int .i64 n52, .int .i64 n53, .int .i64 n54, .int .i64 n55, .int .i64 n56, .int .i64 n57, .int .i64 n58, .int .i64 n59]] w44.drew fun v60 w61 => ∃ n62 : Int, v60 = .int .i64 n62 ∧ BIf (decide ((n62 : Int) > n31)) (J33 n62 (IntKind.wrap .i64 (n32 + 1)) w61) (J33 n31 (IntKind.wrap .i64 (n32 + 1)) w61)) (J33 n31 (IntKind.wrap .i64 (n32 + 1)) w44)) (K (.int .i64 n31) w34)) ((n30 : Int), ((0 : Int), ())) w29
theorem eq111 (a0_0 : Int) (a0_1 : Int) (a0_2 : Sl) (a0_3 : Sl) (a1 : Int) (w : World) (K : Value → World → Prop) : denFn Try.prog tt Try.f111 an111 [.agg #[.int .i64 a0_0, .int .i64 a0_1, .slice a0_2.a a0_2.len a0_2.cap, .slice a0_3.a a0_3.len a0_3.cap], .int .i64 a1] w K = W111 a0_0 a0_1 a0_2 a0_3 a1 w K := by kernel_rfl
theorem ok111 : OkFn Try.prog 111 := ⟨Try.f111, Try.func111, by kernel_rfl, by kernel_rfl⟩
theorem go111 {a0_0 : Int} {a0_1 : Int} {a0_2 : Sl} {a0_3 : Sl} {a1 : Int} {w : World} {K : Value → World → Prop} (h : W111 a0_0 a0_1 a0_2 a0_3 a1 w K) : CallW Try.prog 111 #[.agg #[.int .i64 a0_0, .int .i64 a0_1, .slice a0_2.a a0_2.len a0_2.cap, .slice a0_3.a a0_3.len a0_3.cap], .int .i64 a1] w K :=
  .inl ⟨ok111, denFn_sound tt_ok mix Try.func111 (by kernel_rfl) (eq111 a0_0 a0_1 a0_2 a0_3 a1 w K ▸ h)⟩

/- loop.example/g00008/laws.toThread -/
def an112 : Ann := (.seq .leaf (.seq .leaf (.seq .leaf (.seq .leaf (.seq .leaf (.seq .leaf (.seq .leaf (.seq .leaf (.seq .leaf (.seq .leaf (.seq .leaf .leaf)))))))))))
def W112 (a0_0 : Int) (a0_1 : Int) (a0_2 : Int) (a0_3 : Int) (a0_4 : Int) (a0_5 : Int) (a0_6 : Int) (a0_7 : Int) (w : World) (K : Value → World → Prop) : Prop :=
  LetW (w.alloc (.cells #[.int .i64 a0_0, .int .i64 a0_1, .int .i64 a0_2, .int .i64 a0_3, .int .i64 a0_4, .int .i64 a0_5, .int .i64 a0_6, .int .i64 a0_7] 155)) fun w1 => LetW (w1.alloc (.cells #[.int .i64 0, .int .i64 0, .int .i64 0, .int .i64 0, .int .i64 0, .int .i64 0, .int .i64 0, .int .i64 0] 86)) fun w2 => LetW (w2.alloc (.cells #[.int .i64 0, .int .i64 0, .int .i64 0, .int .i64 0, .int .i64 0, .int .i64 0, .int .i64 0, .int .i64 0] 86)) fun w3 => ∃ n4 : Int, w3.cell? ⟨w.heap.size, 0, none⟩ = some (.int .i64 n4) ∧ May w3 ⟨w2.heap.size, 0, none⟩ ∧ LetW (w3.setCell ⟨w2.heap.size, 0, none⟩ (.int .i64 n4)) fun w5 => ∃ n6 : Int, w5.cell? ⟨w.heap.size, 1, none⟩ = some (.int .i64 n6) ∧ May w5 ⟨w2.heap.size, 1, none⟩ ∧ LetW (w5.setCell ⟨w2.heap.size, 1, none⟩ (.int .i64 n6)) fun w7 => ∃ n8 : Int, w7.cell? ⟨w.heap.size, 2, none⟩ = some (.int .i64 n8) ∧ May w7 ⟨w2.heap.size, 2, none⟩ ∧ LetW (w7.setCell ⟨w2.heap.size, 2, none⟩ (.int .i64 n8)) fun w9 => ∃ n10 : Int, w9.cell? ⟨w.heap.size, 3, none⟩ = some (.int .i64 n10) ∧ May w9 ⟨w2.heap.size, 3, none⟩ ∧ LetW (w9.setCell ⟨w2.heap.size, 3, none⟩ (.int .i64 n10)) fun w11 => ∃ n12 : Int, w11.cell? ⟨w.heap.size, 4, none⟩ = some (.int .i64 n12) ∧ May w11 ⟨w2.heap.size, 4, none⟩ ∧ LetW (w11.setCell ⟨w2.heap.size, 4, none⟩ (.int .i64 n12)) fun w13 => ∃ n14 : Int, w13.cell? ⟨w.heap.size, 5, none⟩ = some (.int .i64 n14) ∧ May w13 ⟨w2.heap.size, 5, none⟩ ∧ LetW (w13.setCell ⟨w2.heap.size, 5, none⟩ (.int .i64 n14)) fun w15 => ∃ n16 : Int, w15.cell? ⟨w.heap.size, 6, none⟩ = some (.int .i64 n16) ∧ May w15 ⟨w2.heap.size, 6, none⟩ ∧ LetW (w15.setCell ⟨w2.heap.size, 6, none⟩ (.int .i64 n16)) fun w17 => ∃ n18 : Int, w17.cell? ⟨w.heap.size, 7, none⟩ = some (.int .i64 n18) ∧ May w17 ⟨w2.heap.size, 7, none⟩ ∧ LetW (w17.setCell ⟨w2.heap.size, 7, none⟩ (.int .i64 n18)) fun w19 => ∃ n20 : Int, w19.cell? ⟨w2.heap.size, 0, none⟩ = some (.int .i64 n20) ∧ ∃ n21 : Int, w19.cell? ⟨w2.heap.size, 1, none⟩ = some (.int .i64 n21) ∧ ∃ n22 : Int, w19.cell? ⟨w2.heap.size, 2, none⟩ = some (.int .i64 n22) ∧ ∃ n23 : Int, w19.cell? ⟨w2.heap.size, 3, none⟩ = some (.int .i64 n23) ∧ ∃ n24 : Int, w19.cell? ⟨w2.heap.size, 4, none⟩ = some (.int .i64 n24) ∧ ∃ n25 : Int, w19.cell? ⟨w2.heap.size, 5, none⟩ = some (.int .i64 n25) ∧ ∃ n26 : Int, w19.cell? ⟨w2.heap.size, 6, none⟩ = some (.int .i64 n26) ∧ ∃ n27 : Int, w19.cell? ⟨w2.heap.size, 7, none⟩ = some (.int .i64 n27) ∧ MayN w19 ⟨w1.heap.size, 0, none⟩ 8 ∧ LetW (puts w19 ⟨w1.heap.size, 0, none⟩ 0 [.int .i64 n20, .int .i64 n21, .int .i64 n22, .int .i64 n23, .int .i64 n24, .int .i64 n25, .int .i64 n26, .int .i64 n27]) fun w28 => ∃ n29 : Int, w28.cell? ⟨w1.heap.size, 0, none⟩ = some (.int .i64 n29) ∧ ∃ n30 : Int, w28.cell? ⟨w1.heap.size, 1, none⟩ = some (.int .i64 n30) ∧ ∃ n31 : Int, w28.cell? ⟨w1.heap.size, 2, none⟩ = some (.int .i64 n31) ∧ ∃ n32 : Int, w28.cell? ⟨w1.heap.size, 3, none⟩ = some (.int .i64 n32) ∧ ∃ n33 : Int, w28.cell? ⟨w1.heap.size, 4, none⟩ = some (.int .i64 n33) ∧ ∃ n34 : Int, w28.cell? ⟨w1.heap.size, 5, none⟩ = some (.int .i64 n34) ∧ ∃ n35 : Int, w28.cell? ⟨w1.heap.size, 6, none⟩ = some (.int .i64 n35) ∧ ∃ n36 : Int, w28.cell? ⟨w1.heap.size, 7, none⟩ = some (.int .i64 n36) ∧ K (.agg #[.int .i64 n29, .int .i64 n30, .int .i64 n31, .int .i64 n32, .int .i64 n33, .int .i64 n34, .int .i64 n35, .int .i64 n36]) w28
theorem eq112 (a0_0 : Int) (a0_1 : Int) (a0_2 : Int) (a0_3 : Int) (a0_4 : Int) (a0_5 : Int) (a0_6 : Int) (a0_7 : Int) (w : World) (K : Value → World → Prop) : denFn Try.prog tt Try.f112 an112 [.agg #[.int .i64 a0_0, .int .i64 a0_1, .int .i64 a0_2, .int .i64 a0_3, .int .i64 a0_4, .int .i64 a0_5, .int .i64 a0_6, .int .i64 a0_7]] w K = W112 a0_0 a0_1 a0_2 a0_3 a0_4 a0_5 a0_6 a0_7 w K := by kernel_rfl
theorem ok112 : OkFn Try.prog 112 := ⟨Try.f112, Try.func112, by kernel_rfl, by kernel_rfl⟩
theorem go112 {a0_0 : Int} {a0_1 : Int} {a0_2 : Int} {a0_3 : Int} {a0_4 : Int} {a0_5 : Int} {a0_6 : Int} {a0_7 : Int} {w : World} {K : Value → World → Prop} (h : W112 a0_0 a0_1 a0_2 a0_3 a0_4 a0_5 a0_6 a0_7 w K) : CallW Try.prog 112 #[.agg #[.int .i64 a0_0, .int .i64 a0_1, .int .i64 a0_2, .int .i64 a0_3, .int .i64 a0_4, .int .i64 a0_5, .int .i64 a0_6, .int .i64 a0_7]] w K :=
  .inl ⟨ok112, denFn_sound tt_ok mix Try.func112 (by kernel_rfl) (eq112 a0_0 a0_1 a0_2 a0_3 a0_4 a0_5 a0_6 a0_7 w K ▸ h)⟩

/- loop.example/g00008/laws.toLock -/
def an113 : Ann := (.seq .leaf (.seq .leaf (.seq .leaf (.seq .leaf (.seq .leaf .leaf)))))
def W113 (a0_0 : Int) (a0_1 : Int) (w : World) (K : Value → World → Prop) : Prop :=
  LetW (w.alloc (.cells #[.int .i64 a0_0, .int .i64 a0_1] 157)) fun w1 => LetW (w1.alloc (.cells #[.int .i64 0, .int .i64 0] 149)) fun w2 => LetW (w2.alloc (.cells #[.int .i64 0, .int .i64 0] 149)) fun w3 => ∃ n4 : Int, w3.cell? ⟨w.heap.size, 0, none⟩ = some (.int .i64 n4) ∧ May w3 ⟨w2.heap.size, 0, none⟩ ∧ LetW (w3.setCell ⟨w2.heap.size, 0, none⟩ (.int .i64 n4)) fun w5 => ∃ n6 : Int, w5.cell? ⟨w.heap.size, 1, none⟩ = some (.int .i64 n6) ∧ May w5 ⟨w2.heap.size, 1, none⟩ ∧ LetW (w5.setCell ⟨w2.heap.size, 1, none⟩ (.int .i64 n6)) fun w7 => ∃ n8 : Int, w7.cell? ⟨w2.heap.size, 0, none⟩ = some (.int .i64 n8) ∧ ∃ n9 : Int, w7.cell? ⟨w2.heap.size, 1, none⟩ = some (.int .i64 n9) ∧ MayN w7 ⟨w1.heap.size, 0, none⟩ 2 ∧ LetW (puts w7 ⟨w1.heap.size, 0, none⟩ 0 [.int .i64 n8, .int .i64 n9]) fun w10 => ∃ n11 : Int, w10.cell? ⟨w1.heap.size, 0, none⟩ = some (.int .i64 n11) ∧ ∃ n12 : Int, w10.cell? ⟨w1.heap.size, 1, none⟩ = some (.int .i64 n12) ∧ K (.agg #[.int .i64 n11, .int .i64 n12]) w10
theorem eq113 (a0_0 : Int) (a0_1 : Int) (w : World) (K : Value → World → Prop) : denFn Try.prog tt Try.f113 an113 [.agg #[.int .i64 a0_0, .int .i64 a0_1]] w K = W113 a0_0 a0_1 w K := by kernel_rfl
theorem ok113 : OkFn Try.prog 113 := ⟨Try.f113, Try.func113, by kernel_rfl, by kernel_rfl⟩
theorem go113 {a0_0 : Int} {a0_1 : Int} {w : World} {K : Value → World → Prop} (h : W113 a0_0 a0_1 w K) : CallW Try.prog 113 #[.agg #[.int .i64 a0_0, .int .i64 a0_1]] w K :=
  .inl ⟨ok113, denFn_sound tt_ok mix Try.func113 (by kernel_rfl) (eq113 a0_0 a0_1 w K ▸ h)⟩

/- (*loop.example/g00008/impl.Sched).lock -/
def an114 : Ann := (.seq .leaf (.seq (.seq .leaf (.in_ (.loop 1027 [(11, .int .i64)] (.seq .leaf (.seq (.cond .leaf .leaf) (.seq (.in_ (.seq .leaf (.seq .leaf (.cond (.seq .leaf .leaf) .leaf)))) .leaf)))))) (.seq .leaf .leaf)))
def W114 (a0 : Option Addr) (a1 : Int) (w : World) (K : Value → World → Prop) : Prop :=
  ∃ p1 : Addr, (a0 : Option Addr) = some p1 ∧ ∃ l2 : Sl, w.cell? (p1.add 3) = some (.slice l2.a l2.len l2.cap) ∧ LoopW [.int .i64] (fun J4 => fun (n3 : Int) w5 => BIf (decide ((n3 : Int) < ((l2.len : Nat) : Int))) (∃ p6 : Addr, (a0 : Option Addr) = some p6 ∧ ∃ l7 : Sl, w5.cell? (p6.add 3) = some (.slice l7.a l7.len l7.cap) ∧ 0 ≤ (n3 : Int) ∧ (n3 : Int) < ((l7.len : Nat) : Int) ∧ ∃ q8 : Addr, (l7.a : Option Addr) = some q8 ∧ ∃ n9 : Int, w5.cell? ((q8.add (Int.toNat n3 * 2)).add 0) = some (.int .i64 n9) ∧ BIf ((n9 : Int) == a1) (∃ p10 : Addr, (a0 : Option Addr) = some p10 ∧ ∃ l11 : Sl, w5.cell? (p10.add 3) = some (.slice l11.a l11.len l11.cap) ∧ 0 ≤ (n3 : Int) ∧ (n3 : Int) < ((l11.len : Nat) : Int) ∧ ∃ q12 : Addr, (l11.a : Option Addr) = some q12 ∧ K (.pointer (some (q12.add (Int.toNat n3 * 2)))) w5) (J4 (IntKind.wrap .i64 (n3 + 1)) w5)) (K (.pointer none) w5)) ((0 : Int), ()) w
theorem eq114 (a0 : Option Addr) (a1 : Int) (w : World) (K : Value → World → Prop) : denFn Try.prog tt Try.f114 an114 [.pointer a0, .int .i64 a1] w K = W114 a0 a1 w K := by kernel_rfl
theorem ok114 : OkFn Try.prog 114 := ⟨Try.f114, Try.func114, by kernel_rfl, by kernel_rfl⟩
theorem go114 {a0 : Option Addr} {a1 : Int} {w : World} {K : Value → World → Prop} (h : W114 a0 a1 w K) : CallW Try.prog 114 #[.pointer a0, .int .i64 a1] w K :=
  .inl ⟨ok114, denFn_sound tt_ok mix Try.func114 (by kernel_rfl) (eq114 a0 a1 w K ▸ h)⟩

/- (*loop.example/g00008/impl.Sched).thread -/
def an115 : Ann := (.seq .leaf (.seq (.seq .leaf (.in_ (.loop 1027 [(11, .int .i64)] (.seq .leaf (.seq (.cond .leaf .leaf) (.seq (.in_ (.seq .leaf (.seq .leaf (.cond (.seq .leaf .leaf) .leaf)))) .leaf)))))) (.seq .leaf .leaf)))
def W115 (a0 : Option Addr) (a1 : Int) (w : World) (K : Value → World → Prop) : Prop :=
  ∃ p1 : Addr, (a0 : Option Addr) = some p1 ∧ ∃ l2 : Sl, w.cell? (p1.add 2) = some (.slice l2.a l2.len l2.cap) ∧ LoopW [.int .i64] (fun J4 => fun (n3 : Int) w5 => BIf (decide ((n3 : Int) < ((l2.len : Nat) : Int))) (∃ p6 : Addr, (a0 : Option Addr) = some p6 ∧ ∃ l7 : Sl, w5.cell? (p6.add 2) = some (.slice l7.a l7.len l7.cap) ∧ 0 ≤ (n3 : Int) ∧ (n3 : Int) < ((l7.len : Nat) : Int) ∧ ∃ q8 : Addr, (l7.a : Option Addr) = some q8 ∧ ∃ n9 : Int, w5.cell? ((q8.add (Int.toNat n3 * 8)).add 0) = some (.int .i64 n9) ∧ BIf ((n9 : Int) == a1) (∃ p10 : Addr, (a0 : Option Addr) = some p10 ∧ ∃ l11 : Sl, w5.cell? (p10.add 2) = some (.slice l11.a l11.len l11.cap) ∧ 0 ≤ (n3 : Int) ∧ (n3 : Int) < ((l11.len : Nat) : Int) ∧ ∃ q12 : Addr, (l11.a : Option Addr) = some q12 ∧ K (.pointer (some (q12.add (Int.toNat n3 * 8)))) w5) (J4 (IntKind.wrap .i64 (n3 + 1)) w5)) (K (.pointer none) w5)) ((0 : Int), ()) w
theorem eq115 (a0 : Option Addr) (a1 : Int) (w : World) (K : Value → World → Prop) : denFn Try.prog tt Try.f115 an115 [.pointer a0, .int .i64 a1] w K = W115 a0 a1 w K := by kernel_rfl
theorem ok115 : OkFn Try.prog 115 := ⟨Try.f115, Try.func115, by kernel_rfl, by kernel_rfl⟩
theorem go115 {a0 : Option Addr} {a1 : Int} {w : World} {K : Value → World → Prop} (h : W115 a0 a1 w K) : CallW Try.prog 115 #[.pointer a0, .int .i64 a1] w K :=
  .inl ⟨ok115, denFn_sound tt_ok mix Try.func115 (by kernel_rfl) (eq115 a0 a1 w K ▸ h)⟩

/- (*loop.example/g00008/impl.Sched).schedWaits -/
def an116 : Ann := (.seq .leaf (.seq (.seq .leaf (.in_ (.loop 5 [(1, .int .i64), (9, .int .i64)] (.seq .leaf (.seq (.cond .leaf .leaf) (.seq (.in_ (.seq .leaf (.seq (.seq (.reg [(3, none), (6, some (645, [(22, .bool)]))]) (.cond (.seq .leaf .leaf) .leaf)) (.seq .leaf (.seq (.seq .leaf (.cond (.seq .leaf .leaf) .leaf)) (.seq .leaf (.seq .leaf (.cond (.seq .leaf .leaf) .leaf)))))))) .leaf)))))) (.seq .leaf .leaf)))
def W116 (a0 : Option Addr) (a1 : Int) (a2 : Int) (w : World) (K : Value → World → Prop) : Prop :=
  LoopW [.int .i64, .int .i64] (fun J3 => fun (n1 : Int) (n2 : Int) w4 => BIf (decide ((n2 : Int) < 34)) (CallW Try.prog 115 #[.pointer a0, .int .i64 n1] w4 fun v5 w6 => ∃ p7 : Option Addr, v5 = .pointer p7 ∧ JoinW [.bool] (fun J9 => BIf (Option.isNone p7) (J9 true w6) (∃ p18 : Addr, (p7 : Option Addr) = some p18 ∧ ∃ n19 : Int, w6.cell? (p18.add 2) = some (.int .i64 n19) ∧ J9 ((n19 : Int) != 2) w6)) (fun (b8 : Bool) w10 => BIf b8 (K (.bool false) w10) (∃ p11 : Addr, (p7 : Option Addr) = some p11 ∧ ∃ n12 : Int, w10.cell? (p11.add 7) = some (.int .i64 n12) ∧ CallW Try.prog 114 #[.pointer a0, .int .i64 n12] w10 fun v13 w14 => ∃ p15 : Option Addr, v13 = .pointer p15 ∧ BIf (Option.isNone p15) (K (.bool false) w14) (∃ p16 : Addr, (p15 : Option Addr) = some p16 ∧ ∃ n17 : Int, w14.cell? (p16.add 1) = some (.int .i64 n17) ∧ BIf ((n17 : Int) == a2) (K (.bool true) w14) (J3 n17 (IntKind.wrap .i64 (n2 + 1)) w14))))) (K (.bool false) w4)) ((a1 : Int), ((0 : Int), ())) w
theorem eq116 (a0 : Option Addr) (a1 : Int) (a2 : Int) (w : World) (K : Value → World → Prop) : denFn Try.prog tt Try.f116 an116 [.pointer a0, .int .i64 a1, .int .i64 a2] w K = W116 a0 a1 a2 w K := by kernel_rfl
theorem ok116 : OkFn Try.prog 116 := ⟨Try.f116, Try.func116, by kernel_rfl, by kernel_rfl⟩
theorem go116 {a0 : Option Addr} {a1 : Int} {a2 : Int} {w : World} {K : Value → World → Prop} (h : W116 a0 a1 a2 w K) : CallW Try.prog 116 #[.pointer a0, .int .i64 a1, .int .i64 a2] w K :=
  .inl ⟨ok116, denFn_sound tt_ok mix Try.func116 (by kernel_rfl) (eq116 a0 a1 a2 w K ▸ h)⟩

/- (*loop.example/g00008/impl.Sched).first -/
def an117 : Ann := (.seq .leaf (.seq .leaf (.seq .leaf (.seq (.seq .leaf (.in_ (.loop 16387 [(5, .ptr), (6, .int .i64), (15, .int .i64)] (.seq .leaf (.seq (.cond .leaf .leaf) (.seq (.in_ (.seq .leaf (.seq .leaf (.seq (.seq .leaf (.cond .leaf .leaf)) (.seq .leaf (.join 50019 [(53, .bool)] (.draw [0, 1, 3, 7, 7, 31, 63, 127, 255, 255, 1023, 2047, 4095, 8191, 16383, 32767, 4095, 69631, 200703, 462847, 1048575, 2097151, 4194303] [0, 1, 2, 3, 4, 5, 6, 7, 8, 9, 10, 11, 12, 13, 14, 15, 16, 17, 18, 19, 20, 21, 22]) (.cond .leaf .leaf))))))) .leaf)))))) (.seq .leaf .leaf)))))
def W117 (a0 : Option Addr) (a1 : Nat) (a1x a1c : List Value) (w : World) (K : Value → World → Prop) : Prop :=
  ∃ p1 : Addr, (a0 : Option Addr) = some p1 ∧ ∃ l2 : Sl, w.cell? (p1.add 2) = some (.slice l2.a l2.len l2.cap) ∧ LoopW [.ptr, .int .i64, .int .i64] (fun J6 => fun (p3 : Option Addr) (n4 : Int) (n5 : Int) w7 => BIf (decide ((n5 : Int) < ((l2.len : Nat) : Int))) (∃ p8 : Addr, (a0 : Option Addr) = some p8 ∧ ∃ l9 : Sl, w7.cell? (p8.add 2) = some (.slice l9.a l9.len l9.cap) ∧ 0 ≤ (n5 : Int) ∧ (n5 : Int) < ((l9.len : Nat) : Int) ∧ ∃ q10 : Addr, (l9.a : Option Addr) = some q10 ∧ CallW Try.prog a1 ⟨a1x ++ ([.pointer (some (q10.add (Int.toNat n5 * 8)))] ++ a1c)⟩ w7 fun v11 w12 => ∃ b13 : Bool, v11 = .bool b13 ∧ BIf (!b13) (J6 p3 n4 (IntKind.wrap .i64 (n5 + 1)) w12) (CallW Try.prog 161 #[.pointer a0, .pointer (some (q10.add (Int.toNat n5 * 8)))] w12 fun v14 w15 => ∃ n16 : Int, v14 = .int .i64 n16 ∧ JoinW [.bool] (fun J18 => BIf (Option.isNone p3) (J18 true w15.drew) (BIf (decide ((n16 : Int) > n4)) (J18 true w15.drew) (BIf ((n16 : Int) == n4) (∃ p20 : Addr, (some (q10.add (Int.toNat n5 * 8)) : Option Addr) = some p20 ∧ ∃ n21 : Int, w15.drew.cell? (p20.add 3) = some (.int .i64 n21) ∧ ∃ p22 : Addr, (p3 : Option Addr) = some p22 ∧ ∃ n23 : Int, w15.drew.cell? (p22.add 3) = some (.int .i64 n23) ∧ J18 (decide ((n21 : Int) < n23)) w15.drew) (J18 false w15.drew)))) (fun (b17 : Bool) w19 => BIf b17 (J6 (some (q10.add (Int.toNat n5 * 8))) n16 (IntKind.wrap .i64 (n5 + 1)) w19) (J6 p3 n4 (IntKind.wrap .i64 (n5 + 1)) w19)))) (K (.pointer p3) w7)) ((none : Option Addr), ((0 : Int), ((0 : Int), ()))) w
theorem eq117 (a0 : Option Addr) (a1 : Nat) (a1x a1c : List Value) (w : World) (K : Value → World → Prop) : denFn Try.prog tt Try.f117 an117 [.pointer a0, .func (.func a1) ⟨a1x⟩ ⟨a1c⟩] w K = W117 a0 a1 a1x a1c w K := by kernel_rfl
theorem ok117 : OkFn Try.prog 117 := ⟨Try.f117, Try.func117, by kernel_rfl, by kernel_rfl⟩
theorem go117 {a0 : Option Addr} {a1 : Nat} {a1x a1c : List Value} {w : World} {K : Value → World → Prop} (h : W117 a0 a1 a1x a1c w K) : CallW Try.prog 117 #[.pointer a0, .func (.func a1) ⟨a1x⟩ ⟨a1c⟩] w K :=
  .inl ⟨ok117, denFn_sound tt_ok mix Try.func117 (by kernel_rfl) (eq117 a0 a1 a1x a1c w K ▸ h)⟩

/- (*loop.example/g00008/impl.Sched).pick$1 -/
def an118 : Ann := (.seq .leaf (.seq .leaf .leaf))
def W118 (a0 : Option Addr) (w : World) (K : Value → World → Prop) : Prop :=
  ∃ p1 : Addr, (a0 : Option Addr) = some p1 ∧ ∃ n2 : Int, w.cell? (p1.add 2) = some (.int .i64 n2) ∧ K (.bool ((n2 : Int) == 1)) w
theorem eq118 (a0 : Option Addr) (w : World) (K : Value → World → Prop) : denFn Try.prog tt Try.f118 an118 [.pointer a0] w K = W118 a0 w K := by kernel_rfl
theorem ok118 : OkFn Try.prog 118 := ⟨Try.f118, Try.func118, by kernel_rfl, by kernel_rfl⟩
theorem go118 {a0 : Option Addr} {w : World} {K : Value → World → Prop} (h : W118 a0 w K) : CallW Try.prog 118 #[.pointer a0] w K :=
  .inl ⟨ok118, denFn_sound tt_ok mix Try.func118 (by kernel_rfl) (eq118 a0 w K ▸ h)⟩

/- loop.example/g00008/laws.eqThread -/
def an119 : Ann := (.seq .leaf (.seq (.seq .leaf (.cond (.seq .leaf .leaf) .leaf)) (.seq (.seq .leaf (.cond (.seq .leaf .leaf) .leaf)) (.seq (.seq .leaf (.cond (.seq .leaf .leaf) .leaf)) (.seq (.seq .leaf (.cond (.seq .leaf .leaf) .leaf)) (.seq (.seq .leaf (.cond (.seq .leaf .leaf) .leaf)) (.seq (.seq .leaf (.cond (.seq .leaf .leaf) .leaf)) (.seq (.seq .leaf (.cond (.seq .leaf .leaf) .leaf)) (.seq (.seq .leaf (.cond (.seq .leaf .leaf) .leaf)) (.seq .leaf .leaf))))))))))
def W119 (a0_0 : Int) (a0_1 : Int) (a0_2 : Int) (a0_3 : Int) (a0_4 : Int) (a0_5 : Int) (a0_6 : Int) (a0_7 : Int) (a1_0 : Int) (a1_1 : Int) (a1_2 : Int) (a1_3 : Int) (a1_4 : Int) (a1_5 : Int) (a1_6 : Int) (a1_7 : Int) (w : World) (K : Value → World → Prop) : Prop :=
  LetW (w.alloc (.cells #[.int .i64 a0_0, .int .i64 a0_1, .int .i64 a0_2, .int .i64 a0_3, .int .i64 a0_4, .int .i64 a0_5, .int .i64 a0_6, .int .i64 a0_7] 86)) fun w1 => LetW (w1.alloc (.cells #[.int .i64 a1_0, .int .i64 a1_1, .int .i64 a1_2, .int .i64 a1_3, .int .i64 a1_4, .int .i64 a1_5, .int .i64 a1_6, .int .i64 a1_7] 86)) fun w2 => ∃ n3 : Int, w2.cell? ⟨w.heap.size, 0, none⟩ = some (.int .i64 n3) ∧ ∃ n4 : Int, w2.cell? ⟨w1.heap.size, 0, none⟩ = some (.int .i64 n4) ∧ BIf ((n3 : Int) != n4) (K (.bool false) w2) (∃ n5 : Int, w2.cell? ⟨w.heap.size, 1, none⟩ = some (.int .i64 n5) ∧ ∃ n6 : Int, w2.cell? ⟨w1.heap.size, 1, none⟩ = some (.int .i64 n6) ∧ BIf ((n5 : Int) != n6) (K (.bool false) w2) (∃ n7 : Int, w2.cell? ⟨w.heap.size, 2, none⟩ = some (.int .i64 n7) ∧ ∃ n8 : Int, w2.cell? ⟨w1.heap.size, 2, none⟩ = some (.int .i64 n8) ∧ BIf ((n7 : Int) != n8) (K (.bool false) w2) (∃ n9 : Int, w2.cell? ⟨w.heap.size, 3, none⟩ = some (.int .i64 n9) ∧ ∃ n10 : Int, w2.cell? ⟨w1.heap.size, 3, none⟩ = some (.int .i64 n10) ∧ BIf ((n9 : Int) != n10) (K (.bool false) w2) (∃ n11 : Int, w2.cell? ⟨w.heap.size, 4, none⟩ = some (.int .i64 n11) ∧ ∃ n12 : Int, w2.cell? ⟨w1.heap.size, 4, none⟩ = some (.int .i64 n12) ∧ BIf ((n11 : Int) != n12) (K (.bool false) w2) (∃ n13 : Int, w2.cell? ⟨w.heap.size, 5, none⟩ = some (.int .i64 n13) ∧ ∃ n14 : Int, w2.cell? ⟨w1.heap.size, 5, none⟩ = some (.int .i64 n14) ∧ BIf ((n13 : Int) != n14) (K (.bool false) w2) (∃ n15 : Int, w2.cell? ⟨w.heap.size, 6, none⟩ = some (.int .i64 n15) ∧ ∃ n16 : Int, w2.cell? ⟨w1.heap.size, 6, none⟩ = some (.int .i64 n16) ∧ BIf ((n15 : Int) != n16) (K (.bool false) w2) (∃ n17 : Int, w2.cell? ⟨w.heap.size, 7, none⟩ = some (.int .i64 n17) ∧ ∃ n18 : Int, w2.cell? ⟨w1.heap.size, 7, none⟩ = some (.int .i64 n18) ∧ BIf ((n17 : Int) != n18) (K (.bool false) w2) (K (.bool true) w2))))))))
theorem eq119 (a0_0 : Int) (a0_1 : Int) (a0_2 : Int) (a0_3 : Int) (a0_4 : Int) (a0_5 : Int) (a0_6 : Int) (a0_7 : Int) (a1_0 : Int) (a1_1 : Int) (a1_2 : Int) (a1_3 : Int) (a1_4 : Int) (a1_5 : Int) (a1_6 : Int) (a1_7 : Int) (w : World) (K : Value → World → Prop) : denFn Try.prog tt Try.f119 an119 [.agg #[.int .i64 a0_0, .int .i64 a0_1, .int .i64 a0_2, .int .i64 a0_3, .int .i64 a0_4, .int .i64 a0_5, .int .i64 a0_6, .int .i64 a0_7], .agg #[.int .i64 a1_0, .int .i64 a1_1, .int .i64 a1_2, .int .i64 a1_3, .int .i64 a1_4, .int .i64 a1_5, .int .i64 a1_6, .int .i64 a1_7]] w K = W119 a0_0 a0_1 a0_2 a0_3 a0_4 a0_5 a0_6 a0_7 a1_0 a1_1 a1_2 a1_3 a1_4 a1_5 a1_6 a1_7 w K := by kernel_rfl
theorem ok119 : OkFn Try.prog 119 := ⟨Try.f119, Try.func119, by kernel_rfl, by kernel_rfl⟩
theorem go119 {a0_0 : Int} {a0_1 : Int} {a0_2 : Int} {a0_3 : Int} {a0_4 : Int} {a0_5 : Int} {a0_6 : Int} {a0_7 : Int} {a1_0 : Int} {a1_1 : Int} {a1_2 : Int} {a1_3 : Int} {a1_4 : Int} {a1_5 : Int} {a1_6 : Int} {a1_7 : Int} {w : World} {K : Value → World → Prop} (h : W119 a0_0 a0_1 a0_2 a0_3 a0_4 a0_5 a0_6 a0_7 a1_0 a1_1 a1_2 a1_3 a1_4 a1_5 a1_6 a1_7 w K) : CallW Try.prog 119 #[.agg #[.int .i64 a0_0, .int .i64 a0_1, .int .i64 a0_2, .int .i64 a0_3, .int .i64 a0_4, .int .i64 a0_5, .int .i64 a0_6, .int .i64 a0_7], .agg #[.int .i64 a1_0, .int .i64 a1_1, .int .i64 a1_2, .int .i64 a1_3, .int .i64 a1_4, .int .i64 a1_5, .int .i64 a1_6, .int .i64 a1_7]] w K :=
  .inl ⟨ok119, denFn_sound tt_ok mix Try.func119 (by kernel_rfl) (eq119 a0_0 a0_1 a0_2 a0_3 a0_4 a0_5 a0_6 a0_7 a1_0 a1_1 a1_2 a1_3 a1_4 a1_5 a1_6 a1_7 w K ▸ h)⟩

/- loop.example/g00008/laws.eqLock -/
def an120 : Ann := (.seq .leaf (.seq (.seq .leaf (.cond (.seq .leaf .leaf) .leaf)) (.seq (.seq .leaf (.cond (.seq .leaf .leaf) .leaf)) (.seq .leaf .leaf))))
def W120 (a0_0 : Int) (a0_1 : Int) (a1_0 : Int) (a1_1 : Int) (w : World) (K : Value → World → Prop) : Prop :=
  LetW (w.alloc (.cells #[.int .i64 a0_0, .int .i64 a0_1] 149)) fun w1 => LetW (w1.alloc (.cells #[.int .i64 a1_0, .int .i64 a1_1] 149)) fun w2 => ∃ n3 : Int, w2.cell? ⟨w.heap.size, 0, none⟩ = some (.int .i64 n3) ∧ ∃ n4 : Int, w2.cell? ⟨w1.heap.size, 0, none⟩ = some (.int .i64 n4) ∧ BIf ((n3 : Int) != n4) (K (.bool false) w2) (∃ n5 : Int, w2.cell? ⟨w.heap.size, 1, none⟩ = some (.int .i64 n5) ∧ ∃ n6 : Int, w2.cell? ⟨w1.heap.size, 1, none⟩ = some (.int .i64 n6) ∧ BIf ((n5 : Int) != n6) (K (.bool false) w2) (K (.bool true) w2))
theorem eq120 (a0_0 : Int) (a0_1 : Int) (a1_0 : Int) (a1_1 : Int) (w : World) (K : Value → World → Prop) : denFn Try.prog tt Try.f120 an120 [.agg #[.int .i64 a0_0, .int .i64 a0_1], .agg #[.int .i64 a1_0, .int .i64 a1_1]] w K = W120 a0_0 a0_1 a1_0 a1_1 w K := by kernel_rfl
theorem ok120 : OkFn Try.prog 120 := ⟨Try.f120, Try.func120, by kernel_rfl, by kernel_rfl⟩
theorem go120 {a0_0 : Int} {a0_1 : Int} {a1_0 : Int} {a1_1 : Int} {w : World} {K : Value → World → Prop} (h : W120 a0_0 a0_1 a1_0 a1_1 w K) : CallW Try.prog 120 #[.agg #[.int .i64 a0_0, .int .i64 a0_1], .agg #[.int .i64 a1_0, .int .i64 a1_1]] w K :=
  .inl ⟨ok120, denFn_sound tt_ok mix Try.func120 (by kernel_rfl) (eq120 a0_0 a0_1 a1_0 a1_1 w K ▸ h)⟩

/- loop.example/g00008/spec.l11Lock -/
def an158 : Ann := (.seq .leaf (.seq (.seq .leaf (.in_ (.loop 6 [(5, .int .i64)] (.seq (.seq .leaf (.cond .leaf .leaf)) (.seq (.in_ (.seq .leaf (.cond (.seq .leaf .leaf) .leaf))) .leaf))))) (.seq .leaf .leaf)))
def W158 (a0_0 : Int) (a0_1 : Int) (a0_2 : Sl) (a0_3 : Sl) (a1 : Int) (w : World) (K : Value → World → Prop) : Prop :=
  LetW (w.alloc (.cells #[.int .i64 a0_0, .int .i64 a0_1, .slice a0_2.a a0_2.len a0_2.cap, .slice a0_3.a a0_3.len a0_3.cap] 31)) fun w1 => LoopW [.int .i64] (fun J3 => fun (n2 : Int) w4 => ∃ l5 : Sl, w4.cell? ⟨w.heap.size, 3, none⟩ = some (.slice l5.a l5.len l5.cap) ∧ BIf (decide ((n2 : Int) < ((l5.len : Nat) : Int))) (∃ l6 : Sl, w4.cell? ⟨w.heap.size, 3, none⟩ = some (.slice l6.a l6.len l6.cap) ∧ 0 ≤ (n2 : Int) ∧ (n2 : Int) < ((l6.len : Nat) : Int) ∧ ∃ q7 : Addr, (l6.a : Option Addr) = some q7 ∧ ∃ n8 : Int, w4.cell? ((q7.add (Int.toNat n2 * 2)).add 0) = some (.int .i64 n8) ∧ BIf ((n8 : Int) == a1) (K (.int .i64 n2) w4) (J3 (IntKind.wrap .i64 (n2 + 1)) w4)) (K (.int .i64 (-1)) w4)) ((0 : Int), ()) w1
theorem eq158 (a0_0 : Int) (a0_1 : Int) (a0_2 : Sl) (a0_3 : Sl) (a1 : Int) (w : World) (K : Value → World → Prop) : denFn Try.prog tt Try.f158 an158 [.agg #[.int .i64 a0_0, .int .i64 a0_1, .slice a0_2.a a0_2.len a0_2.cap, .slice a0_3.a a0_3.len a0_3.cap], .int .i64 a1] w K = W158 a0_0 a0_1 a0_2 a0_3 a1 w K := by kernel_rfl
theorem ok158 : OkFn Try.prog 158 := ⟨Try.f158, Try.func158, by kernel_rfl, by kernel_rfl⟩
theorem go158 {a0_0 : Int} {a0_1 : Int} {a0_2 : Sl} {a0_3 : Sl} {a1 : Int} {w : World} {K : Value → World → Prop} (h : W158 a0_0 a0_1 a0_2 a0_3 a1 w K) : CallW Try.prog 158 #[.agg #[.int .i64 a0_0, .int .i64 a0_1, .slice a0_2.a a0_2.len a0_2.cap, .slice a0_3.a a0_3.len a0_3.cap], .int .i64 a1] w K :=
  .inl ⟨ok158, denFn_sound tt_ok mix Try.func158 (by kernel_rfl) (eq158 a0_0 a0_1 a0_2 a0_3 a1 w K ▸ h)⟩

/- loop.example/g00008/spec.l11Next -/
def an159 : Ann := (.seq .leaf (.seq .leaf (.seq (.seq (.reg [(3, none), (8, some (36, [(20, .bool)]))]) (.cond (.seq .leaf .leaf) .leaf)) (.seq (.draw [0, 0, 2, 0, 14, 30, 62, 127, 255] [0, 1, 2, 3, 4, 5, 6, 7, 8]) (.seq (.seq .leaf (.cond (.seq .leaf .leaf) .leaf)) (.seq .leaf .leaf))))))
def W159 (a0_0 : Int) (a0_1 : Int) (a0_2 : Sl) (a0_3 : Sl) (a1 : Int) (w : World) (K : Value → World → Prop) : Prop :=
  LetW (w.alloc (.cells #[.int .i64 a0_0, .int .i64 a0_1, .slice a0_2.a a0_2.len a0_2.cap, .slice a0_3.a a0_3.len a0_3.cap] 31)) fun w1 => ∃ n2 : Int, w1.cell? ⟨w.heap.size, 0, none⟩ = some (.int .i64 n2) ∧ ∃ n3 : Int, w1.cell? ⟨w.heap.size, 1, none⟩ = some (.int .i64 n3) ∧ ∃ l4 : Sl, w1.cell? ⟨w.heap.size, 2, none⟩ = some (.slice l4.a l4.len l4.cap) ∧ ∃ l5 : Sl, w1.cell? ⟨w.heap.size, 3, none⟩ = some (.slice l5.a l5.len l5.cap) ∧ CallW Try.prog 108 #[.agg #[.int .i64 n2, .int .i64 n3, .slice l4.a l4.len l4.cap, .slice l5.a l5.len l5.cap], .int .i64 a1] w1 fun v6 w7 => ∃ n8 : Int, v6 = .int .i64 n8 ∧ JoinW [.bool] (fun J10 => BIf (decide ((n8 : Int) < 0)) (J10 true w7) (∃ l25 : Sl, w7.cell? ⟨w.heap.size, 2, none⟩ = some (.slice l25.a l25.len l25.cap) ∧ 0 ≤ (n8 : Int) ∧ (n8 : Int) < ((l25.len : Nat) : Int) ∧ ∃ q26 : Addr, (l25.a : Option Addr) = some q26 ∧ ∃ n27 : Int, w7.cell? ((q26.add (Int.toNat n8 * 8)).add 2) = some (.int .i64 n27) ∧ J10 ((n27 : Int) != 2) w7)) (fun (b9 : Bool) w11 => BIf b9 (K (.int .i64 (-1)) w11) (∃ n12 : Int, w11.drew.cell? ⟨w.heap.size, 0, none⟩ = some (.int .i64 n12) ∧ ∃ n13 : Int, w11.drew.cell? ⟨w.heap.size, 1, none⟩ = some (.int .i64 n13) ∧ ∃ l14 : Sl, w11.drew.cell? ⟨w.heap.size, 2, none⟩ = some (.slice l14.a l14.len l14.cap) ∧ ∃ l15 : Sl, w11.drew.cell? ⟨w.heap.size, 3, none⟩ = some (.slice l15.a l15.len l15.cap) ∧ ∃ l16 : Sl, w11.drew.cell? ⟨w.heap.size, 2, none⟩ = some (.slice l16.a l16.len l16.cap) ∧ 0 ≤ (n8 : Int) ∧ (n8 : Int) < ((l16.len : Nat) : Int) ∧ ∃ q17 : Addr, (l16.a : Option Addr) = some q17 ∧ ∃ n18 : Int, w11.drew.cell? ((q17.add (Int.toNat n8 * 8)).add 7) = some (.int .i64 n18) ∧ CallW Try.prog 158 #[.agg #[.int .i64 n12, .int .i64 n13, .slice l14.a l14.len l14.cap, .slice l15.a l15.len l15.cap], .int .i64 n18] w11.drew fun v19 w20 => ∃ n21 : Int, v19 = .int .i64 n21 ∧ BIf (decide ((n21 : Int) < 0)) (K (.int .i64 (-1)) w20) (∃ l22 : Sl, w20.cell? ⟨w.heap.size, 3, none⟩ = some (.slice l22.a l22.len l22.cap) ∧ 0 ≤ (n21 : Int) ∧ (n21 : Int) < ((l22.len : Nat) : Int) ∧ ∃ q23 : Addr, (l22.a : Option Addr) = some q23 ∧ ∃ n24 : Int, w20.cell? ((q23.add (Int.toNat n21 * 2)).add 1) = some (.int .i64 n24) ∧ K (.int .i64 n24) w20)))
theorem eq159 (a0_0 : Int) (a0_1 : Int) (a0_2 : Sl) (a0_3 : Sl) (a1 : Int) (w : World) (K : Value → World → Prop) : denFn Try.prog tt Try.f159 an159 [.agg #[.int .i64 a0_0, .int .i64 a0_1, .slice a0_2.a a0_2.len a0_2.cap, .slice a0_3.a a0_3.len a0_3.cap], .int .i64 a1] w K = W159 a0_0 a0_1 a0_2 a0_3 a1 w K := by kernel_rfl
theorem ok159 : OkFn Try.prog 159 := ⟨Try.f159, Try.func159, by kernel_rfl, by kernel_rfl⟩
theorem go159 {a0_0 : Int} {a0_1 : Int} {a0_2 : Sl} {a0_3 : Sl} {a1 : Int} {w : World} {K : Value → World → Prop} (h : W159 a0_0 a0_1 a0_2 a0_3 a1 w K) : CallW Try.prog 159 #[.agg #[.int .i64 a0_0, .int .i64 a0_1, .slice a0_2.a a0_2.len a0_2.cap, .slice a0_3.a a0_3.len a0_3.cap], .int .i64 a1] w K :=
  .inl ⟨ok159, denFn_sound tt_ok mix Try.func159 (by kernel_rfl) (eq159 a0_0 a0_1 a0_2 a0_3 a1 w K ▸ h)⟩

/- loop.example/g00008/spec.l11Own -/
def an160 : Ann := (.seq .leaf (.seq .leaf (.join 0 [(5, .int .i64)] (.seq .leaf (.cond .leaf .leaf)) (.seq (.seq .leaf (.cond (.seq .leaf .leaf) .leaf)) (.seq .leaf .leaf)))))
def W160 (a0_0 : Int) (a0_1 : Int) (a0_2 : Sl) (a0_3 : Sl) (a1_0 : Int) (a1_1 : Int) (a1_2 : Int) (a1_3 : Int) (a1_4 : Int) (a1_5 : Int) (a1_6 : Int) (a1_7 : Int) (w : World) (K : Value → World → Prop) : Prop :=
  LetW (w.alloc (.cells #[.int .i64 a0_0, .int .i64 a0_1, .slice a0_2.a a0_2.len a0_2.cap, .slice a0_3.a a0_3.len a0_3.cap] 31)) fun w1 => LetW (w1.alloc (.cells #[.int .i64 a1_0, .int .i64 a1_1, .int .i64 a1_2, .int .i64 a1_3, .int .i64 a1_4, .int .i64 a1_5, .int .i64 a1_6, .int .i64 a1_7] 86)) fun w2 => ∃ n3 : Int, w2.cell? ⟨w1.heap.size, 1, none⟩ = some (.int .i64 n3) ∧ JoinW [.int .i64] (fun J5 => ∃ n7 : Int, w2.cell? ⟨w1.heap.size, 2, none⟩ = some (.int .i64 n7) ∧ BIf ((n7 : Int) == 1) (∃ n8 : Int, w2.cell? ⟨w.heap.size, 0, none⟩ = some (.int .i64 n8) ∧ ∃ n9 : Int, w2.cell? ⟨w1.heap.size, 5, none⟩ = some (.int .i64 n9) ∧ (16 : Int) ≠ 0 ∧ J5 (IntKind.wrap .i64 (n3 + (IntKind.wrap .i64 (Int.tdiv (IntKind.wrap .i64 (n8 - n9)) 16)))) w2) (J5 n3 w2)) (fun (n4 : Int) w6 => BIf (decide ((n4 : Int) > 7)) (K (.int .i64 7) w6) (K (.int .i64 n4) w6))
theorem eq160 (a0_0 : Int) (a0_1 : Int) (a0_2 : Sl) (a0_3 : Sl) (a1_0 : Int) (a1_1 : Int) (a1_2 : Int) (a1_3 : Int) (a1_4 : Int) (a1_5 : Int) (a1_6 : Int) (a1_7 : Int) (w : World) (K : Value → World → Prop) : denFn Try.prog tt Try.f160 an160 [.agg #[.int .i64 a0_0, .int .i64 a0_1, .slice a0_2.a a0_2.len a0_2.cap, .slice a0_3.a a0_3.len a0_3.cap], .agg #[.int .i64 a1_0, .int .i64 a1_1, .int .i64 a1_2, .int .i64 a1_3, .int .i64 a1_4, .int .i64 a1_5, .int .i64 a1_6, .int .i64 a1_7]] w K = W160 a0_0 a0_1 a0_2 a0_3 a1_0 a1_1 a1_2 a1_3 a1_4 a1_5 a1_6 a1_7 w K := by kernel_rfl
theorem ok160 : OkFn Try.prog 160 := ⟨Try.f160, Try.func160, by kernel_rfl, by kernel_rfl⟩
theorem go160 {a0_0 : Int} {a0_1 : Int} {a0_2 : Sl} {a0_3 : Sl} {a1_0 : Int} {a1_1 : Int} {a1_2 : Int} {a1_3 : Int} {a1_4 : Int} {a1_5 : Int} {a1_6 : Int} {a1_7 : Int} {w : World} {K : Value → World → Prop} (h : W160 a0_0 a0_1 a0_2 a0_3 a1_0 a1_1 a1_2 a1_3 a1_4 a1_5 a1_6 a1_7 w K) : CallW Try.prog 160 #[.agg #[.int .i64 a0_0, .int .i64 a0_1, .slice a0_2.a a0_2.len a0_2.cap, .slice a0_3.a a0_3.len a0_3.cap], .agg #[.int .i64 a1_0, .int .i64 a1_1, .int .i64 a1_2, .int .i64 a1_3, .int .i64 a1_4, .int .i64 a1_5, .int .i64 a1_6, .int .i64 a1_7]] w K :=
  .inl ⟨ok160, denFn_sound tt_ok mix Try.func160 (by kernel_rfl) (eq160 a0_0 a0_1 a0_2 a0_3 a1_0 a1_1 a1_2 a1_3 a1_4 a1_5 a1_6 a1_7 w K ▸ h)⟩

/- (*loop.example/g00008/impl.Sched).prio -/
def an161 : Ann := (.seq .leaf (.seq .leaf (.join 3 [(5, .int .i64)] (.seq .leaf (.cond (.draw [0, 0, 2, 6, 14, 0, 32, 96, 224, 510, 1022, 2047, 4095, 8191] [0, 1, 2, 3, 4, 5, 6, 7, 8, 9, 10, 11, 12, 13]) .leaf)) (.seq (.seq .leaf (.in_ (.loop 103079215107 [(5, .int .i64), (37, .int .i64)] (.seq .leaf (.seq (.cond .leaf .leaf) (.seq (.in_ (.seq .leaf (.seq (.seq (.draw [0, 1, 0, 4, 12, 28, 63] [0, 1, 2, 3, 4, 5, 6]) (.cond .leaf .leaf)) (.seq .leaf (.in_ (.loop 4503840145539203 [(5, .int .i64), (53, .int .i64)] (.seq .leaf (.seq (.cond .leaf .leaf) (.seq (.in_ (.seq .leaf (.seq .leaf (.join 13511039400280739 [(75, .bool)] (.draw [0, 1, 3, 7, 15, 31, 63, 127, 255, 511, 63, 1087, 4095, 8191] [0, 1, 2, 3, 4, 5, 6, 7, 8, 9, 10, 11, 12, 13]) (.cond .leaf .leaf))))) .leaf))))))))) .leaf)))))) (.seq .leaf .leaf)))))
def W161 (a0 : Option Addr) (a1 : Option Addr) (w : World) (K : Value → World → Prop) : Prop :=
  ∃ p1 : Addr, (a1 : Option Addr) = some p1 ∧ ∃ n2 : Int, w.cell? (p1.add 1) = some (.int .i64 n2) ∧ JoinW [.int .i64] (fun J4 => ∃ p40 : Addr, (a1 : Option Addr) = some p40 ∧ ∃ n41 : Int, w.cell? (p40.add 2) = some (.int .i64 n41) ∧ BIf ((n41 : Int) == 1) (∃ p42 : Addr, (a0 : Option Addr) = some p42 ∧ ∃ n43 : Int, w.drew.cell? (p42.add 0) = some (.int .i64 n43) ∧ ∃ p44 : Addr, (a1 : Option Addr) = some p44 ∧ ∃ n45 : Int, w.drew.cell? (p44.add 5) = some (.int .i64 n45) ∧ (16 : Int) ≠ 0 ∧ J4 (minI 7 (IntKind.wrap .i64 (n2 + (IntKind.wrap .i64 (Int.tdiv (IntKind.wrap .i64 (n43 - n45)) 16))))) w.drew) (J4 n2 w)) (fun (n3 : Int) w5 => ∃ p6 : Addr, (a0 : Option Addr) = some p6 ∧ ∃ l7 : Sl, w5.cell? (p6.add 3) = some (.slice l7.a l7.len l7.cap) ∧ LoopW [.int .i64, .int .i64] (fun J10 => fun (n8 : Int) (n9 : Int) w11 => BIf (decide ((n9 : Int) < ((l7.len : Nat) : Int))) (0 ≤ (n9 : Int) ∧ (n9 : Int) < ((l7.len : Nat) : Int) ∧ ∃ q12 : Addr, (l7.a : Option Addr) = some q12 ∧ ∃ n13 : Int, w11.cell? ((q12.add (Int.toNat n9 * 2)).add 0) = some (.int .i64 n13) ∧ ∃ n14 : Int, w11.cell? ((q12.add (Int.toNat n9 * 2)).add 1) = some (.int .i64 n14) ∧ LetW (w11.alloc (.cells #[.int .i64 0, .int .i64 0] 149)) fun w15 => MayN w15 ⟨w11.heap.size, 0, none⟩ 2 ∧ LetW (puts w15 ⟨w11.heap.size, 0, none⟩ 0 [.int .i64 n13, .int .i64 n14]) fun w16 => ∃ n17 : Int, w16.drew.cell? ⟨w11.heap.size, 1, none⟩ = some (.int .i64 n17) ∧ ∃ p18 : Addr, (a1 : Option Addr) = some p18 ∧ ∃ n19 : Int, w16.drew.cell? (p18.add 0) = some (.int .i64 n19) ∧ BIf ((n17 : Int) != n19) (J10 n8 (IntKind.wrap .i64 (n9 + 1)) w16.drew) (∃ p20 : Addr, (a0 : Option Addr) = some p20 ∧ ∃ l21 : Sl, w16.drew.cell? (p20.add 2) = some (.slice l21.a l21.len l21.cap) ∧ LoopW [.int .i64, .int .i64] (fun J24 => fun (n22 : Int) (n23 : Int) w25 => BIf (decide ((n23 : Int) < ((l21.len : Nat) : Int))) (∃ p26 : Addr, (a0 : Option Addr) = some p26 ∧ ∃ l27 : Sl, w25.cell? (p26.add 2) = some (.slice l27.a l27.len l27.cap) ∧ 0 ≤ (n23 : Int) ∧ (n23 : Int) < ((l27.len : Nat) : Int) ∧ ∃ q28 : Addr, (l27.a : Option Addr) = some q28 ∧ JoinW [.bool] (fun J30 => ∃ p35 : Addr, (some (q28.add (Int.toNat n23 * 8)) : Option Addr) = some p35 ∧ ∃ n36 : Int, w25.drew.cell? (p35.add 2) = some (.int .i64 n36) ∧ BIf ((n36 : Int) == 2) (∃ p37 : Addr, (some (q28.add (Int.toNat n23 * 8)) : Option Addr) = some p37 ∧ ∃ n38 : Int, w25.drew.cell? (p37.add 7) = some (.int .i64 n38) ∧ ∃ n39 : Int, w25.drew.cell? ⟨w11.heap.size, 0, none⟩ = some (.int .i64 n39) ∧ J30 ((n38 : Int) == n39) w25.drew) (J30 false w25.drew)) (fun (b29 : Bool) w31 => BIf b29 (CallW Try.prog 161 #[.pointer a0, .pointer (some (q28.add (Int.toNat n23 * 8)))] w31 fun v32 w33 => ∃ n34 : Int, v32 = .int .i64 n34 ∧ J24 (maxI n22 n34) (IntKind.wrap .i64 (n23 + 1)) w33) (J24 n22 (IntKind.wrap .i64 (n23 + 1)) w31))) (J10 n22 (IntKind.wrap .i64 (n9 + 1)) w25)) ((n8 : Int), ((0 : Int), ())) w16.drew)) (K (.int .i64 n8) w11)) ((n3 : Int), ((0 : Int), ())) w5)
theorem eq161 (a0 : Option Addr) (a1 : Option Addr) (w : World) (K : Value → World → Prop) : denFn Try.prog tt Try.f161 an161 [.pointer a0, .pointer a1] w K = W161 a0 a1 w K := by kernel_rfl
theorem ok161 : OkFn Try.prog 161 := ⟨Try.f161, Try.func161, by kernel_rfl, by kernel_rfl⟩
theorem go161 {a0 : Option Addr} {a1 : Option Addr} {w : World} {K : Value → World → Prop} (h : W161 a0 a1 w K) : CallW Try.prog 161 #[.pointer a0, .pointer a1] w K :=
  .inl ⟨ok161, denFn_sound tt_ok mix Try.func161 (by kernel_rfl) (eq161 a0 a1 w K ▸ h)⟩

end Go.Proofs.Ytenhcpjlkmbedaa

/- The types of the laws' parameters, as values of Lean's. Conditions: none. -/
set_option linter.unusedVariables false
set_option maxRecDepth 100000
namespace Go.Proofs.Ytenhcpjlkmbedaa
open Go Go.Den
theorem o2 : Opens Try.prog 2 (cInt .i64) := opens_int Try.underlying2
structure DThread where
  Id : Int
  Base : Int
  State : Int
  Line : Int
  Left : Int
  Since : Int
  Until : Int
  Wait : Int
def cDThread : Cod DThread := cMap (cPair (cInt .i64) (cPair (cInt .i64) (cPair (cInt .i64) (cPair (cInt .i64) (cPair (cInt .i64) (cPair (cInt .i64) (cPair (cInt .i64) (cPair (cInt .i64) cUnit)))))))) (fun x => ⟨x.1, x.2.1, x.2.2.1, x.2.2.2.1, x.2.2.2.2.1, x.2.2.2.2.2.1, x.2.2.2.2.2.2.1, x.2.2.2.2.2.2.2.1⟩)
abbrev TyThread : Ty := .st [(.int .i64), (.int .i64), (.int .i64), (.int .i64), (.int .i64), (.int .i64), (.int .i64), (.int .i64)]
def DThread.dat (x : DThread) : Dat := .st [.int .i64 x.Id, .int .i64 x.Base, .int .i64 x.State, .int .i64 x.Line, .int .i64 x.Left, .int .i64 x.Since, .int .i64 x.Until, .int .i64 x.Wait]
theorem cDThread_dat {w : World} {cs : List Value} {x : DThread} (h : cDThread.is w cs x) : IsD w x.dat cs := by
  obtain ⟨y, rfl, ⟨a0, b0, rfl, _, h0, ⟨a1, b1, rfl, _, h1, ⟨a2, b2, rfl, _, h2, ⟨a3, b3, rfl, _, h3, ⟨a4, b4, rfl, _, h4, ⟨a5, b5, rfl, _, h5, ⟨a6, b6, rfl, _, h6, ⟨a7, b7, rfl, _, h7, z⟩⟩⟩⟩⟩⟩⟩⟩⟩ := h
  exact isD_mkSt (isF_mk (isD_mkInt h0) (isF_mk (isD_mkInt h1) (isF_mk (isD_mkInt h2) (isF_mk (isD_mkInt h3) (isF_mk (isD_mkInt h4) (isF_mk (isD_mkInt h5) (isF_mk (isD_mkInt h6) (isF_mk (isD_mkInt h7) (isF_mk0 z)))))))))
theorem DThread.has (x : DThread) : Has TyThread x.dat := mk_st (mkF_cons (mk_int) (mkF_cons (mk_int) (mkF_cons (mk_int) (mkF_cons (mk_int) (mkF_cons (mk_int) (mkF_cons (mk_int) (mkF_cons (mk_int) (mkF_cons (mk_int) (mkF_nil)))))))))
theorem DThread.is_cells {w : World} {cs : List Value} {x : DThread} (h : IsD w x.dat cs) : cs = [.int .i64 x.Id, .int .i64 x.Base, .int .i64 x.State, .int .i64 x.Line, .int .i64 x.Left, .int .i64 x.Since, .int .i64 x.Until, .int .i64 x.Wait] := by
  have q := isD_st h
  obtain ⟨_, _, rfl, i0, q⟩ := isF_cons q
  obtain ⟨_, _, rfl, i1, q⟩ := isF_cons q
  obtain ⟨_, _, rfl, i2, q⟩ := isF_cons q
  obtain ⟨_, _, rfl, i3, q⟩ := isF_cons q
  obtain ⟨_, _, rfl, i4, q⟩ := isF_cons q
  obtain ⟨_, _, rfl, i5, q⟩ := isF_cons q
  obtain ⟨_, _, rfl, i6, q⟩ := isF_cons q
  obtain ⟨_, _, rfl, i7, q⟩ := isF_cons q
  obtain rfl := isF_nil q
  obtain ⟨rfl, _⟩ := isD_int i0
  obtain ⟨rfl, _⟩ := isD_int i1
  obtain ⟨rfl, _⟩ := isD_int i2
  obtain ⟨rfl, _⟩ := isD_int i3
  obtain ⟨rfl, _⟩ := isD_int i4
  obtain ⟨rfl, _⟩ := isD_int i5
  obtain ⟨rfl, _⟩ := isD_int i6
  obtain ⟨rfl, _⟩ := isD_int i7
  rfl
def DThread.cells (x : DThread) : List Value := [.int .i64 x.Id, .int .i64 x.Base, .int .i64 x.State, .int .i64 x.Line, .int .i64 x.Left, .int .i64 x.Since, .int .i64 x.Until, .int .i64 x.Wait]
def DThread.wf (x : DThread) : Prop := (Lit.int .i64 x.Id).wf = true ∧ (Lit.int .i64 x.Base).wf = true ∧ (Lit.int .i64 x.State).wf = true ∧ (Lit.int .i64 x.Line).wf = true ∧ (Lit.int .i64 x.Left).wf = true ∧ (Lit.int .i64 x.Since).wf = true ∧ (Lit.int .i64 x.Until).wf = true ∧ (Lit.int .i64 x.Wait).wf = true
theorem cDThread_is {w : World} {cs : List Value} {x : DThread} (h : cDThread.is w cs x) : cs = x.cells ∧ x.wf := by
  obtain ⟨y, rfl, ⟨a0, b0, e0, _, ⟨f0, g0⟩, ⟨a1, b1, e1, _, ⟨f1, g1⟩, ⟨a2, b2, e2, _, ⟨f2, g2⟩, ⟨a3, b3, e3, _, ⟨f3, g3⟩, ⟨a4, b4, e4, _, ⟨f4, g4⟩, ⟨a5, b5, e5, _, ⟨f5, g5⟩, ⟨a6, b6, e6, _, ⟨f6, g6⟩, ⟨a7, b7, e7, _, ⟨f7, g7⟩, z⟩⟩⟩⟩⟩⟩⟩⟩⟩ := h
  have z : b7 = [] := z
  subst z e7 e6 e5 e4 e3 e2 e1 e0
  exact ⟨by rw [f0, f1, f2, f3, f4, f5, f6, f7]; rfl, g0, g1, g2, g3, g4, g5, g6, g7⟩
theorem o155 : Opens Try.prog 155 cDThread := opens_map _ (opens_struct Try.underlying155 (by kernel_rfl) (opensF_cons rfl (by kernel_rfl) o2 (opensF_cons rfl (by kernel_rfl) o2 (opensF_cons rfl (by kernel_rfl) o2 (opensF_cons rfl (by kernel_rfl) o2 (opensF_cons rfl (by kernel_rfl) o2 (opensF_cons rfl (by kernel_rfl) o2 (opensF_cons rfl (by kernel_rfl) o2 (opensF_cons rfl (by kernel_rfl) o2 opensF_nil)))))))))
theorem o22 : Opens Try.prog 22 (cSlice cDThread) := opens_slice Try.underlying22 (by kernel_rfl) o155
structure DLock where
  Id : Int
  Owner : Int
def cDLock : Cod DLock := cMap (cPair (cInt .i64) (cPair (cInt .i64) cUnit)) (fun x => ⟨x.1, x.2.1⟩)
abbrev TyLock : Ty := .st [(.int .i64), (.int .i64)]
def DLock.dat (x : DLock) : Dat := .st [.int .i64 x.Id, .int .i64 x.Owner]
theorem cDLock_dat {w : World} {cs : List Value} {x : DLock} (h : cDLock.is w cs x) : IsD w x.dat cs := by
  obtain ⟨y, rfl, ⟨a0, b0, rfl, _, h0, ⟨a1, b1, rfl, _, h1, z⟩⟩⟩ := h
  exact isD_mkSt (isF_mk (isD_mkInt h0) (isF_mk (isD_mkInt h1) (isF_mk0 z)))
theorem DLock.has (x : DLock) : Has TyLock x.dat := mk_st (mkF_cons (mk_int) (mkF_cons (mk_int) (mkF_nil)))
theorem DLock.is_cells {w : World} {cs : List Value} {x : DLock} (h : IsD w x.dat cs) : cs = [.int .i64 x.Id, .int .i64 x.Owner] := by
  have q := isD_st h
  obtain ⟨_, _, rfl, i0, q⟩ := isF_cons q
  obtain ⟨_, _, rfl, i1, q⟩ := isF_cons q
  obtain rfl := isF_nil q
  obtain ⟨rfl, _⟩ := isD_int i0
  obtain ⟨rfl, _⟩ := isD_int i1
  rfl
def DLock.cells (x : DLock) : List Value := [.int .i64 x.Id, .int .i64 x.Owner]
def DLock.wf (x : DLock) : Prop := (Lit.int .i64 x.Id).wf = true ∧ (Lit.int .i64 x.Owner).wf = true
theorem cDLock_is {w : World} {cs : List Value} {x : DLock} (h : cDLock.is w cs x) : cs = x.cells ∧ x.wf := by
  obtain ⟨y, rfl, ⟨a0, b0, e0, _, ⟨f0, g0⟩, ⟨a1, b1, e1, _, ⟨f1, g1⟩, z⟩⟩⟩ := h
  have z : b1 = [] := z
  subst z e1 e0
  exact ⟨by rw [f0, f1]; rfl, g0, g1⟩
theorem o157 : Opens Try.prog 157 cDLock := opens_map _ (opens_struct Try.underlying157 (by kernel_rfl) (opensF_cons rfl (by kernel_rfl) o2 (opensF_cons rfl (by kernel_rfl) o2 opensF_nil)))
theorem o23 : Opens Try.prog 23 (cSlice cDLock) := opens_slice Try.underlying23 (by kernel_rfl) o157
structure DSched where
  Now : Int
  Seq : Int
  Threads : List DThread
  Locks : List DLock
def cDSched : Cod DSched := cMap (cPair (cInt .i64) (cPair (cInt .i64) (cPair (cSlice cDThread) (cPair (cSlice cDLock) cUnit)))) (fun x => ⟨x.1, x.2.1, x.2.2.1, x.2.2.2.1⟩)
abbrev TySched : Ty := .st [(.int .i64), (.int .i64), (.sl 8 TyThread), (.sl 2 TyLock)]
def DSched.dat (x : DSched) : Dat := .st [.int .i64 x.Now, .int .i64 x.Seq, .sl 8 (x.Threads.map (DThread.dat)), .sl 2 (x.Locks.map (DLock.dat))]
theorem cDSched_dat {w : World} {cs : List Value} {x : DSched} (h : cDSched.is w cs x) : IsD w x.dat cs := by
  obtain ⟨y, rfl, ⟨a0, b0, rfl, _, h0, ⟨a1, b1, rfl, _, h1, ⟨a2, b2, rfl, _, h2, ⟨a3, b3, rfl, _, h3, z⟩⟩⟩⟩⟩ := h
  exact isD_mkSt (isF_mk (isD_mkInt h0) (isF_mk (isD_mkInt h1) (isF_mk (isD_mkSl (f := DThread.dat) h2 (fun es x hx => cDThread_dat hx)) (isF_mk (isD_mkSl (f := DLock.dat) h3 (fun es x hx => cDLock_dat hx)) (isF_mk0 z)))))
theorem DSched.has (x : DSched) : Has TySched x.dat := mk_st (mkF_cons (mk_int) (mkF_cons (mk_int) (mkF_cons (mk_sl (fun e he => by obtain ⟨y, _, rfl⟩ := List.mem_map.1 he; exact DThread.has _)) (mkF_cons (mk_sl (fun e he => by obtain ⟨y, _, rfl⟩ := List.mem_map.1 he; exact DLock.has _)) (mkF_nil)))))
theorem o25 : Opens Try.prog 25 cDSched := opens_map _ (opens_struct Try.underlying25 (by kernel_rfl) (opensF_cons rfl (by kernel_rfl) o2 (opensF_cons rfl (by kernel_rfl) o2 (opensF_cons rfl (by kernel_rfl) o22 (opensF_cons rfl (by kernel_rfl) o23 opensF_nil)))))
theorem o5 : Opens Try.prog 5 (cInt .u8) := opens_int Try.underlying5
theorem o41 : Opens Try.prog 41 (cSlice (cInt .u8)) := opens_slice Try.underlying41 (by kernel_rfl) o5
structure DDiskWrite where
  Sector : Int
  Data : List Int
def cDDiskWrite : Cod DDiskWrite := cMap (cPair (cInt .i64) (cPair (cSlice (cInt .u8)) cUnit)) (fun x => ⟨x.1, x.2.1⟩)
abbrev TyDiskWrite : Ty := .st [(.int .i64), (.sl 1 (.int .u8))]
def DDiskWrite.dat (x : DDiskWrite) : Dat := .st [.int .i64 x.Sector, .sl 1 (x.Data.map (Dat.int .u8))]
theorem cDDiskWrite_dat {w : World} {cs : List Value} {x : DDiskWrite} (h : cDDiskWrite.is w cs x) : IsD w x.dat cs := by
  obtain ⟨y, rfl, ⟨a0, b0, rfl, _, h0, ⟨a1, b1, rfl, _, h1, z⟩⟩⟩ := h
  exact isD_mkSt (isF_mk (isD_mkInt h0) (isF_mk (isD_mkSl (f := Dat.int .u8) h1 (fun es x hx => isD_mkInt hx)) (isF_mk0 z)))
theorem DDiskWrite.has (x : DDiskWrite) : Has TyDiskWrite x.dat := mk_st (mkF_cons (mk_int) (mkF_cons (mk_sl (fun e he => by obtain ⟨y, _, rfl⟩ := List.mem_map.1 he; exact mk_int)) (mkF_nil)))
theorem o123 : Opens Try.prog 123 cDDiskWrite := opens_map _ (opens_struct Try.underlying123 (by kernel_rfl) (opensF_cons rfl (by kernel_rfl) o2 (opensF_cons rfl (by kernel_rfl) o41 opensF_nil)))
theorem o55 : Opens Try.prog 55 (cSlice cDDiskWrite) := opens_slice Try.underlying55 (by kernel_rfl) o123
end Go.Proofs.Ytenhcpjlkmbedaa
