/- Part 1 of 5: plain readings of code, rules for them, and a proof over them, joined by a program. Conditions: none. -/
import Derived.WalkKit
import Derived.KernelRfl
import Derived.RowKit
import Derived.MapKept
import Derived.Laws.StructEq
import Derived.Orders
/- A second, plainer reading of the code of a Go function (definitions alone): what is asked of the code that its call may return. Conditions: none; the theorems that tie it to the model stand in the next text. -/
set_option linter.unusedVariables false
namespace Go.Den

/-! ## Shapes of single cells -/
inductive Sh where
  | int (k : IntKind) | bool | str | ptr | slice | map | fn | any
/-- A function value: the function, its first arguments, what it has captured. -/
structure FnV where
  g : Nat
  x : List Value
  c : List Value
structure Sl where
  a : Option Addr
  len : Nat
  cap : Nat
@[reducible] def Sh.T : Sh → Type
  | .int _ => Int
  | .bool => Bool
  | .str => ByteArray
  | .ptr => Option Addr
  | .slice => Sl
  | .map => Option Nat
  | .fn => FnV
  | .any => Value
@[reducible] def Sh.mk : (s : Sh) → s.T → Value
  | .int k, n => .int k n
  | .bool, b => .bool b
  | .str, s => .string s
  | .ptr, a => .pointer a
  | .slice, s => .slice s.a s.len s.cap
  | .map, r => .map r
  | .fn, f => .func (.func f.g) ⟨f.x⟩ ⟨f.c⟩
  | .any, v => v

/-! ## Types -/
inductive Tag where
  | int (k : IntKind) | bool | str | ptr (e : Nat) | slice (e : Nat) | map (k e : Nat) | struct (fs : List (Nat × Nat)) | array (n e : Nat) | tuple (ts : List Nat) | func | other
structure TI where
  tag : Tag
  sh : List Sh
  zero : List Value
  bytes : Nat
abbrev Tab := List (Nat × TI)
def Tab.find : Tab → Nat → Option TI
  | [], _ => none
  | (j, x) :: r, i => match Nat.beq i j with | true => some x | false => Tab.find r i
def Tag.isAgg : Tag → Bool
  | .struct _ => true
  | .array _ _ => true
  | _ => false

/-! ## Slots -/
abbrev Env := List (Nat × Value)
def Env.find : Env → Nat → Option Value
  | [], _ => none
  | (j, x) :: r, i => match Nat.beq i j with | true => some x | false => Env.find r i
def Env.ev (e : Env) : Operand → Option Value
  | .tmp t => e.find t
  | .const v => some v
  | .global g => some (.pointer (some ⟨g, 0, none⟩))
  | .func f => some (.func (.func f) #[] #[])
def Env.evs (e : Env) : List Operand → Option (List Value)
  | [] => some []
  | x :: r => match e.ev x, Env.evs e r with
    | some v, some l => some (v :: l)
    | _, _ => none
def Env.evp (e : Env) : List (Nat × Operand) → Option (List (Nat × Value))
  | [] => some []
  | (i, x) :: r => match e.ev x, Env.evp e r with
    | some v, some l => some ((i, v) :: l)
    | _, _ => none
/-- What stays of the slots: those of the mask. -/
def Env.keep (m : Nat) : Env → Env
  | [] => []
  | (j, x) :: r => match Nat.testBit m j with | true => (j, x) :: Env.keep m r | false => Env.keep m r

/-! ## Values -/
def kEq : IntKind → IntKind → Bool
  | .i8, .i8 => true | .i16, .i16 => true | .i32, .i32 => true | .i64, .i64 => true
  | .u8, .u8 => true | .u16, .u16 => true | .u32, .u32 => true | .u64, .u64 => true
  | _, _ => false
def shlI (k : IntKind) (a b : Int) : Int := k.wrap (a * 2 ^ (min b.toNat k.bits))
def shrI (k : IntKind) (a b : Int) : Int := a.fdiv (2 ^ (min b.toNat k.bits))
def andI (k : IntKind) (a b : Int) : Int := k.wrap (BitVec.ofInt k.bits a &&& BitVec.ofInt k.bits b).toNat
def orI (k : IntKind) (a b : Int) : Int := k.wrap (BitVec.ofInt k.bits a ||| BitVec.ofInt k.bits b).toNat
def xorI (k : IntKind) (a b : Int) : Int := k.wrap (BitVec.ofInt k.bits a ^^^ BitVec.ofInt k.bits b).toNat
def andNotI (k : IntKind) (a b : Int) : Int := k.wrap (BitVec.ofInt k.bits a &&& ~~~ BitVec.ofInt k.bits b).toNat
def minI (x y : Int) : Int := if y < x then y else x
def maxI (x y : Int) : Int := if y > x then y else x
def btI (s : ByteArray) (i : Int) : Int := ((s.data.toList.getD i.toNat 0).toNat : Int)
def strEq (a b : ByteArray) : Bool := a.toList == b.toList
def strLt (a b : ByteArray) : Bool := Op.bytesLess a.toList b.toList

def intB (op : BinOp) (k : IntKind) (a : Int) (j : IntKind) (b : Int) (K : Value → Prop) : Prop :=
  match op with
  | .shl => 0 ≤ b ∧ K (.int k (shlI k a b))
  | .shr => 0 ≤ b ∧ K (.int k (shrI k a b))
  | op => match kEq k j with
    | false => False
    | true => match op with
      | .add => K (.int k (k.wrap (a + b)))
      | .sub => K (.int k (k.wrap (a - b)))
      | .mul => K (.int k (k.wrap (a * b)))
      | .quo => b ≠ 0 ∧ K (.int k (k.wrap (a.tdiv b)))
      | .rem => b ≠ 0 ∧ K (.int k (a.tmod b))
      | .and => K (.int k (andI k a b))
      | .or => K (.int k (orI k a b))
      | .xor => K (.int k (xorI k a b))
      | .andNot => K (.int k (andNotI k a b))
      | .eql => K (.bool (a == b))
      | .neq => K (.bool (a != b))
      | .lss => K (.bool (decide (a < b)))
      | .leq => K (.bool (decide (a ≤ b)))
      | .gtr => K (.bool (decide (a > b)))
      | .geq => K (.bool (decide (a ≥ b)))
      | _ => False
def strB (op : BinOp) (a b : ByteArray) (K : Value → Prop) : Prop :=
  match op with
  | .add => ((a.size + b.size : Nat) : Int) ≤ IntKind.i64.max ∧ K (.string (a ++ b))
  | .eql => K (.bool (strEq a b))
  | .neq => K (.bool (!strEq a b))
  | .lss => K (.bool (strLt a b))
  | .leq => K (.bool (strLt a b || strEq a b))
  | .gtr => K (.bool (!(strLt a b || strEq a b)))
  | .geq => K (.bool (!strLt a b))
  | _ => False
def eqB (op : BinOp) (b : Bool) (K : Value → Prop) : Prop :=
  match op with
  | .eql => K (.bool b)
  | .neq => K (.bool (!b))
  | _ => False
def binB (tag : Tag) (op : BinOp) (x y : Value) (K : Value → Prop) : Prop :=
  match x, y with
  | .int k a, .int j b => intB op k a j b K
  | .string a, .string b => strB op a b K
  | .bool a, .bool b => match tag with | .bool => eqB op (a == b) K | _ => False
  | .pointer a, .pointer none => match tag with | .ptr _ => eqB op a.isNone K | _ => False
  | .pointer none, .pointer b => match tag with | .ptr _ => eqB op b.isNone K | _ => False
  | .slice a _ _, .slice none _ _ => match tag with | .slice _ => eqB op a.isNone K | _ => False
  | _, _ => False
def unB (op : UnOp) (x : Value) (K : Value → Prop) : Prop :=
  match op, x with
  | .not, .bool b => K (.bool (!b))
  | .neg, .int k n => K (.int k (k.wrap (0 - n)))
  | .xor, .int k n => K (.int k (xorI k (if k.signed then -1 else k.max) n))
  | _, _ => False

/-! ## Memory -/
/-- The cell may be written. -/
def May (w : World) (p : Addr) : Prop := (w.cell? p).isSome = true ∧ w.frozen? p = false
def MayN (w : World) (p : Addr) (n : Nat) : Prop := ∀ i, i < n → May w (p.add i)
def puts (w : World) (p : Addr) : Nat → List Value → World
  | _, [] => w
  | i, v :: r => puts (w.setCell (p.add i) v) p (i + 1) r
def cellsOf : Value → List Value
  | .agg cs => cs.toList
  | v => [v]
/-- Some cells, from number i on, each of its shape. -/
def ldCells (w : World) (p : Addr) : Nat → List Sh → (List Value → Prop) → Prop
  | _, [], K => K []
  | i, s :: r, K => ∃ x : s.T, w.cell? (p.add i) = some (s.mk x) ∧ ldCells w p (i + 1) r (fun l => K (s.mk x :: l))
def ld (ti : TI) (w : World) (p : Addr) (K : Value → Prop) : Prop :=
  match ti.tag.isAgg, ti.sh with
  | false, [s] => ∃ x : s.T, w.cell? p = some (s.mk x) ∧ K (s.mk x)
  | true, l => ldCells w p 0 l (fun vs => K (.agg ⟨vs⟩))
  | _, _ => False
/-- A value that comes back, of its shape. -/
def exCells : List Sh → (List Value → Prop) → Prop
  | [], K => K []
  | s :: r, K => ∃ x : s.T, exCells r (fun l => K (s.mk x :: l))
def exOne (ti : TI) (K : Value → Prop) : Prop :=
  match ti.tag.isAgg, ti.sh with
  | false, [s] => ∃ x : s.T, K (s.mk x)
  | true, l => exCells l (fun vs => K (.agg ⟨vs⟩))
  | _, _ => False
def exMany (tt : Tab) : List Nat → (List Value → Prop) → Prop
  | [], K => K []
  | t :: r, K => match tt.find t with
    | none => False
    | some ti => exOne ti (fun v => exMany tt r (fun l => K (v :: l)))
def exRes (tt : Tab) (t : Nat) (v : Value) (K : Value → Prop) : Prop :=
  match tt.find t with
  | none => False
  | some ti => match ti.tag with
    | .tuple ts => exMany tt ts (fun l => v = .tuple ⟨l⟩ ∧ K (.tuple ⟨l⟩))
    | _ => exOne ti (fun u => v = u ∧ K u)

/-- A call that returns. -/
def OkFn (P : Program) (f : Nat) : Prop := ∃ fn, P.funcs[f]? = some fn ∧ fn.body.isSome = true ∧ (fn.name == "runtime.NumGoroutine") = false
def CallW (P : Program) (f : Nat) (args : Array Value) (w : World) (K : Value → World → Prop) : Prop :=
  (OkFn P f ∧ Calls P f args w (fun e w' => ∃ v, e = .returned v ∧ K v w')) ∨ (∃ v w', (callFunc f args).run P w = .ok (.value v) w' ∧ K v w')

def plainB : Value → Bool
  | .agg _ => false
  | .tuple _ => false
  | _ => true
/-! ## Slices -/
/-- The cells of a row of n elements. -/
def RowAt (w : World) (a : Option Addr) (n : Nat) (vs : List Value) : Prop :=
  vs.length = n ∧ (0 < n → ∃ p, a = some p ∧ ∀ j v, vs[j]? = some v → w.cell? (p.add j) = some v)
def zerosOf (zero : List Value) : Nat → List Value
  | 0 => []
  | n + 1 => zero ++ zerosOf zero n
def cutSl (s : Sl) (l h m : Nat) (size : Nat) : Sl := ⟨if m = l then s.a else s.a.map (·.add (l * size)), h - l, m - l⟩
/-- append(s, y...) -/
def AppendW (e : Nat) (ti : TI) (s y : Sl) (w : World) (K : Sl → World → Prop) : Prop :=
  ∃ os vs, RowAt w s.a (s.len * ti.sh.length) os ∧ RowAt w y.a (y.len * ti.sh.length) vs ∧ (s.len + y.len) * ti.bytes ≤ 140737488355328 ∧ 0 < ti.bytes ∧ (∀ v, v ∈ vs → plainB v = true) ∧
    (s.len + y.len ≤ s.cap → (∃ p, s.a = some p ∧ MayN w (p.add (s.len * ti.sh.length)) vs.length ∧ K ⟨s.a, s.len + y.len, s.cap⟩ (puts w (p.add (s.len * ti.sh.length)) 0 vs)) ∨ (s.a = none ∧ K ⟨none, s.len + y.len, s.cap⟩ w)) ∧
    (s.cap < s.len + y.len → ∀ cap, s.len + y.len ≤ cap → K ⟨some ⟨w.heap.size, 0, none⟩, s.len + y.len, cap⟩ (w.drew.alloc (.cells ⟨os ++ vs ++ zerosOf ti.zero (cap - (s.len + y.len))⟩ e)))
/-- append of n zeros. -/
def AppendZW (e : Nat) (ti : TI) (s : Sl) (x : Int) (w : World) (K : Sl → World → Prop) : Prop :=
  0 ≤ x ∧ ∃ os, RowAt w s.a (s.len * ti.sh.length) os ∧ (s.len + x.toNat) * ti.bytes ≤ 140737488355328 ∧ 0 < ti.bytes ∧ (∀ v, v ∈ zerosOf ti.zero x.toNat → plainB v = true) ∧
    (s.len + x.toNat ≤ s.cap → (∃ p, s.a = some p ∧ MayN w (p.add (s.len * ti.sh.length)) (zerosOf ti.zero x.toNat).length ∧ K ⟨s.a, s.len + x.toNat, s.cap⟩ (puts w (p.add (s.len * ti.sh.length)) 0 (zerosOf ti.zero x.toNat))) ∨ (s.a = none ∧ K ⟨none, s.len + x.toNat, s.cap⟩ w)) ∧
    (s.cap < s.len + x.toNat → ∀ cap, s.len + x.toNat ≤ cap → K ⟨some ⟨w.heap.size, 0, none⟩, s.len + x.toNat, cap⟩ (w.drew.alloc (.cells ⟨os ++ zerosOf ti.zero x.toNat ++ zerosOf ti.zero (cap - (s.len + x.toNat))⟩ e)))
/-- The bytes of a constant text: a cell behind the row is frozen. -/
def MarkW (p : Addr) (w : World) (K : World → Prop) : Prop := ∃ vs e f, w.heap[p.block]? = some (.cells ⟨vs⟩ e f) ∧ K (w.freeze ⟨p.block, vs.length, none⟩ 1)

/-- What is copied, if there is a place for it. -/
def CopyW (a : Option Addr) (w : World) (vs : List Value) (n : Nat) (k : World → Prop) : Prop := (a = none ∧ k w) ∨ (∃ p, a = some p ∧ MayN w p n ∧ k (puts w p 0 vs))
/-- What clear(s) does to a row of n elements, z cells each. -/
def ClearW (a : Option Addr) (n z : Nat) (zero : List Value) (w : World) (k : World → Prop) : Prop :=
  (∀ v, v ∈ zerosOf zero n → plainB v = true) ∧ (zerosOf zero n).length = n * z ∧ ((n = 0 ∧ k w) ∨ (0 < n ∧ ∃ p, a = some p ∧ MayN w p (n * z) ∧ k (puts w p 0 (zerosOf zero n))))
/-- A world under a name. -/
def LetW (w : World) (k : World → Prop) : Prop := k w
/-! ## Maps whose keys are compared at once -/
def findN (k : Value) : List MapEntry → Nat → Option (Option (Nat × Value))
  | [], _ => some none
  | e :: es, i => match k, e.key with
    | .int j a, .int j' b => if j = j' then (if a == b then some (some (i, e.val)) else findN k es (i + 1)) else none
    | .string a, .string b => if a == b then some (some (i, e.val)) else findN k es (i + 1)
    | .bool a, .bool b => if a == b then some (some (i, e.val)) else findN k es (i + 1)
    | _, _ => none
def keyTag : Tag → Value → Bool
  | .int _, .int _ _ => true
  | .str, .string _ => true
  | .bool, .bool _ => true
  | _, _ => false
def MapAt (w : World) (r : Option Nat) (es : List MapEntry) : Prop := match r with
  | none => es = []
  | some q => ∃ clock, w.heap[q]? = some (.map ⟨es⟩ clock)
def valOr (o : Option (Nat × Value)) (z : Value) : Value := match o with | some x => x.2 | none => z
def setMap (w : World) (q : Nat) (o : Obj) : World := { w with heap := w.heap.setIfInBounds q o }
def putEnt (es : List MapEntry) (k v : Value) (clock : Nat) (o : Option (Nat × Value)) : Obj := match o with
  | some x => .map ⟨es.modify x.1 fun e => { e with key := k, val := v }⟩ clock
  | none => .map ⟨es ++ [⟨k, v, clock⟩]⟩ (clock + 1)
def MapGetW (w : World) (r : Option Nat) (k : Value) (K : Option (Nat × Value) → Prop) : Prop := ∃ es o, MapAt w r es ∧ findN k es 0 = some o ∧ K o
def MapPutW (w : World) (r : Option Nat) (k v : Value) (K : World → Prop) : Prop := ∃ q es clock o, r = some q ∧ w.heap[q]? = some (.map ⟨es⟩ clock) ∧ findN k es 0 = some o ∧ K (setMap w q (putEnt es k v clock o))
def MapDelW (w : World) (r : Option Nat) (k : Value) (K : World → Prop) : Prop := ∃ q es clock o, r = some q ∧ w.heap[q]? = some (.map ⟨es⟩ clock) ∧ findN k es 0 = some o ∧ K (setMap w q (.map ⟨match o with | some x => es.eraseIdx x.1 | none => es⟩ clock))
/-! ## A loop over a map that it does not write -/
def leftN (es : List MapEntry) (seen : Array Nat) : List MapEntry := es.filter fun e => !seen.contains e.born
def RangeW (w : World) (r : Option Nat) (K : Option Addr → World → Prop) : Prop := ∃ m es clock, r = some m ∧ w.heap[m]? = some (.map ⟨es⟩ clock) ∧ K (some ⟨w.heap.size, 0, none⟩) (w.alloc (.mapIter (some m) clock #[] clock))
def NextW (w : World) (a : Option Addr) (K : Bool → List Value → World → Prop) : Prop := ∃ q m since c0 seen es clock, a = some ⟨q, 0, none⟩ ∧ w.heap[q]? = some (.mapIter (some m) since seen c0) ∧ w.heap[m]? = some (.map ⟨es⟩ clock) ∧ (∀ x, x ∈ es → x.born < since) ∧ since ≤ c0 ∧
  (leftN es seen = [] → K false [] w) ∧ ∀ e, e ∈ leftN es seen → ∀ w1, w1 = w ∨ w1 = w.drew → K true [e.key, e.val] (setMap w1 q (.mapIter (some m) since (seen.push e.born) clock))
def EntryW (w : World) (a : Option Addr) (K : Int → Int → Prop) : Prop := ∃ q m since seen c es e x y, a = some ⟨q, 0, none⟩ ∧ w.heap[q]? = some (.mapIter (some m) since seen c) ∧ seen.back? = some e.born ∧ w.heap[m]? = some (.map ⟨es⟩ c) ∧ es.find? (·.born == e.born) = some e ∧
  e.key = .int .i64 x ∧ e.val = .int .i64 y ∧ K x y
/-! ## Joins and loops -/
def BIf (x : Bool) (A B : Prop) : Prop := match x with | true => A | false => B
def JT : List Sh → Type
  | [] => World → Prop
  | s :: r => s.T → JT r
/-- The state of a loop, of a place where ways meet: the values of its slots. -/
def Vals : List Sh → Type
  | [] => Unit
  | s :: r => s.T × Vals r
def app : (l : List Sh) → JT l → Vals l → World → Prop
  | [], f, _ => f
  | _ :: r, f, v => app r (f v.1) v.2
def cur : (l : List Sh) → (Vals l → World → Prop) → JT l
  | [], f => f ()
  | _ :: r, f => fun x => cur r (fun v => f (x, v))
/-- Ways meet: f is what leads there, k what comes behind. -/
def JoinW (l : List Sh) (f : JT l → Prop) (k : JT l) : Prop :=
  ∃ J : JT l, (∀ v w, app l J v w → app l k v w) ∧ f J
/-- A loop: from v on, the body is a round; what it hands on are the next round's values. -/
def LoopW (l : List Sh) (body : JT l → JT l) (v : Vals l) (w : World) : Prop :=
  ∃ I : Nat → JT l, (∃ n, app l (I n) v w) ∧ ∀ n v w, app l (I n) v w → app l (body (cur l (fun v' w' => ∃ n', n' < n ∧ app l (I n') v' w'))) v w

/-! ## What is noted beside the code (by a program; nothing is believed of it) -/
/-- Orders of operations: which does something first is open, all are shown. -/
inductive OT where
  | leaf
  | stop
  | alt (l : List Nat) (t more : OT)
inductive Ann where
  | leaf
  | seq (a b : Ann)
  /-- ways meet behind the first part: mask of the slots that stay, the slots that are handed on -/
  | join (m : Nat) (c : List (Nat × Sh)) (a b : Ann)
  | cond (a b : Ann)
  | in_ (a : Ann)
  | loop (m : Nat) (c : List (Nat × Sh)) (a : Ann)
  /-- the region's parts: how many operations, and, of a guarded part, what is handed on -/
  | reg (l : List (Nat × Option (Nat × List (Nat × Sh))))
  /-- a region whose order is drawn: whom each operation waits for, an order -/
  | draw (al ord : List Nat)
  /-- the same, where several orders are -/
  | drawT (al ord : List Nat) (t : OT)

def shsOf (c : List (Nat × Sh)) : List Sh := c.map (·.2)
def entries : (c : List (Nat × Sh)) → Vals (shsOf c) → Env
  | [], _ => []
  | (i, s) :: r, v => (i, s.mk v.1) :: entries r v.2
/-- The values of these slots, if each has its shape. -/
def Sh.ask : (s : Sh) → Value → (s.T → Prop) → Prop
  | .int k, .int j n, K => match kEq k j with | true => K n | false => False
  | .bool, .bool b, K => K b
  | .str, .string s, K => K s
  | .ptr, .pointer a, K => K a
  | .slice, .slice a l c, K => K ⟨a, l, c⟩
  | .map, .map r, K => K r
  | .fn, .func (.func g) ⟨x⟩ ⟨c⟩, K => K ⟨g, x, c⟩
  | .any, v, K => K v
  | _, _, _ => False
def ask (e : Env) : (c : List (Nat × Sh)) → (Vals (shsOf c) → Prop) → Prop
  | [], K => K ()
  | (i, s) :: r, K => match e.find i with
    | none => False
    | some v => s.ask v (fun x => ask e r (fun l => K (x, l)))

/-! ## What a piece of code writes (a mask of slots) -/
def opMods : List Oper → Nat
  | [] => 0
  | o :: r => match o.dst with
    | none => opMods r
    | some d => (1 <<< d) ||| opMods r
def mods : Code → Nat
  | .region _ ops _ => opMods ops.toList
  | .seq a b => mods a ||| mods b
  | .cond _ a b => mods a ||| mods b
  | .block _ c => mods c
  | .loop c => mods c
  | .scope c => mods c
  | _ => 0
def stays (m : Nat) (c : Code) : Bool := Nat.beq (m &&& mods c) 0

structure Kont where
  norm : Env → World → Prop
  exits : List (Nat × (Env → World → Prop))
  ret : Env → World → Prop
def findK : List (Nat × (Env → World → Prop)) → Nat → Option (Env → World → Prop)
  | [], _ => none
  | (j, k) :: r, i => match Nat.beq i j with | true => some k | false => findK r i
end Go.Den

/- The plainer reading of the code of a Go function: what one operation, a region, a piece of code and a function ask. Conditions: none. -/
set_option linter.unusedVariables false
namespace Go.Den

def addrOf (v : Option Value) (K : Addr → Prop) : Prop :=
  match v with
  | some (.pointer (some p)) => K p
  | _ => False
def intOf' (v : Option Value) (K : Int → Prop) : Prop :=
  match v with
  | some (.int _ n) => K n
  | _ => False
def undefs : Value := .tuple #[]
def tiOf (tt : Tab) (t : Nat) (K : TI → Prop) : Prop := match tt.find t with | some ti => K ti | none => False
def offOf : List (Nat × Nat) → Nat → Option (Nat × Nat)
  | [], _ => none
  | x :: _, 0 => some x
  | _ :: r, n + 1 => offOf r n
/-- The parts of a struct or of an array's elements laid over zeros. -/
def lay (size : Nat) : List Value → Nat → List Value → List Value
  | zs, off, vs => zs.take off ++ vs ++ zs.drop (off + vs.length)
def layAll (place : Nat → Option (Nat × Nat)) : List Value → List (Nat × Value) → Option (List Value)
  | zs, [] => some zs
  | zs, (i, v) :: r => match place i with
    | none => none
    | some (off, size) => match Nat.beq (cellsOf v).length size, Nat.ble (off + size) zs.length with
      | true, true => layAll place (lay size zs off (cellsOf v)) r
      | _, _ => none
def placeOf (tt : Tab) (fs : List (Nat × Nat)) (i : Nat) : Option (Nat × Nat) :=
  match offOf fs i with
  | some (t, off) => match tt.find t with | some ti => some (off, ti.sh.length) | none => none
  | none => none

def allIn (tt : Tab) : List (Nat × Nat) → Bool
  | [] => true
  | x :: r => match tt.find x.1 with | some _ => allIn tt r | none => false

def lenB (tt : Tab) (t : Nat) (v : Value) (w : World) (K : Value → Prop) : Prop :=
  tiOf tt t fun ti => match ti.tag, v with
    | .str, .string s => K (.int .i64 s.size)
    | .slice _, .slice _ n _ => K (.int .i64 n)
    | .array n _, _ => K (.int .i64 n)
    | .ptr e, _ => tiOf tt e fun te => match te.tag with | .array n _ => K (.int .i64 n) | _ => False
    | .map _ _, .map none => K (.int .i64 0)
    | .map _ _, .map (some r) => ∃ es clock, w.heap[r]? = some (.map es clock) ∧ K (.int .i64 es.size)
    | _, _ => False
/-- s[l:h] -/
def bound (v : Option (Option Value)) (d y : Int) (K : Int → Prop) : Prop :=
  match v with
  | none => K d
  | some none => False
  | some (some (.int _ n)) => 0 ≤ n ∧ n ≤ y ∧ K n
  | _ => False
def sliceB (tt : Tab) (t : Nat) (x : Value) (lo hi mx : Option (Option Value)) (K : Value → Prop) : Prop :=
  tiOf tt t fun ti => match ti.tag, x with
    | .str, .string s => match mx with
      | none => bound hi s.size s.size fun h => bound lo 0 h fun l => K (.string (s.extract l.toNat h.toNat))
      | some _ => False
    | .slice e, .slice a len cap => tiOf tt e fun te => match mx with
      | none => bound hi len cap fun h => bound lo 0 h fun l =>
          K (.slice (cutSl ⟨a, len, cap⟩ l.toNat h.toNat cap te.sh.length).a (h.toNat - l.toNat) (cap - l.toNat))
      | some _ => hi ≠ none ∧ bound mx cap cap fun m => bound hi len m fun h => bound lo 0 h fun l =>
          K (.slice (cutSl ⟨a, len, cap⟩ l.toNat h.toNat m.toNat te.sh.length).a (h.toNat - l.toNat) (m.toNat - l.toNat))
    | _, _ => False
def cutArr (tt : Tab) (n e : Nat) (p : Addr) (lo hi mx : Option (Option Value)) (K : Value → Prop) : Prop :=
  tiOf tt e fun te => match mx with
  | none => bound hi n n fun h => bound lo 0 h fun l =>
      K (.slice (cutSl ⟨some p, n, n⟩ l.toNat h.toNat n te.sh.length).a (h.toNat - l.toNat) (n - l.toNat))
  | some _ => False
def convB (tt : Tab) (s d : Nat) (x : Value) (w : World) (K : Value → World → Prop) : Prop :=
  tiOf tt s fun ts => tiOf tt d fun td => match ts.tag, td.tag, x with
    | .int _, .int k, .int _ n => K (.int k (k.wrap n)) w
    | .str, .str, .string s => K (.string s) w
    | .slice e, .str, .slice a n c => tiOf tt e fun te => match te.tag with
      | .int .u8 => ∃ xs : List Int, RowAt w a n (xs.map (Value.int .u8)) ∧ K (.string (strOfNums xs)) w
      | _ => False
    | .slice _, .slice e, .slice a n c => match Nat.beq s d with
      | true => tiOf tt e fun te => match te.tag with
        | .int .u8 => ∃ p, a = some p ∧ MarkW p w fun w' => K (.slice (some p) n c) w'
        | _ => False
      | false => False
    | _, _, _ => False
def lookV (te : TI) (c : Bool) (o : Option (Nat × Value)) (K : Value → Prop) : Prop := match te.tag.isAgg, te.sh, te.zero with
  | false, [s], [z] => ∃ y : s.T, valOr o z = s.mk y ∧ (match c with | true => K (.tuple #[s.mk y, .bool o.isSome]) | false => K (s.mk y))
  | _, _, _ => False
def delB (tt : Tab) (t : Nat) (x k : Value) (w : World) (K : World → Prop) : Prop :=
  tiOf tt t fun ti => match ti.tag, x with
    | .map kt et, .map r => tiOf tt kt fun tk => match keyTag tk.tag k with
      | true => MapDelW w r k K
      | false => False
    | _, _ => False
def plainL : List Value → Bool
  | [] => true
  | v :: r => match plainB v with | true => plainL r | false => false
def storeB (ti : TI) (w : World) (p : Addr) (v : Value) (K : Value → World → Prop) : Prop :=
  match Nat.beq ti.sh.length (cellsOf v).length, plainL (cellsOf v) with
  | true, true => match cellsOf v with
    | [x] => May w p ∧ K undefs (w.setCell p x)
    | vs => MayN w p vs.length ∧ K undefs (puts w p 0 vs)
  | _, _ => False

/-- A value of a comparable plain shape. -/
def fitB : Sh → Value → Bool
  | .int k, .int j _ => kEq k j
  | .bool, .bool _ => true
  | .str, .string _ => true
  | _, _ => false
def fitL : List Sh → List Value → Bool
  | [], [] => true
  | s :: l, v :: r => match fitB s v with | true => fitL l r | false => false
  | _, _ => false
def cellB : Value → Value → Bool
  | .int _ a, .int _ b => a == b
  | .bool a, .bool b => a == b
  | .string a, .string b => strEq a b
  | _, _ => false
def eqVs : List Value → List Value → Bool
  | [], [] => true
  | a :: r, b :: s => cellB a b && eqVs r s
  | _, _ => false
/-- The model compares two structs (rows) of this type cell by cell: shown once for each type. -/
def SameAt (P : Program) (t : Nat) (l : List Sh) : Prop :=
  P.eqGuardType P.depth t = false ∧ ∀ (xs ys : List Value) (w : World), fitL l xs = true → fitL l ys = true → (Op.equal t (.agg ⟨xs⟩) (.agg ⟨ys⟩)).run P w = .ok (eqVs xs ys) w
/-- A key that is a row (a struct) of plain cells: found by going through all of them. -/
def findA (k : List Value) (l : List Sh) : List MapEntry → Nat → Option (Option (Nat × Value))
  | [], _ => some none
  | e :: es, i => match e.key with
    | .agg ys => match fitL l ys.toList with
      | true => (match eqVs k ys.toList with | true => some (some (i, e.val)) | false => findA k l es (i + 1))
      | false => none
    | _ => none
/-- Such keys can be keys: shown once for each type. -/
def KeyAt (P : Program) (t : Nat) (l : List Sh) : Prop := ∀ (xs : List Value) (b : Bool) (w : World), fitL l xs = true → (Instr.checkKey b 10000 t (.agg ⟨xs⟩)).run P w = .ok () w
def MapGetA (w : World) (r : Option Nat) (l : List Sh) (k : List Value) (K : Option (Nat × Value) → Prop) : Prop := ∃ es o, MapAt w r es ∧ findA k l es 0 = some o ∧ K o
def MapPutA (w : World) (r : Option Nat) (l : List Sh) (k : List Value) (v : Value) (K : World → Prop) : Prop := ∃ q es clock, r = some q ∧ w.heap[q]? = some (.map ⟨es⟩ clock) ∧ findA k l es 0 = some none ∧ K (setMap w q (putEnt es (.agg ⟨k⟩) v clock none))
def lookB (P : Program) (tt : Tab) (t : Nat) (x k : Option Value) (c : Bool) (w : World) (K : Value → Prop) : Prop :=
  tiOf tt t fun ti => match ti.tag, x, k with
    | .map kt et, some (.map r), some k => tiOf tt kt fun tk => tiOf tt et fun te => match keyTag tk.tag k with
      | true => MapGetW w r k fun o => lookV te c o K
      | false => match tk.tag.isAgg, k with
        | true, .agg xs => (match fitL tk.sh xs.toList with
          | true => SameAt P kt tk.sh ∧ KeyAt P kt tk.sh ∧ MapGetA w r tk.sh xs.toList fun o => lookV te c o K
          | false => False)
        | _, _ => False
    | _, _, _ => False
def putB (P : Program) (tt : Tab) (t : Nat) (x k v : Option Value) (w : World) (K : World → Prop) : Prop :=
  tiOf tt t fun ti => match ti.tag, x, k, v with
    | .map kt et, some (.map r), some k, some v => tiOf tt kt fun tk => match keyTag tk.tag k with
      | true => MapPutW w r k v K
      | false => match tk.tag.isAgg, k with
        | true, .agg xs => (match fitL tk.sh xs.toList with
          | true => SameAt P kt tk.sh ∧ KeyAt P kt tk.sh ∧ MapPutA w r tk.sh xs.toList v K
          | false => False)
        | _, _ => False
    | _, _, _, _ => False
def rangeB (tt : Tab) (t : Nat) (x : Option Value) (w : World) (K : Value → World → Prop) : Prop :=
  tiOf tt t fun ti => match ti.tag, x with
    | .map _ _, some (.map r) => RangeW w r fun a w' => K (.pointer a) w'
    | _, _ => False
def nextB (x : Option Value) (s : Bool) (w : World) (K : Value → World → Prop) : Prop := match x, s with
  | some (.pointer a), false => NextW w a fun b xs w' => K (.tuple ⟨.bool b :: xs⟩) w'
  | _, _ => False
def entryB (x : Option Value) (w : World) (K : Value → World → Prop) : Prop := match x with
  | some (.pointer a) => EntryW w a fun x y => K (.tuple ⟨[.int .i64 x, .int .i64 y]⟩) w
  | _ => False
def aggB (P : Program) (t : Nat) (l : List Sh) (op : BinOp) (xs ys : List Value) (K : Value → Prop) : Prop :=
  match fitL l xs, fitL l ys with
  | true, true => SameAt P t l ∧ eqB op (eqVs xs ys) K
  | _, _ => False
def binA (P : Program) (tt : Tab) (t : Nat) (op : BinOp) (x y : Value) (K : Value → Prop) : Prop :=
  match x, y with
  | .agg xs, .agg ys => tiOf tt t fun ti => aggB P t ti.sh op xs.toList ys.toList K
  | _, _ => tiOf tt t fun ti => binB ti.tag op x y K

/-- Operations that read, or only reckon. -/
def quietOp : Op → Bool
  | .move _ => true | .assign _ => true | .pick _ _ _ => true | .load _ _ => true | .nilCheck _ => true | .binOp _ _ _ _ _ => true | .unOp _ _ _ => true | .convert s d _ => (match Nat.beq s d with | true => false | false => true)
  | .makeFunc _ _ _ => true | .slice _ _ _ _ _ => true | .fieldAddr _ _ _ => true | .field _ _ _ => true | .indexAddr _ _ _ => true | .index _ _ _ => true | .extract _ _ => true | .build _ _ => true
  | .call { callee := .builtin b, args := _, argTypes := _ } => match b with | .len => true | .min => true | .max => true | _ => false
  | _ => false
theorem quiet_conv {s d : TypeId} {x : Operand} (h : quietOp (.convert s d x) = true) : Nat.beq s d = false := by
  have h' : (match Nat.beq s d with | true => false | false => true) = true := h
  cases hb : Nat.beq s d with
  | false => rfl
  | true => rw [hb] at h'; cases h'
/-- Those that only reckon. -/
def pureOp : Op → Bool
  | .move _ => true | .assign _ => true | .pick _ _ _ => true | .nilCheck _ => true | .binOp _ _ _ _ _ => true | .unOp _ _ _ => true
  | .makeFunc _ _ _ => true | .slice _ _ _ _ _ => true | .fieldAddr _ _ _ => true | .field _ _ _ => true | .indexAddr _ _ _ => true | .index _ _ _ => true | .extract _ _ => true | .build _ _ => true
  | .call { callee := .builtin b, args := _, argTypes := _ } => match b with | .min => true | .max => true | _ => false
  | _ => false
/-- One operation: what it gives, and the world behind it. -/
def denOp (P : Program) (tt : Tab) (o : Oper) (e : Env) (w : World) (K : Value → World → Prop) : Prop :=
  match o.op with
  | .move x => match e.ev x with | some v => K v w | none => False
  | .assign x => match e.ev x with | some v => K v w | none => False
  | .pick c a b => match e.ev c with
    | some (.bool x) => match x with
      | true => (match e.ev a with | some v => K v w | none => False)
      | false => (match e.ev b with | some v => K v w | none => False)
    | _ => False
  | .alloc t => tiOf tt t fun ti => K (.pointer (some ⟨w.heap.size, 0, none⟩)) (w.alloc (.cells ⟨ti.zero⟩ t))
  | .box t x => match e.ev x with
    | some v => K (.pointer (some ⟨w.heap.size, 0, none⟩)) (w.alloc (.cells ⟨cellsOf v⟩ t))
    | none => False
  | .build t ps => tiOf tt t fun ti => match e.evp ps.toList with
    | none => False
    | some vs => match ti.tag with
      | .struct fs => match allIn tt fs, layAll (placeOf tt fs) ti.zero vs with | true, some cs => K (.agg ⟨cs⟩) w | _, _ => False
      | .array n el => tiOf tt el fun te => match layAll (fun i => some (i * te.sh.length, te.sh.length)) ti.zero vs with | some cs => K (.agg ⟨cs⟩) w | none => False
      | _ => False
  | .buildSlice t n ps => tiOf tt t fun ti => match ti.tag, e.evp ps.toList with
    | .slice el, some vs => tiOf tt el fun te =>
      match layAll (fun i => some (i * te.sh.length, te.sh.length)) (zerosOf te.zero n) vs, Nat.ble (n * te.sh.length) 16777216 with
      | some cs, true => K (.slice (some ⟨w.heap.size, 0, none⟩) n n) (w.alloc (.cells ⟨cs⟩ el))
      | _, _ => False
    | _, _ => False
  | .load t a => tiOf tt t fun ti => addrOf (e.ev a) fun p => ld ti w p (fun v => K v w)
  | .store t a x => tiOf tt t fun ti => addrOf (e.ev a) fun p => match e.ev x with | some v => storeB ti w p v K | none => False
  | .nilCheck x => match e.ev x with
    | some (.pointer a) => ∃ p, a = some p ∧ K (.pointer (some p)) w
    | some (.func (.func f) x c) => K (.func (.func f) x c) w
    | _ => False
  | .binOp op t x y _ => match e.ev x, e.ev y with
    | some a, some b => binA P tt t op a b (fun v => K v w)
    | _, _ => False
  | .unOp op _ x => match e.ev x with | some v => unB op v (fun v => K v w) | none => False
  | .convert s d x => match e.ev x with | some v => convB tt s d v w K | none => False
  | .makeFunc (.func f) x c => match e.evs x.toList, e.evs c.toList with
    | some vs, some us => K (.func (.func f) ⟨vs⟩ ⟨us⟩) w
    | _, _ => False
  | .makeMap t none => K (.map (some w.heap.size)) (w.alloc (.map #[] 0))
  | .lookup t x k c => lookB P tt t (e.ev x) (e.ev k) c w (fun v => K v w)
  | .mapUpdate t m k x => putB P tt t (e.ev m) (e.ev k) (e.ev x) w (fun w' => K undefs w')
  | .makeSlice t l c => tiOf tt t fun ti => match ti.tag with
    | .slice el => tiOf tt el fun te => intOf' (e.ev l) fun n => intOf' (e.ev c) fun m =>
        0 ≤ n ∧ n ≤ m ∧ m * te.bytes ≤ 140737488355328 ∧ 0 < te.bytes ∧ K (.slice (some ⟨w.heap.size, 0, none⟩) n.toNat m.toNat) (w.alloc (.cells ⟨zerosOf te.zero m.toNat⟩ el))
    | _ => False
  | .slice t x lo hi mx => match e.ev x with
    | some (.pointer a) => ∃ p, a = some p ∧ tiOf tt t fun ti => match ti.tag with
      | .array n el => cutArr tt n el p (lo.map e.ev) (hi.map e.ev) (mx.map e.ev) (fun v => K v w)
      | _ => False
    | some v => sliceB tt t v (lo.map e.ev) (hi.map e.ev) (mx.map e.ev) (fun v => K v w)
    | none => False
  | .fieldAddr s x f => tiOf tt s fun ti => addrOf (e.ev x) fun p => match ti.tag with
    | .struct fs => match offOf fs f with
      | some (t, off) => match tt.find t with
        | some tf => (match tf.sh with | [] => False | _ :: _ => K (.pointer (some (p.add off))) w)
        | none => False
      | none => False
    | _ => False
  | .field t x f => tiOf tt t fun ti => match ti.tag, e.ev x with
    | .struct fs, some (.agg cs) => match offOf fs f with
      | some (t, off) => match tt.find t with
        | some tf => match tf.tag.isAgg, tf.sh with
          | true, l => K (.agg ⟨(cs.toList.drop off).take l.length⟩) w
          | false, _ => match cs.toList.drop off with | v :: _ => K v w | [] => False
        | none => False
      | none => False
    | _, _ => False
  | .indexAddr t x ix => tiOf tt t fun ti => intOf' (e.ev ix) fun i => match ti.tag, e.ev x with
    | .slice el, some (.slice a n _) => tiOf tt el fun te => 0 ≤ i ∧ i < n ∧ ∃ p, a = some p ∧ K (.pointer (some (p.add (i.toNat * te.sh.length)))) w
    | .array n el, some (.pointer (some p)) => tiOf tt el fun te => 0 ≤ i ∧ i < n ∧ K (.pointer (some (p.add (i.toNat * te.sh.length)))) w
    | _, _ => False
  | .index t x ix => tiOf tt t fun ti => intOf' (e.ev ix) fun i => match ti.tag, e.ev x with
    | .str, some (.string s) => 0 ≤ i ∧ i < s.size ∧ K (.int .u8 (btI s i)) w
    | _, _ => False
  | .extract x i => match e.ev x with
    | some (.tuple vs) => match vs.toList.drop i with | v :: _ => K v w | [] => False
    | _ => False
  | .call { callee := .builtin b, args, argTypes } => match b, argTypes.toList, e.evs args.toList with
    | .len, t :: _, some (v :: _) => lenB tt t v w (fun v => K v w)
    | .append, [t, u], some [.slice a n c, .slice a' n' c'] => tiOf tt t fun ti => tiOf tt u fun tu => match ti.tag, tu.tag with
      | .slice el, .slice _ => tiOf tt el fun te => AppendW el te ⟨a, n, c⟩ ⟨a', n', c'⟩ w (fun s w => K (.slice s.a s.len s.cap) w)
      | _, _ => False
    | .append, [t, u], some [.slice a n c, .int k x] => tiOf tt t fun ti => tiOf tt u fun tu => match ti.tag, tu.tag with
      | .slice el, .int _ => tiOf tt el fun te => AppendZW el te ⟨a, n, c⟩ x w (fun s w => K (.slice s.a s.len s.cap) w)
      | _, _ => False
    | .delete, t :: _, some [x, k] => delB tt t x k w (fun w' => K undefs w')
    | .min, _, some [.int k a, .int _ b] => K (.int k (minI a b)) w
    | .max, _, some [.int k a, .int _ b] => K (.int k (maxI a b)) w
    | .copy, [t, u], some [.slice a n c, .slice a' n' c'] => tiOf tt t fun ti => match ti.tag with
      | .slice el => tiOf tt el fun te => ∃ vs, RowAt w a' (min n' n * te.sh.length) vs ∧ (∀ v, v ∈ vs → plainB v = true) ∧
          CopyW a w vs vs.length (fun w' => K (.int .i64 (min n' n : Nat)) w')
      | _ => False
    | .copy, [t, u], some [.slice a n c, .string s] => tiOf tt t fun ti => match ti.tag with
      | .slice el => tiOf tt el fun te => match Nat.beq te.sh.length 1 with
        | true => CopyW a w ((s.data.toList.take (min s.size n)).map fun b => .int .u8 b.toNat) (min s.size n) (fun w' => K (.int .i64 (min s.size n : Nat)) w')
        | false => False
      | _ => False
    | .cap, [t], some [.slice a n c] => tiOf tt t fun ti => match ti.tag with
      | .slice _ => K (.int .i64 c) w
      | _ => False
    | .clear, [t], some [.slice a n c] => tiOf tt t fun ti => match ti.tag with
      | .slice el => tiOf tt el fun te => ClearW a n te.sh.length te.zero w (fun w' => K undefs w')
      | _ => False
    | _, _, _ => False
  | .call { callee := .value f, args, argTypes } => match e.ev f, e.evs args.toList with
    | some (.func (.func g) ⟨x⟩ ⟨c⟩), some vs => CallW P g ⟨x ++ (vs ++ c)⟩ w (fun v w' => exRes tt o.type v (fun u => K u w'))
    | _, _ => False
  | .insert t m k x => putB P tt t (e.ev m) (e.ev k) (e.ev x) w (fun w' => K undefs w')
  | .range t x => rangeB tt t (e.ev x) w K
  | .next x s => nextB (e.ev x) s w K
  | .entry x => entryB (e.ev x) w K
  | _ => False
end Go.Den

/- The plainer reading of the code of a Go function: a region, a piece of code, a function. Conditions: none. -/
set_option linter.unusedVariables false
namespace Go.Den

def putE (e : Env) (d : Option Nat) (v : Value) : Env := match d with | none => e | some d => (d, v) :: e
def slotAt (all : List Oper) (j : Nat) : Option Nat := match all.drop j with | o :: _ => o.dst | [] => none

/-- Operations one after the other. -/
def denOps (P : Program) (tt : Tab) (all : List Oper) : List Oper → Env → World → (Env → World → Prop) → Prop
  | [], e, w, K => K e w
  | o :: r, e, w, K => match o.guard with
    | none => denOp P tt o e w (fun v w' => denOps P tt all r (putE e o.dst v) w' K)
    | some (j, want) => match slotAt all j with
      | none => False
      | some s => match e.find s with
        | some (.bool x) => BIf x
            (match want with
              | true => denOp P tt o ((s, .bool true) :: e) w (fun v w' => denOps P tt all r (putE ((s, .bool true) :: e) o.dst v) w' K)
              | false => denOps P tt all r (putE ((s, .bool true) :: e) o.dst undefs) w K)
            (match want with
              | true => denOps P tt all r (putE ((s, .bool false) :: e) o.dst undefs) w K
              | false => denOp P tt o ((s, .bool false) :: e) w (fun v w' => denOps P tt all r (putE ((s, .bool false) :: e) o.dst v) w' K))
        | some (.tuple _) => denOps P tt all r (putE e o.dst undefs) w K
        | _ => False

/-- A region in its parts. -/
def denSegs (P : Program) (tt : Tab) (all : List Oper) : List (Nat × Option (Nat × List (Nat × Sh))) → List Oper → Env → World → (Env → World → Prop) → Prop
  | [], ops, e, w, K => denOps P tt all ops e w K
  | (n, none) :: r, ops, e, w, K => denOps P tt all (ops.take n) e w (fun e' w' => denSegs P tt all r (ops.drop n) e' w' K)
  | (n, some (m, c)) :: r, ops, e, w, K => match Nat.beq (m &&& opMods (ops.take n)) 0 with
    | true => JoinW (shsOf c) (fun J => denOps P tt all (ops.take n) e w (fun e' w' => ask e' c (fun v => app (shsOf c) J v w')))
        (cur (shsOf c) (fun v w' => denSegs P tt all r (ops.drop n) (entries c v ++ e.keep m) w' K))
    | false => False

/-- What was read and does not wait for what is done now has to stand behind it. -/
def obl (m : Nat) : List (Nat × (World → Prop)) → World → Prop → Prop
  | [], w, R => R
  | (x, p) :: r, w, R => match Nat.testBit m x with | true => obl m r w R | false => p w ∧ obl m r w R
def nth : List Nat → Nat → Nat
  | [], _ => 0
  | x :: _, 0 => x
  | _ :: r, n + 1 => nth r n
/-- Operations in an order, where the model draws one. -/
def denDraw (P : Program) (tt : Tab) (all : List Oper) (al : List Nat) : List Nat → Env → World → List (Nat × (World → Prop)) → (List (Nat × (World → Prop)) → Env → World → Prop) → Prop
  | [], e, w, pend, K => K pend e w
  | i :: r, e, w, pend, K => match all.drop i with
    | [] => False
    | o :: _ => match o.guard with
      | none => match quietOp o.op with
        | true => denOp P tt o e w (fun v _ => denDraw P tt all al r (putE e o.dst v) w (match pureOp o.op with | true => pend | false => (i, fun u => denOp P tt o e u (fun v' _ => v' = v)) :: pend) K)
        | false => denOp P tt o e w (fun v w' => obl (nth al i) pend w' (denDraw P tt all al r (putE e o.dst v) w' pend K))
      | some (j, want) => match slotAt all j with
        | none => False
        | some s => match e.find s with
          | some (.bool x) => match quietOp o.op with
            | true => BIf x
              (match want with
                | true => denOp P tt o ((s, .bool true) :: e) w (fun v _ => denDraw P tt all al r (putE ((s, .bool true) :: e) o.dst v) w (match pureOp o.op with | true => pend | false => (i, fun u => denOp P tt o ((s, .bool true) :: e) u (fun v' _ => v' = v)) :: pend) K)
                | false => denDraw P tt all al r (putE ((s, .bool true) :: e) o.dst undefs) w pend K)
              (match want with
                | true => denDraw P tt all al r (putE ((s, .bool false) :: e) o.dst undefs) w pend K
                | false => denOp P tt o ((s, .bool false) :: e) w (fun v _ => denDraw P tt all al r (putE ((s, .bool false) :: e) o.dst v) w (match pureOp o.op with | true => pend | false => (i, fun u => denOp P tt o ((s, .bool false) :: e) u (fun v' _ => v' = v)) :: pend) K))
            | false => BIf x
              (match want with
                | true => denOp P tt o ((s, .bool true) :: e) w (fun v w' => obl (nth al i) pend w' (denDraw P tt all al r (putE ((s, .bool true) :: e) o.dst v) w' pend K))
                | false => denDraw P tt all al r (putE ((s, .bool true) :: e) o.dst undefs) w pend K)
              (match want with
                | true => denDraw P tt all al r (putE ((s, .bool false) :: e) o.dst undefs) w pend K
                | false => denOp P tt o ((s, .bool false) :: e) w (fun v w' => obl (nth al i) pend w' (denDraw P tt all al r (putE ((s, .bool false) :: e) o.dst v) w' pend K)))
          | some (.tuple _) => denDraw P tt all al r (putE e o.dst undefs) w pend K
          | _ => False
def lookMask1 : Operand → Nat
  | .tmp t => 1 <<< t
  | _ => 0
def lookMaskL : List Operand → Nat
  | [] => 0
  | x :: r => lookMask1 x ||| lookMaskL r
def dMask (d : Option Nat) : Nat := match d with | none => 0 | some d => 1 <<< d
def lookMask (all : List Oper) (o : Oper) : Nat := lookMaskL o.op.operands.toList ||| (match o.guard with | some (g, _) => dMask (slotAt all g) | none => 0)
def edgesMask (al : List Nat) : List Edge → Nat
  | [] => 0
  | e :: r => match Region.binds .any e with | true => (1 <<< e.on) ||| nth al e.on ||| edgesMask al r | false => edgesMask al r
def edgesIn (i : Nat) : List Edge → Bool
  | [] => true
  | e :: r => match Region.binds .any e, Nat.blt e.on i with | false, _ => edgesIn i r | true, true => edgesIn i r | true, false => false
def isSelect : Op → Bool
  | .select _ _ => true
  | _ => false
/-- Every operation: no select; waits for earlier ones alone; its mask holds no more than those that it waits for. -/
def opsOk (al : List Nat) : Nat → List Oper → Bool
  | _, [] => true
  | i, o :: r => match isSelect o.op, edgesIn i o.after.toList, Nat.beq (nth al i ||| edgesMask al o.after.toList) (edgesMask al o.after.toList) with
    | false, true, true => opsOk al (i + 1) r
    | _, _, _ => false
def pairOk (all : List Oper) (al : List Nat) (x y : Nat) : Bool :=
  match Nat.testBit (nth al y) x with
  | true => true
  | false => match all.drop x, all.drop y with
    | ox :: _, oy :: _ => match quietOp ox.op, Nat.beq (dMask ox.dst &&& (lookMask all oy ||| dMask oy.dst)) 0, Nat.beq (dMask oy.dst &&& lookMask all ox) 0 with
      | true, true, true => true
      | _, _, _ => false
    | _, _ => false
def pairsOk1 (all : List Oper) (al : List Nat) (y : Nat) : List Nat → Bool
  | [] => true
  | x :: r => match pairOk all al x y with | true => pairsOk1 all al y r | false => false
def pairsOk (all : List Oper) (al : List Nat) : List Nat → List Nat → Bool
  | _, [] => true
  | seen, y :: r => match pairsOk1 all al y seen with | true => pairsOk all al (y :: seen) r | false => false
def permOk (n : Nat) : Nat → List Nat → Bool
  | m, [] => Nat.beq (m + 1) (1 <<< n)
  | m, y :: r => match Nat.testBit m y, Nat.blt y n with | false, true => permOk n (m ||| (1 <<< y)) r | _, _ => false
def drawOk (all : List Oper) (al ord : List Nat) : Bool :=
  match opsOk al 0 all, permOk all.length 0 ord, pairsOk all al [] ord with
  | true, true, true => true
  | _, _, _ => false

def denTree (P : Program) (tt : Tab) (all : List Oper) (al : List Nat) : OT → List (Nat × (World → Prop)) → Env → World → (Env → World → Prop) → Prop
  | .leaf, _, e, w, K => K e w
  | .stop, _, _, _, _ => True
  | .alt l t more, pend, e, w, K => denDraw P tt all al l e w pend (fun pend' e' w' => denTree P tt all al t pend' e' w' K) ∧ denTree P tt all al more pend e w K
def memN (i : Nat) : List Nat → Bool
  | [] => false
  | x :: r => match Nat.beq x i with | true => true | false => memN i r
def rmN (i : Nat) : List Nat → Option (List Nat)
  | [] => none
  | x :: r => match Nat.beq x i with | true => some r | false => match rmN i r with | none => none | some l => some (x :: l)
def rmAll : List Nat → List Nat → Option (List Nat)
  | [], S => some S
  | i :: r, S => match rmN i S with | none => none | some S' => rmAll r S'
def headsT : OT → List Nat
  | .alt (i :: _) _ more => i :: headsT more
  | _ => []
def anyAnc (m : Nat) : List Nat → Bool
  | [] => false
  | x :: r => match Nat.testBit m x with | true => true | false => anyAnc m r
def coverOk (al hs S : List Nat) : List Nat → Bool
  | [] => true
  | j :: r => match memN j hs, anyAnc (nth al j) S with | false, false => false | _, _ => coverOk al hs S r
def quietAll (all : List Oper) : List Nat → Bool
  | [] => true
  | i :: r => match all.drop i with | o :: _ => (match quietOp o.op with | true => quietAll all r | false => false) | [] => false
def topOk (al S : List Nat) (t : OT) : Bool := match S with
  | [] => (match t with | .leaf => true | _ => false)
  | _ => coverOk al (headsT t) S S
def treeOk (all : List Oper) (al : List Nat) : OT → List Nat → List Nat → Bool
  | .leaf, A, S => (match S with | [] => true | _ => false)
  | .stop, A, S => true
  | .alt l t more, A, S => match l with
    | [] => false
    | i :: L => match rmAll (i :: L) S with
      | none => false
      | some S' => match pairsOk1 all al i A, quietAll all L, pairsOk all al A L, topOk al S' t, treeOk all al t (A ++ L) S', treeOk all al more A S with
        | true, true, true, true, true, true => true
        | _, _, _, _, _, _ => false
def upTo : Nat → List Nat
  | 0 => []
  | n + 1 => n :: upTo n
def treeAllOk (all : List Oper) (al ord : List Nat) (t : OT) : Bool :=
  match opsOk al 0 all, rmAll ord (upTo all.length) with
  | true, some S => match quietAll all ord, pairsOk all al [] ord, topOk al S t, treeOk all al t ord S with
    | true, true, true, true => true
    | _, _, _, _ => false
  | _, _ => false
/-- A region: in its parts, or, where the model draws an order, in one. -/
def denReg (P : Program) (tt : Tab) (an : Ann) (ops : Array Oper) (draw : Bool) (e : Env) (w : World) (K : Env → World → Prop) : Prop :=
  match draw with
  | false => denSegs P tt ops.toList (match an with | .reg l => l | _ => []) ops.toList e w K
  | true => match an with
    | .draw al ord => match drawOk ops.toList al ord with
      | true => denDraw P tt ops.toList al ord e w.drew [] (fun _ e w => K e w)
      | false => False
    | .drawT al ord t => match treeAllOk ops.toList al ord t with
      | true => denDraw P tt ops.toList al ord e w.drew [] (fun pend e w => denTree P tt ops.toList al t pend e w K)
      | false => False
    | _ => False

def den (P : Program) (tt : Tab) : Code → Ann → Env → World → Kont → Prop
  | .skip, _, e, w, K => K.norm e w
  | .region _ ops d, an, e, w, K => denReg P tt an ops d e w K.norm
  | .seq a b, an, e, w, K => match an with
    | .seq x y => den P tt a x e w { K with norm := fun e' w' => den P tt b y e' w' K }
    | .join m c x y => match stays m a with
      | true => JoinW (shsOf c) (fun J => den P tt a x e w { K with norm := fun e' w' => ask e' c (fun v => app (shsOf c) J v w') })
          (cur (shsOf c) (fun v w' => den P tt b y (entries c v ++ e.keep m) w' K))
      | false => False
    | _ => False
  | .cond c a b, an, e, w, K => match an with
    | .cond x y => match e.ev c with
      | some (.bool t) => BIf t (den P tt a x e w K) (den P tt b y e w K)
      | _ => False
    | _ => False
  | .block id c, an, e, w, K => match an with
    | .in_ x => den P tt c x e w { K with exits := (id, K.norm) :: K.exits }
    | _ => False
  | .loop c, an, e, w, K => match an with
    | .loop m cs x => match stays m c with
      | true => ask e cs (fun v => LoopW (shsOf cs) (fun J => cur (shsOf cs) (fun v w => den P tt c x (entries cs v ++ e.keep m) w { K with norm := fun e' w' => ask e' cs (fun v' => app (shsOf cs) J v' w') })) v w)
      | false => False
    | _ => False
  | .exit id, _, e, w, K => match findK K.exits id with | some k => k e w | none => False
  | .ret, _, e, w, K => K.ret e w
  | _, _, _, _, _ => False

/-- The results. -/
def resVals (tt : Tab) (e : Env) (w : World) : List ResultVar → (List Value → Prop) → Prop
  | [], K => K []
  | .tmp t :: r, K => match e.find t with | some v => resVals tt e w r (fun l => K (v :: l)) | none => False
  | .cell a t :: r, K => tiOf tt t fun ti => addrOf (e.find a) fun p => ld ti w p (fun v => resVals tt e w r (fun l => K (v :: l)))
def oneOf : List Value → Value
  | [v] => v
  | l => .tuple ⟨l⟩
def argEnv : Nat → List Value → Env
  | _, [] => []
  | i, v :: r => (i, v) :: argEnv (i + 1) r
def retK (tt : Tab) (rs : List ResultVar) (K : Value → World → Prop) (e : Env) (w : World) : Prop := resVals tt e w rs (fun l => K (oneOf l) w)
def denFn (P : Program) (tt : Tab) (fn : Func) (an : Ann) (args : List Value) (w : World) (K : Value → World → Prop) : Prop :=
  match fn.body with
  | some c => den P tt c an (argEnv 0 args) w ⟨retK tt fn.results.toList K, [], retK tt fn.results.toList K⟩
  | none => False
/-- What is checked of a function beside its reading. -/
def fnOk (fn : Func) (nargs : Nat) : Bool := match fn.body with
  | some c => Nat.ble (mods c + 1) (1 <<< fn.ntmps) && Nat.ble nargs fn.ntmps
  | none => false
end Go.Den

/- Whatever one operation is asked in the plainer reading, the model's operation does. Conditions: the table of types is the program's (TabOk). -/
set_option linter.unusedVariables false
set_option linter.unusedSimpArgs false
namespace Go.Den

/-! ## The table of types is the program's -/
def Tag.Fits (P : Program) (t : Nat) : Tag → Prop
  | .int k => P.underlying t = some (.int k)
  | .bool => P.underlying t = some .bool
  | .str => P.underlying t = some .string
  | .ptr e => P.underlying t = some (.pointer e)
  | .slice e => P.underlying t = some (.slice e)
  | .map k e => P.underlying t = some (.map k e)
  | .array n e => P.underlying t = some (.array n e)
  | .struct fs => ∃ fields : Array Field, P.underlying t = some (.struct fields) ∧ fields.toList.map (fun f => (f.type, f.offset)) = fs
  | .tuple ts => P.underlying t = some (.tuple ⟨ts⟩)
  | .func => ∃ a b c, P.underlying t = some (.func a b c)
  | .other => ∃ d, P.underlying t = some d ∧ (match d with | .struct _ => False | .array _ _ => False | _ => True)
/-- What no struct is has a zero that is no struct. -/
def flatB (P : Program) (t : Nat) (ti : TI) : Bool := match ti.tag.isAgg, P.info? t with
  | false, some i => (match i.zero with | some (.agg _) => false | _ => true)
  | _, _ => true
structure TIOk (P : Program) (t : Nat) (ti : TI) : Prop where
  info : ∃ i z, P.info? t = some i ∧ i.size = ti.sh.length ∧ i.bytes = ti.bytes ∧ i.zero = some z ∧ z.cells.toList = ti.zero
  fits : ti.tag.Fits P t
  zlen : ti.zero.length = ti.sh.length
  flat : flatB P t ti = true
def TabOk (P : Program) : Tab → Prop
  | [] => True
  | (t, ti) :: r => TIOk P t ti ∧ TabOk P r
theorem TabOk.find {P : Program} : ∀ {tt : Tab} {t : Nat} {ti : TI}, TabOk P tt → tt.find t = some ti → TIOk P t ti
  | [], t, ti, _, h => by simp [Tab.find] at h
  | (j, x) :: r, t, ti, h, hf => by
    unfold Tab.find at hf
    split at hf
    · rename_i hb
      injection hf with hf; subst hf
      have := Nat.eq_of_beq_eq_true hb
      subst this
      exact h.1
    · exact TabOk.find h.2 hf

section
variable {P : Program}
theorem run_sizeOf' {t : Nat} {ti : TI} (h : TIOk P t ti) (w : World) : (sizeOf t).run P w = .ok ti.sh.length w := by
  obtain ⟨i, z, hi, hs, _⟩ := h.info
  simp [sizeOf, typeInfo, hi, hs]
theorem run_zeroValue' {t : Nat} {ti : TI} (h : TIOk P t ti) (w : World) : ∃ z, (zeroValue t).run P w = .ok z w ∧ z.cells = ⟨ti.zero⟩ := by
  obtain ⟨i, z, hi, _, _, hz, hc⟩ := h.info
  exact ⟨z, by simp [zeroValue, typeInfo, hi, hz], by rw [← hc]⟩
theorem run_zeroFlat {t : Nat} {ti : TI} (h : TIOk P t ti) (hf : ti.tag.isAgg = false) {z : Value} (hz : ti.zero = [z]) (w : World) : (zeroValue t).run P w = .ok z w := by
  obtain ⟨i, y, hi, _, _, hy, hc⟩ := h.info
  have hfl := h.flat
  unfold flatB at hfl
  rw [hf, hi] at hfl
  simp only [hy] at hfl
  have : y = z := by
    rw [hz] at hc
    cases y <;> first | (simp at hfl; done) | (simpa [Value.cells] using hc)
  subst this
  simp [zeroValue, typeInfo, hi, hy]
theorem run_isAgg' {t : Nat} {ti : TI} (h : TIOk P t ti) (w : World) : (isAgg t).run P w = .ok ti.tag.isAgg w := by
  have hf := h.fits
  cases hk : ti.tag with
  | int k => rw [hk] at hf; simp only [Tag.Fits] at hf; simp [isAgg, run_underlying hf, Tag.isAgg]
  | bool => rw [hk] at hf; simp only [Tag.Fits] at hf; simp [isAgg, run_underlying hf, Tag.isAgg]
  | str => rw [hk] at hf; simp only [Tag.Fits] at hf; simp [isAgg, run_underlying hf, Tag.isAgg]
  | ptr e => rw [hk] at hf; simp only [Tag.Fits] at hf; simp [isAgg, run_underlying hf, Tag.isAgg]
  | slice e => rw [hk] at hf; simp only [Tag.Fits] at hf; simp [isAgg, run_underlying hf, Tag.isAgg]
  | map k e => rw [hk] at hf; simp only [Tag.Fits] at hf; simp [isAgg, run_underlying hf, Tag.isAgg]
  | array n e => rw [hk] at hf; simp only [Tag.Fits] at hf; simp [isAgg, run_underlying hf, Tag.isAgg]
  | tuple ts => rw [hk] at hf; simp only [Tag.Fits] at hf; simp [isAgg, run_underlying hf, Tag.isAgg]
  | struct fs => rw [hk] at hf; obtain ⟨fs, hf, _⟩ := hf; simp [isAgg, run_underlying hf, Tag.isAgg]
  | func => rw [hk] at hf; obtain ⟨a, b, c, hf⟩ := hf; simp [isAgg, run_underlying hf, Tag.isAgg]
  | other =>
    rw [hk] at hf; obtain ⟨d, hf, hd⟩ := hf
    simp only [isAgg, Sem.run_bind, run_underlying hf, Tag.isAgg]
    cases d <;> simp_all
/-! ## Loading and storing -/
theorem run_load_cell {w : World} {p : Addr} {v : Value} (h : w.cell? p = some v) : (load p).run P w = .ok v w := by simp [load, Sem.run, h]
theorem ldCells_run {w : World} {p : Addr} : ∀ (l : List Sh) (i : Nat) (acc : Array Value) (K : List Value → Prop), ldCells w p i l K →
    ∃ vs, K vs ∧ vs.length = l.length ∧ (loadCellsFrom p i l.length acc).run P w = .ok (acc ++ ⟨vs⟩) w
  | [], i, acc, K, h => ⟨[], h, rfl, by simp [loadCellsFrom]⟩
  | s :: r, i, acc, K, h => by
    obtain ⟨x, hx, h⟩ := h
    obtain ⟨vs, hk, hl, hr⟩ := ldCells_run r (i + 1) (acc.push (s.mk x)) _ h
    refine ⟨s.mk x :: vs, hk, by simp [hl], ?_⟩
    simp only [List.length_cons, loadCellsFrom, Sem.run_bind, run_load_cell hx, Result.andThen]
    rw [hr]
    simp
theorem ld_run {t : Nat} {ti : TI} (ht : TIOk P t ti) {w : World} {p : Addr} {K : Value → Prop} (h : ld ti w p K) : ∃ v, K v ∧ (loadVar t p).run P w = .ok v w := by
  unfold ld at h
  have ha := run_isAgg' ht w
  have hs := run_sizeOf' ht w
  split at h
  · rename_i s hg hsh
    obtain ⟨x, hx, hk⟩ := h
    exact ⟨_, hk, by simp [loadVar, ha, hg, hx]⟩
  · rename_i l hg
    obtain ⟨vs, hk, hl, hr⟩ := ldCells_run (P := P) ti.sh 0 #[] _ h
    exact ⟨_, hk, by simp [loadVar, ha, hg, hs, loadCells, hr]⟩
  · exact h.elim
theorem May.store {w : World} {p : Addr} (hc : May w p) {v : Value} (hv : ∀ cs, v ≠ .agg cs) (hv' : ∀ cs, v ≠ .tuple cs) : (store p v).run P w = .ok () (w.setCell p v) := by
  obtain ⟨h1, h2⟩ := hc
  obtain ⟨u, hu⟩ := Option.isSome_iff_exists.1 h1
  cases v <;> first | exact absurd rfl (hv _) | exact absurd rfl (hv' _) | (unfold Go.store; simp [Sem.run, hu, h2])
theorem May.of_set {w : World} {p q : Addr} (hc : May w p) (v : Value) : May (w.setCell q v) p := by
  obtain ⟨h1, h2⟩ := hc
  refine ⟨?_, ?_⟩
  · obtain ⟨u, hu⟩ := Option.isSome_iff_exists.1 h1
    obtain ⟨u', hu'⟩ := Go.RowKit.cell?_setCell_some (w := w) (p := q) (x := v) (q := p) (v := u) hu
    simp [hu']
  · simpa using h2
def Plain1 (v : Value) : Prop := (∀ cs, v ≠ .agg cs) ∧ ∀ cs, v ≠ .tuple cs
theorem puts_run {p : Addr} : ∀ (vs : List Value) (i : Nat) (w : World), (∀ v, v ∈ vs → Plain1 v) → (∀ j, j < vs.length → May w (p.add (i + j))) → (storeCells p vs i).run P w = .ok () (puts w p i vs)
  | [], i, w, _, _ => by simp [storeCells, puts]
  | v :: r, i, w, hp, h => by
    have h0 := h 0 (by simp)
    have hv := hp v (by simp)
    have hr := puts_run r (i + 1) (w.setCell (p.add i) v) (fun u hu => hp u (by simp [hu])) (fun j hj => by
      have := (h (j + 1) (by simpa using hj)).of_set (q := p.add i) v
      rwa [show i + (j + 1) = i + 1 + j by omega] at this)
    simp only [storeCells, Sem.run_bind, May.store (P := P) (show May w (p.add i) from h0) hv.1 hv.2, puts, Result.andThen]
    rw [hr]
theorem plainB_ok {v : Value} (h : plainB v = true) : Plain1 v := by
  cases v <;> simp_all [plainB, Plain1]
theorem plainL_ok : ∀ {l : List Value}, plainL l = true → ∀ v, v ∈ l → Plain1 v
  | [], _, v, hv => by simp at hv
  | x :: r, h, v, hv => by
    unfold plainL at h
    split at h
    · rename_i hx
      rcases List.mem_cons.1 hv with rfl | hv
      · exact plainB_ok hx
      · exact plainL_ok h v hv
    · exact absurd h (by simp)
theorem cellsOf_eq (v : Value) : v.cells.toList = cellsOf v := by cases v <;> rfl
theorem addr_add_zero (p : Addr) : p.add 0 = p := by simp [Addr.add]
theorem storeB_run {t : Nat} {ti : TI} (ht : TIOk P t ti) {w : World} {p : Addr} {v : Value} {K : Value → World → Prop} (h : storeB ti w p v K) :
    ∃ w', K undefs w' ∧ (storeVar t p v).run P w = .ok () w' := by
  unfold storeB at h
  have hs := run_sizeOf' ht w
  split at h
  · rename_i h1 h2
    have hl := Nat.eq_of_beq_eq_true h1
    have hlen : v.cells.size = ti.sh.length := by rw [hl, ← cellsOf_eq]; simp
    have hrun : ∀ w', (storeCells p (cellsOf v)).run P w = .ok () w' → (storeVar t p v).run P w = .ok () w' := by
      intro w' hr
      simp only [storeVar, Sem.run_bind, hs, Result.andThen]
      rw [if_neg (by simp [hlen])]
      rw [cellsOf_eq]
      simpa using hr
    split at h
    · rename_i x hx
      obtain ⟨hc, hk⟩ := h
      refine ⟨_, hk, hrun _ ?_⟩
      have := puts_run (P := P) (p := p) [x] 0 w (fun u hu => plainL_ok h2 u (by rw [hx]; exact hu)) (fun j hj => by
        have : j = 0 := by simpa using hj
        subst this; rw [addr_add_zero]; exact hc)
      rw [hx]
      simpa [puts, addr_add_zero] using this
    · obtain ⟨hc, hk⟩ := h
      refine ⟨_, hk, hrun _ ?_⟩
      exact puts_run (P := P) (p := p) (cellsOf v) 0 w (plainL_ok h2) (fun j hj => by simpa using hc j hj)
  · exact h.elim

/-! ## One operation -/
def Agree (e : Env) (a : Act) : Prop := ∀ i v, e.find i = some v → a.tmps.getD i undef = v
theorem Agree.ev {e : Env} {a : Act} (h : Agree e a) {x : Operand} {v : Value} (hv : e.ev x = some v) : a.eval x = v := by
  cases x with
  | tmp t => exact h t v hv
  | const c => simp only [Env.ev] at hv; injection hv
  | global g => simp only [Env.ev] at hv; injection hv
  | func f => simp only [Env.ev] at hv; injection hv
theorem Agree.evs {e : Env} {a : Act} (h : Agree e a) : ∀ {l : List Operand} {vs : List Value}, e.evs l = some vs → l.map a.eval = vs
  | [], vs, hv => by cases hv; rfl
  | x :: r, vs, hv => by
    unfold Env.evs at hv
    split at hv
    · rename_i v l h1 h2
      injection hv with hv; subst hv
      simp only [List.map_cons, h.ev h1, h.evs h2]
    · simp at hv
theorem Agree.evp {e : Env} {a : Act} (h : Agree e a) : ∀ {l : List (Nat × Operand)} {vs : List (Nat × Value)}, e.evp l = some vs → l.map (fun x => (x.1, a.eval x.2)) = vs
  | [], vs, hv => by cases hv; rfl
  | (i, x) :: r, vs, hv => by
    unfold Env.evp at hv
    split at hv
    · rename_i v l h1 h2
      injection hv with hv; subst hv
      simp only [List.map_cons, h.ev h1, h.evp h2]
    · simp at hv

section
variable {o : Oper} {a : Act} {w w' : World} {next : Act → World → Prop} {Q : Exit → Act → World → Prop} {v : Value}
theorem wp_of_value (h : (execOp a.eval o).run P w = .ok (.value v) w') (hn : next (a.put o.dst v) w') : o.wp P a w next Q := by
  unfold Oper.wp; rw [h]; exact hn
theorem wp_of_skip (h : (execOp a.eval o).run P w = .ok .skip w') (hn : next (a.put o.dst undef) w') : o.wp P a w next Q := by
  unfold Oper.wp; rw [h]; exact hn
end
theorem run_vv {s : Sem Value} {w w' : World} {v : Value} (h : s.run P w = .ok v w') : (do pure (.value (← s)) : Sem Next).run P w = .ok (.value v) w' := by
  simp [h]
theorem addrOf_some {v : Option Value} {K : Addr → Prop} (h : addrOf v K) : ∃ p, v = some (.pointer (some p)) ∧ K p := by
  unfold addrOf at h
  split at h
  · exact ⟨_, rfl, h⟩
  · exact h.elim
theorem tiOf_some {tt : Tab} {t : Nat} {K : TI → Prop} (h : tiOf tt t K) : ∃ ti, tt.find t = some ti ∧ K ti := by
  unfold tiOf at h
  split at h
  · rename_i ti h'; exact ⟨ti, h', h⟩
  · exact h.elim
theorem intOf_some {v : Option Value} {K : Int → Prop} (h : intOf' v K) : ∃ k n, v = some (.int k n) ∧ K n := by
  unfold intOf' at h
  split at h
  · exact ⟨_, _, rfl, h⟩
  · exact h.elim
end
end Go.Den

/- Each operation of the plainer reading is the model's: numbers, texts, comparisons, lengths, cuts. Conditions: the table of types is the program's (TabOk). -/
set_option linter.unusedVariables false
set_option linter.unusedSimpArgs false
namespace Go.Den
variable {P : Program}
theorem kEq_ok {k j : IntKind} (h : kEq k j = true) : k = j := by cases k <;> cases j <;> first | rfl | simp [kEq] at h
theorem run_binOp {op : BinOp} {t : Nat} {x y : Operand} {a b v : Value} {w : World} (hg : (eqGuard op t x y a b).run P w = .ok () w) (h : (binOp op t a b).run P w = .ok v w) :
    (do eqGuard op t x y a b; binOp op t a b : Sem Value).run P w = .ok v w := by simp [hg, h]
theorem eqGuard_other {op : BinOp} {t : Nat} {x y : Operand} {a b : Value} {w : World} (h1 : a ≠ .nilIface ∨ b ≠ .nilIface) (h2 : ∀ c, a ≠ .agg c) : (eqGuard op t x y a b).run P w = .ok () w := by
  unfold eqGuard
  cases op <;> cases a <;> cases b <;> simp_all
theorem intB_run {op : BinOp} {t : Nat} {k j : IntKind} {a b : Int} {K : Value → Prop} {w : World} (h : intB op k a j b K) : ∃ v, K v ∧ (binOp op t (.int k a) (.int j b)).run P w = .ok v w := by
  unfold intB at h
  split at h
  · exact ⟨_, h.2, by simp [binOp, Op.shift, shlI, h.1, Int.not_lt.2 h.1]⟩
  · exact ⟨_, h.2, by simp [binOp, Op.shift, shrI, h.1, Int.not_lt.2 h.1]⟩
  · split at h
    · exact h.elim
    · rename_i hk
      obtain rfl := kEq_ok hk
      split at h <;> first
        | exact h.elim
        | (refine ⟨_, h.2, ?_⟩; simp [binOp, Op.intDiv, h.1]; done)
        | (refine ⟨_, h, ?_⟩; simp only [binOp, ne_eq, not_true, if_false]; rfl)
theorem strB_run {op : BinOp} {t : Nat} {a b : ByteArray} {K : Value → Prop} {w : World} (h : strB op a b K) : ∃ v, K v ∧ (binOp op t (.string a) (.string b)).run P w = .ok v w := by
  unfold strB at h
  split at h <;> first
    | exact h.elim
    | (refine ⟨_, h.2, ?_⟩; simp only [binOp, Op.stringOp]; rw [if_neg (by have := h.1; omega)]; rfl)
    | (refine ⟨_, h, ?_⟩; rfl)
theorem equal_step (t : Nat) (x y : Value) : Op.equal t x y = Op.equalIn (9999 + 1) t x y := rfl
theorem equal_bool {t : Nat} (h : P.underlying t = some .bool) (a b : Bool) (w : World) : (Op.equal t (.bool a) (.bool b)).run P w = .ok (a == b) w := by
  rw [equal_step]; unfold Op.equalIn; simp only [Sem.run_bind, run_underlying h, Result.andThen]; rfl
theorem equal_ptr_nil {t e : Nat} (h : P.underlying t = some (.pointer e)) (a : Option Addr) (w : World) : (Op.equal t (.pointer a) (.pointer none)).run P w = .ok a.isNone w := by
  cases a <;> (rw [equal_step]; unfold Op.equalIn; simp only [Sem.run_bind, run_underlying h, Result.andThen]; rfl)
theorem equal_nil_ptr {t e : Nat} (h : P.underlying t = some (.pointer e)) (a : Option Addr) (w : World) : (Op.equal t (.pointer none) (.pointer a)).run P w = .ok a.isNone w := by
  rw [equal_step]; unfold Op.equalIn; simp only [Sem.run_bind, run_underlying h, Result.andThen]; rfl
theorem equal_slice_nil {t e : Nat} (h : P.underlying t = some (.slice e)) (a : Option Addr) (l c l' c' : Nat) (w : World) : (Op.equal t (.slice a l c) (.slice none l' c')).run P w = .ok a.isNone w := by
  cases a <;> (rw [equal_step]; unfold Op.equalIn; simp only [Sem.run_bind, run_underlying h, Result.andThen]; rfl)
theorem eqB_run {op : BinOp} {t : Nat} {x y : Value} {b : Bool} {K : Value → Prop} {w : World} (h : eqB op b K) (he : (Op.equal t x y).run P w = .ok b w)
    (h1 : binOp .eql t x y = (do pure (.bool (← Op.equal t x y)))) (h2 : binOp .neq t x y = (do pure (.bool (!(← Op.equal t x y))))) : ∃ v, K v ∧ (binOp op t x y).run P w = .ok v w := by
  unfold eqB at h
  split at h
  · exact ⟨_, h, by rw [h1]; simp [he]⟩
  · exact ⟨_, h, by rw [h2]; simp [he]⟩
  · exact h.elim
theorem binB_run {ti : TI} {op : BinOp} {t : Nat} {xo yo : Operand} {x y : Value} {K : Value → Prop} {w : World} (ht : TIOk P t ti) (h : binB ti.tag op x y K) :
    ∃ v, K v ∧ (do eqGuard op t xo yo x y; binOp op t x y : Sem Value).run P w = .ok v w := by
  unfold binB at h
  have hf := ht.fits
  split at h
  · obtain ⟨v, hk, hr⟩ := intB_run (P := P) (t := t) (w := w) h
    exact ⟨v, hk, run_binOp (eqGuard_other (.inl (by simp)) (by simp)) hr⟩
  · obtain ⟨v, hk, hr⟩ := strB_run (P := P) (t := t) (w := w) h
    exact ⟨v, hk, run_binOp (eqGuard_other (.inl (by simp)) (by simp)) hr⟩
  · split at h
    · rename_i htag
      rw [htag] at hf
      simp only [Tag.Fits] at hf
      obtain ⟨v, hk, hr⟩ := eqB_run (P := P) (t := t) (w := w) h (equal_bool hf _ _ w) rfl rfl
      exact ⟨v, hk, run_binOp (eqGuard_other (.inl (by simp)) (by simp)) hr⟩
    · exact h.elim
  · split at h
    · rename_i htag
      rw [htag] at hf
      simp only [Tag.Fits] at hf
      rename_i a _ _ _
      obtain ⟨v, hk, hr⟩ := eqB_run (P := P) (t := t) (w := w) h (equal_ptr_nil hf _ w) rfl rfl
      exact ⟨v, hk, run_binOp (eqGuard_other (.inl (by simp)) (by simp)) hr⟩
    · exact h.elim
  · split at h
    · rename_i htag
      rw [htag] at hf
      simp only [Tag.Fits] at hf
      obtain ⟨v, hk, hr⟩ := eqB_run (P := P) (t := t) (w := w) h (equal_nil_ptr hf _ w) rfl rfl
      exact ⟨v, hk, run_binOp (eqGuard_other (.inl (by simp)) (by simp)) hr⟩
    · exact h.elim
  · split at h
    · rename_i htag
      rw [htag] at hf
      simp only [Tag.Fits] at hf
      rename_i a _ _ _ _ _ _
      obtain ⟨v, hk, hr⟩ := eqB_run (P := P) (t := t) (w := w) h (equal_slice_nil hf _ _ _ _ _ w) rfl rfl
      exact ⟨v, hk, run_binOp (eqGuard_other (.inl (by simp)) (by simp)) hr⟩
    · exact h.elim
  · exact h.elim
theorem eqGuard_agg {op : BinOp} {t : Nat} {xo yo : Operand} {xs ys : Array Value} {w : World} (h : P.eqGuardType P.depth t = false) :
    (eqGuard op t xo yo (.agg xs) (.agg ys)).run P w = .ok () w := by
  cases op <;> first
    | rfl
    | (unfold eqGuard
       simp only [Sem.run_bind, run_program, Result.andThen, h, Bool.not_false, Bool.not_true, if_true, Bool.false_eq_true, if_false]
       first | rfl | simp [run_program, h, Result.andThen])
theorem aggB_run {l : List Sh} {op : BinOp} {t : Nat} {xo yo : Operand} {xs ys : List Value} {K : Value → Prop} {w : World} (h : aggB P t l op xs ys K) :
    ∃ v, K v ∧ (do eqGuard op t xo yo (.agg ⟨xs⟩) (.agg ⟨ys⟩); binOp op t (.agg ⟨xs⟩) (.agg ⟨ys⟩) : Sem Value).run P w = .ok v w := by
  unfold aggB at h
  split at h
  · rename_i h1 h2
    obtain ⟨⟨hg, he⟩, h⟩ := h
    obtain ⟨v, hk, hr⟩ := eqB_run (P := P) (t := t) (w := w) h (he xs ys w h1 h2) rfl rfl
    exact ⟨v, hk, run_binOp (eqGuard_agg hg) hr⟩
  · exact h.elim
theorem unB_run {op : UnOp} {x : Value} {K : Value → Prop} {w : World} (h : unB op x K) : ∃ v, K v ∧ (Op.unary op x).run P w = .ok v w := by
  unfold unB at h
  split at h <;> first
    | exact h.elim
    | (refine ⟨_, h, ?_⟩; rfl)
end Go.Den

/- Each operation of the plainer reading is the model's: addresses, fields, elements, lengths, cuts. Conditions: the table of types is the program's (TabOk). -/
set_option linter.unusedVariables false
set_option linter.unusedSimpArgs false
namespace Go.Den
variable {P : Program}
theorem fits_of {t : Nat} {ti : TI} {tag : Tag} (ht : TIOk P t ti) (h : ti.tag = tag) : tag.Fits P t := h ▸ ht.fits
theorem lenB_run {tt : Tab} (htt : TabOk P tt) {t ty : Nat} {v : Value} {w : World} {K : Value → Prop} (h : lenB tt t v w K) (ts : Array Nat) (hts : ts[0]? = some t) (vs : Array Value) (hvs : vs[0]? = some v) :
    ∃ u, K u ∧ (Builtin.len_ ts ty vs).run P w = .ok u w := by
  obtain ⟨ti, hti, h'⟩ := tiOf_some h
  clear h
  have ht := htt.find hti
  unfold Builtin.len_
  simp only [hts, hvs]
  split at h'
  · rename_i htag; exact ⟨_, h', by simp [run_underlying (fits_of ht htag : P.underlying t = _), goInt]⟩
  · rename_i htag; exact ⟨_, h', by simp [run_underlying (fits_of ht htag : P.underlying t = _), goInt]⟩
  · rename_i htag; exact ⟨_, h', by simp [run_underlying (fits_of ht htag : P.underlying t = _), goInt]⟩
  · rename_i htag
    obtain ⟨te, hte, h⟩ := tiOf_some h'
    clear h'
    split at h
    · rename_i htag2
      exact ⟨_, h, by simp [run_underlying (fits_of ht htag : P.underlying t = _), run_underlying (fits_of (htt.find hte) htag2 : P.underlying _ = _), goInt]⟩
    · exact h.elim
  · rename_i htag; exact ⟨_, h', by simp [run_underlying (fits_of ht htag : P.underlying t = _), goInt]⟩
  · rename_i htag
    obtain ⟨es, clock, hg, h⟩ := h'
    exact ⟨_, h, by simp [run_underlying (fits_of ht htag : P.underlying t = _), goInt, getObj, Sem.run, hg]⟩
  · exact h'.elim
theorem bound_run {v : Option (Option Value)} {d y : Int} {K : Int → Prop} (h : bound v d y K) :
    (v = none ∧ K d) ∨ ∃ k n, v = some (some (.int k n)) ∧ 0 ≤ n ∧ n ≤ y ∧ K n := by
  unfold bound at h
  split at h
  · exact .inl ⟨rfl, h⟩
  · exact h.elim
  · exact .inr ⟨_, _, rfl, h⟩
  · exact h.elim
theorem sliceBound_run {k : IntKind} {n : Int} {y : Nat} {c : BoundsCode} {w : World} (h0 : 0 ≤ n) (h1 : n ≤ y) : (Instr.sliceBound (.int k n) y c).run P w = .ok n.toNat w := by
  simp [Instr.sliceBound, asIntOf, h0, h1]
theorem sliceBounds2_run {lo hi : Option (Option Value)} {isS : Bool} {len cap : Nat} {w : World} {K : Int → Int → Prop} {lo' hi' : Option Value} (hlo : ∀ v, lo = some (some v) → lo' = some v) (hlo0 : lo = none → lo' = none)
    (hhi : ∀ v, hi = some (some v) → hi' = some v) (hhi0 : hi = none → hi' = none) (h : bound hi len cap fun h => bound lo 0 h fun l => K l h) :
    ∃ l h : Int, 0 ≤ l ∧ 0 ≤ h ∧ K l h ∧ (Instr.sliceBounds isS len cap lo' hi' none).run P w = .ok (l.toNat, h.toNat, cap) w := by
  have hb := bound_run h
  clear h
  rcases hb with ⟨rfl, h⟩ | ⟨k, n, rfl, h0, h1, h⟩
  · have e1 := hhi0 rfl
    subst e1
    have hb := bound_run h
    clear h
    rcases hb with ⟨rfl, h⟩ | ⟨k', m, rfl, h2, h3, h⟩
    · have e2 := hlo0 rfl
      subst e2
      exact ⟨0, len, by omega, by omega, h, by simp [Instr.sliceBounds]⟩
    · have e2 := hlo _ rfl
      subst e2
      exact ⟨m, len, by omega, by omega, h, by simp [Instr.sliceBounds, sliceBound_run (P := P) h2 h3]⟩
  · have e1 := hhi _ rfl
    subst e1
    have hb := bound_run h
    clear h
    rcases hb with ⟨rfl, h⟩ | ⟨k', m, rfl, h2, h3, h⟩
    · have e2 := hlo0 rfl
      subst e2
      exact ⟨0, n, by omega, by omega, h, by simp [Instr.sliceBounds, sliceBound_run (P := P) h0 h1]⟩
    · have e2 := hlo _ rfl
      subst e2
      exact ⟨m, n, by omega, by omega, h, by simp [Instr.sliceBounds, sliceBound_run (P := P) h0 h1, sliceBound_run (P := P) (y := n.toNat) h2 (by omega)]⟩
theorem sliceBounds3_run {lo hi mx : Option (Option Value)} {isS : Bool} {len cap : Nat} {w : World} {K : Int → Int → Int → Prop} {lo' hi' mx' : Option Value} (hlo : ∀ v, lo = some (some v) → lo' = some v) (hlo0 : lo = none → lo' = none)
    (hhi : ∀ v, hi = some (some v) → hi' = some v) (hmx : ∀ v, mx = some (some v) → mx' = some v) (hhi1 : hi ≠ none) (hmx1 : mx ≠ none) (h : bound mx cap cap fun m => bound hi len m fun h => bound lo 0 h fun l => K l h m) :
    ∃ l h m : Int, 0 ≤ l ∧ 0 ≤ h ∧ 0 ≤ m ∧ K l h m ∧ (Instr.sliceBounds isS len cap lo' hi' mx').run P w = .ok (l.toNat, h.toNat, m.toNat) w := by
  have hb := bound_run h
  clear h
  rcases hb with ⟨rfl, h⟩ | ⟨k, q, rfl, h0, h1, h⟩
  · exact absurd rfl hmx1
  have hb := bound_run h
  clear h
  rcases hb with ⟨rfl, h⟩ | ⟨k, n, rfl, h2, h3, h⟩
  · exact absurd rfl hhi1
  have e1 := hmx _ rfl
  have e2 := hhi _ rfl
  subst e1; subst e2
  have hb := bound_run h
  clear h
  rcases hb with ⟨rfl, h⟩ | ⟨k', m, rfl, h4, h5, h⟩
  · have e3 := hlo0 rfl
    subst e3
    exact ⟨0, n, q, by omega, by omega, by omega, h, by simp [Instr.sliceBounds, sliceBound_run (P := P) h0 h1, sliceBound_run (P := P) (y := q.toNat) h2 (by omega)]⟩
  · have e3 := hlo _ rfl
    subst e3
    exact ⟨m, n, q, by omega, by omega, by omega, h, by simp [Instr.sliceBounds, sliceBound_run (P := P) h0 h1, sliceBound_run (P := P) (y := q.toNat) h2 (by omega), sliceBound_run (P := P) (y := n.toNat) h4 (by omega)]⟩
end Go.Den

/- Each operation of the plainer reading is the model's: cuts, conversions, fields, builds, append and copy. Conditions: the table of types is the program's (TabOk). -/
set_option linter.unusedVariables false
set_option linter.unusedSimpArgs false
namespace Go.Den
variable {P : Program}
def OptFits (l : Option (Option Value)) (r : Option Value) : Prop := (∀ v, l = some (some v) → r = some v) ∧ (l = none → r = none)
theorem Agree.opt {e : Env} {a : Act} (h : Agree e a) (x : Option Operand) : OptFits (x.map e.ev) (x.map a.eval) := by
  cases x with
  | none => exact ⟨by simp, by simp⟩
  | some o => exact ⟨fun v hv => by simp only [Option.map_some] at hv ⊢; injection hv with hv; rw [h.ev hv], by simp⟩
theorem sliceB_run {tt : Tab} (htt : TabOk P tt) {t : Nat} {x : Value} {lo hi mx : Option (Option Value)} {lo' hi' mx' : Option Value} (hlo : OptFits lo lo') (hhi : OptFits hi hi') (hmx : OptFits mx mx')
    {w : World} {K : Value → Prop} (h : sliceB tt t x lo hi mx K) : ∃ v, K v ∧ (Instr.sliceAt t x lo' hi' mx').run P w = .ok v w := by
  obtain ⟨ti, hti, h'⟩ := tiOf_some h
  clear h
  have ht := htt.find hti
  split at h'
  · rename_i s htag
    have hu : P.underlying t = some .string := fits_of ht htag
    split at h'
    · have hm := hmx.2 rfl
      subst hm
      obtain ⟨l, h, h0, h1, hk, hr⟩ := sliceBounds2_run (P := P) (isS := false) (w := w) (cap := s.size) (len := s.size) hlo.1 hlo.2 hhi.1 hhi.2 h'
      exact ⟨_, hk, by simp [Instr.sliceAt, Instr.slice, run_underlying hu, hr]⟩
    · exact h'.elim
  · rename_i el a len cap htag
    have hu : P.underlying t = some (.slice el) := fits_of ht htag
    obtain ⟨te, hte, h2⟩ := tiOf_some h'
    clear h'
    have hs := run_sizeOf' (htt.find hte) w
    split at h2
    · have hm := hmx.2 rfl
      subst hm
      obtain ⟨l, h, h0, h1, hk, hr⟩ := sliceBounds2_run (P := P) (isS := true) (w := w) (cap := cap) (len := len) hlo.1 hlo.2 hhi.1 hhi.2 h2
      refine ⟨_, hk, ?_⟩
      simp only [Instr.sliceAt, Instr.slice, Sem.run_bind, run_underlying hu, hr, hs, Result.andThen]
      rfl
    · rename_i q
      obtain ⟨l, h, m, h0, h1, h2, hk, hr⟩ := sliceBounds3_run (P := P) (isS := true) (w := w) (cap := cap) (len := len) hlo.1 hlo.2 hhi.1 hmx.1 h2.1 (by simp) h2.2
      refine ⟨_, hk, ?_⟩
      simp only [Instr.sliceAt, Instr.slice, Sem.run_bind, run_underlying hu, hr, hs, Result.andThen]
      rfl
  · exact h'.elim
theorem cutArr_run {tt : Tab} (htt : TabOk P tt) {t n el : Nat} (hu : P.underlying t = some (.array n el)) {p : Addr} {lo hi mx : Option (Option Value)} {lo' hi' mx' : Option Value} (hlo : OptFits lo lo') (hhi : OptFits hi hi') (hmx : OptFits mx mx')
    {w : World} {K : Value → Prop} (h : cutArr tt n el p lo hi mx K) : ∃ v, K v ∧ (Instr.sliceAt t (.pointer (some p)) lo' hi' mx').run P w = .ok v w := by
  obtain ⟨te, hte, h2⟩ := tiOf_some h
  clear h
  have hs := run_sizeOf' (htt.find hte) w
  split at h2
  · have hm := hmx.2 rfl
    subst hm
    obtain ⟨l, h, h0, h1, hk, hr⟩ := sliceBounds2_run (P := P) (isS := false) (w := w) (cap := n) (len := n) hlo.1 hlo.2 hhi.1 hhi.2 h2
    refine ⟨_, hk, ?_⟩
    have he : (Instr.sliceAt t (.pointer (some p)) lo' hi' none).run P w = .ok (.slice (some (if n = l.toNat then p else p.add (l.toNat * te.sh.length))) (h.toNat - l.toNat) (n - l.toNat)) w := by
      simp [Instr.sliceAt, Instr.sureAddr, run_underlying hu, hr, hs]
    rw [he]
    simp only [cutSl]
    by_cases hc : n = l.toNat <;> simp [hc]
  · exact h2.elim
theorem RowAt.load {w : World} {a : Option Addr} {n : Nat} {vs : List Value} (h : RowAt w a n vs) {p : Addr} (hp : a = some p) : (loadCells p n).run P w = .ok ⟨vs⟩ w := by
  obtain ⟨hl, hr⟩ := h
  subst hl
  rcases Nat.eq_zero_or_pos vs.length with h0 | h0
  · have : vs = [] := List.eq_nil_of_length_eq_zero h0
    subst this
    simp [loadCells, loadCellsFrom]
  · obtain ⟨q, hq, hc⟩ := hr h0
    rw [hp] at hq
    injection hq with hq
    subst hq
    exact run_loadCells_list w p vs hc
theorem convB_run {tt : Tab} (htt : TabOk P tt) {s d : Nat} {x : Value} {w : World} {K : Value → World → Prop} (h : convB tt s d x w K) : ∃ v w', K v w' ∧ (convert s d x).run P w = .ok v w' ∧ (Nat.beq s d = false → w' = w) := by
  obtain ⟨ts, hts, h1⟩ := tiOf_some h
  clear h
  obtain ⟨td, htd, h2⟩ := tiOf_some h1
  clear h1
  have hs := htt.find hts
  have hd := htt.find htd
  split at h2
  · rename_i hk1 hk2
    have e1 : P.underlying s = _ := fits_of hs hk1
    have e2 : P.underlying d = _ := fits_of hd hk2
    exact ⟨_, _, h2, by simp [convert, run_underlying e1, run_underlying e2, Conv.intToInt], fun _ => rfl⟩
  · rename_i hk1 hk2
    have e1 : P.underlying s = _ := fits_of hs hk1
    have e2 : P.underlying d = _ := fits_of hd hk2
    exact ⟨_, _, h2, by simp [convert, run_underlying e1, run_underlying e2], fun _ => rfl⟩
  · rename_i e a n c hk1 hk2
    have e1 : P.underlying s = _ := fits_of hs hk1
    have e2 : P.underlying d = _ := fits_of hd hk2
    obtain ⟨te, hte, h3⟩ := tiOf_some h2
    clear h2
    split at h3
    · rename_i hk3
      have e3 : P.underlying e = some (.int .u8) := fits_of (htt.find hte) hk3
      obtain ⟨xs, hr, hk⟩ := h3
      refine ⟨_, _, hk, ?_, fun _ => rfl⟩
      have hl : xs.length = n := by simpa using hr.1
      subst hl
      rcases Nat.eq_zero_or_pos xs.length with h0 | h0
      · have hx : xs = [] := List.eq_nil_of_length_eq_zero h0
        subst hx
        cases a with
        | none => exact run_convert_bytes_nil w s e e1 e3 _ _ d e2
        | some p => simp [convert, run_underlying e1, run_underlying e2, run_underlying e3, Conv.bytesToString, loadCells, loadCellsFrom, strOfNums]; rfl
      · obtain ⟨p, rfl, hc⟩ := hr.2 h0
        have hsp : p.spot = none := by
          have := hc 0 (.int .u8 (xs.getD 0 0)) (by simp [List.getElem?_eq_getElem h0, List.getD_eq_getElem?_getD])
          rw [addr_add_zero] at this
          cases hps : p.spot with
          | none => rfl
          | some q => simp [World.cell?, hps] at this; split at this <;> simp_all
        obtain ⟨b, off, sp⟩ := p
        simp only at hsp
        subst hsp
        refine run_convert_bytes_arg w s e e1 e3 b off _ c xs rfl (fun i hi => ?_) d e2
        have := hc i (.int .u8 (xs.getD i 0)) (by simp [List.getElem?_eq_getElem hi, List.getD_eq_getElem?_getD])
        rw [← this]
        congr 1
        unfold Addr.add
        split <;> simp_all
    · exact h3.elim
  · rename_i e0 e a n c hk1 hk2
    have e1 : P.underlying s = _ := fits_of hs hk1
    have e2 : P.underlying d = _ := fits_of hd hk2
    split at h2
    · rename_i hsd
      obtain ⟨te, hte, h3⟩ := tiOf_some h2
      clear h2
      split at h3
      · rename_i hk3
        have e3 : P.underlying e = some (.int .u8) := fits_of (htt.find hte) hk3
        obtain ⟨p, rfl, vs, el, f, hp, hk⟩ := h3
        have hsd' : s = d := Nat.eq_of_beq_eq_true hsd
        subst hsd'
        refine ⟨_, _, hk, ?_, fun h => by rw [hsd] at h; cases h⟩
        have hshape : w.shape? p.block = some (el, vs.length) := by simp [World.shape?, hp]
        have e4 : some (TypeDesc.slice e0) = some (TypeDesc.slice e) := e1.symm.trans e2
        have e5 : e0 = e := by injection e4 with e4; injection e4
        subst e5
        simp [convert, run_underlying e1, run_underlying e3, markStringish, shape, hshape, freeze]
        rw [show Sem.run P (Sem.shape p.block Sem.pure) w = .ok (some (el, vs.length)) w by simp [Sem.run, hshape]]
        rfl
      · exact h3.elim
    · exact h2.elim
  · exact h2.elim
end Go.Den

/- Each operation of the plainer reading is the model's: append, copy, what is built. Conditions: the table of types is the program's (TabOk). -/
set_option linter.unusedVariables false
set_option linter.unusedSimpArgs false
namespace Go.Den
variable {P : Program}
theorem RowAt.first {w : World} {a : Option Addr} {n size : Nat} {vs : List Value} (h : RowAt w a (n * size) vs) (w' : World) (hw : ∀ p, w'.cell? p = w.cell? p) (m c : Nat) : (Builtin.firstCells size n (.slice a m c)).run P w' = .ok ⟨vs⟩ w' := by
  have h' : RowAt w' a (n * size) vs := ⟨h.1, fun h0 => by
    obtain ⟨p, hp, hc⟩ := h.2 h0
    exact ⟨p, hp, fun j v hj => by rw [hw]; exact hc j v hj⟩⟩
  cases a with
  | none =>
    have : vs = [] := by
      rcases Nat.eq_zero_or_pos (n * size) with h0 | h0
      · exact List.eq_nil_of_length_eq_zero (by rw [h.1, h0])
      · obtain ⟨p, hp, _⟩ := h.2 h0; cases hp
    subst this
    simp [Builtin.firstCells]
  | some p =>
    have := h'.load (P := P) rfl
    simp only [Builtin.firstCells]
    exact this
theorem zerosOf_eq (z : Value) : ∀ n, (Builtin.zeroCells z.cells n).toList = zerosOf z.cells.toList n := by
  intro n
  induction n with
  | zero => simp [Builtin.zeroCells, zerosOf]
  | succ n ih =>
    apply List.ext_getElem?
    intro i
    simp only [zerosOf]
    rcases Nat.eq_zero_or_pos z.cells.size with h0 | h0
    · have hz : z.cells = #[] := Array.eq_empty_of_size_eq_zero h0
      have hz2 : ∀ n, zerosOf ([] : List Value) n = [] := fun n => by induction n with | zero => rfl | succ n ih => simp [zerosOf, ih]
      simp [Builtin.zeroCells, hz, hz2]
    · by_cases hi : i < z.cells.size
      · rw [List.getElem?_append_left (by simpa using hi)]
        have hlt : i < (n + 1) * z.cells.size := by rw [Nat.succ_mul]; omega
        have hm : i % z.cells.size = i := Nat.mod_eq_of_lt hi
        simp [Builtin.zeroCells, hlt, hm, hi, getElem!_pos, Array.getElem?_eq_getElem]
      · rw [List.getElem?_append_right (by simpa using Nat.le_of_not_lt hi)]
        rw [← ih]
        by_cases hlt : i < (n + 1) * z.cells.size
        · have h1 : i - z.cells.size < n * z.cells.size := by rw [Nat.succ_mul] at hlt; omega
          have hm : (i - z.cells.size) % z.cells.size = i % z.cells.size := by
            conv => rhs; rw [show i = (i - z.cells.size) + z.cells.size by omega]
            rw [Nat.add_mod_right]
          simp [Builtin.zeroCells, hlt, h1, hm]
        · have h1 : ¬ i - z.cells.size < n * z.cells.size := by rw [Nat.succ_mul] at hlt; omega
          simp [Builtin.zeroCells, hlt, h1]
theorem AppendW_run {t u el ty : Nat} {te : TI} {a a' : Option Addr} {n c n' c' : Nat} (hte : TIOk P el te) (hu : P.underlying t = some (.slice el)) (hx : ∃ e', P.underlying u = some (.slice e'))
    {w : World} {K : Sl → World → Prop} (h : AppendW el te ⟨a, n, c⟩ ⟨a', n', c'⟩ w K) :
    ∃ s w', K s w' ∧ (Builtin.append_ #[t, u] ty #[.slice a n c, .slice a' n' c']).run P w = .ok (.slice s.a s.len s.cap) w' := by
  obtain ⟨os, vs, ho, hv, hb, hb0, hpv, h1, h2⟩ := h
  obtain ⟨e', hx⟩ := hx
  obtain ⟨i, z, hi, hsz, hby, hz, hzc⟩ := hte.info
  simp only at ho hv hb h1 h2
  have hf := hv.first (P := P) w (fun _ => rfl) n' c'
  rcases Nat.lt_or_ge c (n + n') with hlt | hge
  · have h3 := h2 hlt
    have hcap := nextslicecap_le hlt
    have h48 : ¬ (281474976710656 < Builtin.nextslicecap (n + n') c * i.bytes) := by
      rw [hby]
      have := Nat.mul_le_mul_right te.bytes hcap
      rw [Nat.mul_assoc] at this
      omega
    have h63 : ¬ (9223372036854775807 < ((n : Int) + (n' : Int))) := by
      have := Nat.le_mul_of_pos_right (n + n') hb0
      omega
    have hge' : n + n' ≤ grownCap w (n + n') c el := by simp [grownCap, Question.cut]
    refine ⟨_, _, h3 _ hge', ?_⟩
    have hfo := ho.first (P := P) w.drew (fun _ => rfl) n c
    have hfv := hv.first (P := P) w.drew (fun _ => rfl) n' c'
    have hn : ¬ (n + n' ≤ c) := by omega
    have e1 : zerosOf te.zero (grownCap w (n + n') c el - (n + n')) = (Builtin.zeroCells z.cells (grownCap w (n + n') c el - (n + n'))).toList := by rw [zerosOf_eq, hzc]
    rw [e1]
    simp [Builtin.append_, run_underlying hu, run_underlying hx, sizeOf, typeInfo, zeroValue, hi, hz, hsz, Builtin.lenOf, hn, h63, h48, Question.forced, hfo, hfv, newRow, grownCap]
    congr 2
    apply Array.ext'
    simp
  · rcases h1 hge with ⟨p, hp, hcan, hk⟩ | ⟨hp, hk⟩
    · subst hp
      refine ⟨_, _, hk, ?_⟩
      have hst := puts_run (P := P) (p := p.add (n * te.sh.length)) vs 0 w (fun v hv => plainB_ok (hpv v hv)) (fun j hj => by simpa using hcan j hj)
      simp [Builtin.append_, run_underlying hu, run_underlying hx, sizeOf, typeInfo, hi, hsz, Builtin.lenOf, hge, hf, hst]
    · subst hp
      refine ⟨_, _, hk, ?_⟩
      simp [Builtin.append_, run_underlying hu, run_underlying hx, sizeOf, typeInfo, hi, hsz, Builtin.lenOf, hge, hf]
theorem AppendZW_run {t u el ty : Nat} {te : TI} {a : Option Addr} {n c : Nat} {k k' : IntKind} {x : Int} (hte : TIOk P el te) (hu : P.underlying t = some (.slice el)) (hx : P.underlying u = some (.int k'))
    {w : World} {K : Sl → World → Prop} (h : AppendZW el te ⟨a, n, c⟩ x w K) :
    ∃ s w', K s w' ∧ (Builtin.append_ #[t, u] ty #[.slice a n c, .int k x]).run P w = .ok (.slice s.a s.len s.cap) w' := by
  obtain ⟨hx0, os, ho, hb, hb0, hpv, h1, h2⟩ := h
  obtain ⟨i, z, hi, hsz, hby, hz, hzc⟩ := hte.info
  simp only at ho hb h1 h2
  obtain ⟨n', rfl⟩ := Int.eq_ofNat_of_zero_le hx0
  simp only [Int.toNat_natCast] at hb h1 h2 hpv
  have hn1 : (n' : Int) ≤ 140737488355328 := by
    have := Nat.le_mul_of_pos_right (n + n') hb0
    omega
  have hwr : IntKind.i64.wrap (n' : Int) = (n' : Int) := by rw [IntKind.wrap_i64]; omega
  have hneg : ¬ ((n' : Int) < 0) := by omega
  have hby2 : ¬ ((281474976710656 : Int) < (n' : Int) * (i.bytes : Int)) := by
    rw [hby]
    have : n' * te.bytes ≤ (n + n') * te.bytes := Nat.mul_le_mul_right _ (by omega)
    have h3 : ((n' * te.bytes : Nat) : Int) = (n' : Int) * (te.bytes : Int) := by simp
    omega
  have hzs : (Builtin.zeroCells z.cells n').toList = zerosOf te.zero n' := by rw [zerosOf_eq, hzc]
  have hzl : ∀ m, m * te.sh.length = 0 → zerosOf te.zero m = [] := fun m h => by
    apply List.eq_nil_of_length_eq_zero
    have : ∀ m, (zerosOf te.zero m).length = m * te.zero.length := fun m => by
      induction m with
      | zero => simp [zerosOf]
      | succ m ih => rw [zerosOf, List.length_append, ih, Nat.succ_mul]; omega
    rw [this, hte.zlen, h]
  rcases Nat.lt_or_ge c (n + n') with hlt | hge
  · have h3 := h2 hlt
    have hcap := nextslicecap_le hlt
    have h48 : ¬ (281474976710656 < Builtin.nextslicecap (n + n') c * i.bytes) := by
      rw [hby]
      have := Nat.mul_le_mul_right te.bytes hcap
      rw [Nat.mul_assoc] at this
      omega
    have h63 : ¬ (9223372036854775807 < ((n : Int) + (n' : Int))) := by
      have := Nat.le_mul_of_pos_right (n + n') hb0
      omega
    have hge' : n + n' ≤ grownCap w (n + n') c el := by simp [grownCap, Question.cut]
    refine ⟨_, _, h3 _ hge', ?_⟩
    have hfo := ho.first (P := P) w.drew (fun _ => rfl) n c
    have hn : ¬ (n + n' ≤ c) := by omega
    have e1 : zerosOf te.zero (grownCap w (n + n') c el - (n + n')) = (Builtin.zeroCells z.cells (grownCap w (n + n') c el - (n + n'))).toList := by rw [zerosOf_eq, hzc]
    rw [e1]
    rcases Nat.eq_zero_or_pos (n' * te.sh.length) with h0 | h0
    · rw [hzl n' h0]
      simp [Builtin.append_, run_underlying hu, run_underlying hx, sizeOf, typeInfo, zeroValue, hi, hz, hsz, hn, h63, h48, Question.forced, hfo, newRow, grownCap, asInt, asIntOf, hwr, hneg, hby2, h0]
      congr 2
      apply Array.ext'
      simp
    · rw [← hzs]
      simp [Builtin.append_, run_underlying hu, run_underlying hx, sizeOf, typeInfo, zeroValue, hi, hz, hsz, hn, h63, h48, Question.forced, hfo, newRow, grownCap, asInt, asIntOf, hwr, hneg, hby2, Nat.ne_of_gt h0]
      congr 2
      apply Array.ext'
      simp
  · rcases h1 hge with ⟨p, hp, hcan, hk⟩ | ⟨hp, hk⟩
    · subst hp
      refine ⟨_, _, hk, ?_⟩
      have hst := puts_run (P := P) (p := p.add (n * te.sh.length)) (zerosOf te.zero n') 0 w (fun v hv => plainB_ok (hpv v hv)) (fun j hj => by simpa using hcan j hj)
      rcases Nat.eq_zero_or_pos (n' * te.sh.length) with h0 | h0
      · rw [hzl n' h0] at hst ⊢
        simp [Builtin.append_, run_underlying hu, run_underlying hx, sizeOf, typeInfo, hi, hsz, hge, hst, asInt, asIntOf, hwr, hneg, hby2, h0]
        done
      · rw [← hzs] at hst ⊢
        simp [Builtin.append_, run_underlying hu, run_underlying hx, sizeOf, typeInfo, zeroValue, hi, hz, hsz, hge, hst, asInt, asIntOf, hwr, hneg, hby2, Nat.ne_of_gt h0]
        done
    · subst hp
      refine ⟨_, _, hk, ?_⟩
      rcases Nat.eq_zero_or_pos (n' * te.sh.length) with h0 | h0
      · simp [Builtin.append_, run_underlying hu, run_underlying hx, sizeOf, typeInfo, hi, hsz, hge, asInt, asIntOf, hwr, hneg, hby2, h0]
        done
      · simp [Builtin.append_, run_underlying hu, run_underlying hx, sizeOf, typeInfo, zeroValue, hi, hz, hsz, hge, asInt, asIntOf, hwr, hneg, hby2, Nat.ne_of_gt h0]
        done
theorem copyS_run {t u el ty : Nat} {te : TI} {a a' : Option Addr} {n c n' c' : Nat} (hte : TIOk P el te) (hu : P.underlying t = some (.slice el)) {w : World} {vs : List Value} (hv : RowAt w a' (min n' n * te.sh.length) vs) {p : Addr} (hp : a = some p) (hpv : ∀ v, v ∈ vs → plainB v = true) (hcan : MayN w p vs.length) :
    (Builtin.copy_ #[t, u] ty #[.slice a n c, .slice a' n' c']).run P w = .ok (.int .i64 (min n' n : Nat)) (puts w p 0 vs) := by
  subst hp
  have hs := run_sizeOf' hte w
  have hf := hv.first (P := P) w (fun _ => rfl) n' c'
  have hst := puts_run (P := P) (p := p) vs 0 w (fun v hv => plainB_ok (hpv v hv)) (fun j hj => by simpa using hcan j hj)
  have hf' : (Builtin.firstCells te.sh.length (Nat.min n' n) (.slice a' n' c')).run P w = .ok ⟨vs⟩ w := hf
  simp only [Builtin.copy_, Builtin.lenOf, Sem.run_bind, run_underlying hu, hs, hf', Result.andThen, List.getElem?_toArray, List.getElem?_cons_zero, List.getElem?_cons_succ]
  simp [run_underlying hu, hs, hf', hst, goInt]
theorem copyS_none {t u el ty : Nat} {te : TI} {a' : Option Addr} {n c n' c' : Nat} (hte : TIOk P el te) (hu : P.underlying t = some (.slice el)) {w : World} {vs : List Value} (hv : RowAt w a' (min n' n * te.sh.length) vs) :
    (Builtin.copy_ #[t, u] ty #[.slice none n c, .slice a' n' c']).run P w = .ok (.int .i64 (min n' n : Nat)) w := by
  have hs := run_sizeOf' hte w
  have hf := hv.first (P := P) w (fun _ => rfl) n' c'
  have hf' : (Builtin.firstCells te.sh.length (Nat.min n' n) (.slice a' n' c')).run P w = .ok ⟨vs⟩ w := hf
  simp only [Builtin.copy_, Builtin.lenOf, Sem.run_bind, run_underlying hu, hs, hf', Result.andThen, List.getElem?_toArray, List.getElem?_cons_zero, List.getElem?_cons_succ]
  simp [run_underlying hu, hs, hf', goInt]
theorem copyStr_run {t u el ty : Nat} {te : TI} {a : Option Addr} {n c : Nat} {s : ByteArray} (hte : TIOk P el te) (hu : P.underlying t = some (.slice el)) (h1 : te.sh.length = 1) {w : World} {p : Addr} (hp : a = some p) (hcan : MayN w p (min s.size n)) :
    (Builtin.copy_ #[t, u] ty #[.slice a n c, .string s]).run P w = .ok (.int .i64 (min s.size n : Nat)) (puts w p 0 ((s.data.toList.take (min s.size n)).map fun b => .int .u8 b.toNat)) := by
  subst hp
  have hs := run_sizeOf' hte w
  have hst := puts_run (P := P) (p := p) ((s.data.toList.take (min s.size n)).map fun b => .int .u8 b.toNat) 0 w (fun v hv => by obtain ⟨b, _, rfl⟩ := List.mem_map.1 hv; exact plainB_ok rfl) (fun j hj => by
    have : j < min s.size n := by simp at hj; omega
    simpa using hcan j this)
  have hst' : (storeCells p (List.take (s.size.min n) (List.map (fun b : UInt8 => Value.int .u8 (b.toNat : Int)) s.data.toList))).run P w = .ok () (puts w p 0 (List.take (min s.size n) (List.map (fun b : UInt8 => Value.int .u8 (b.toNat : Int)) s.data.toList))) := by
    rw [← List.map_take] at *
    exact hst
  simp only [Builtin.copy_, Builtin.lenOf, Builtin.firstCells, Sem.run_bind, run_underlying hu, hs, Result.andThen, List.getElem?_toArray, List.getElem?_cons_zero, List.getElem?_cons_succ]
  simp [run_underlying hu, hs, hst', goInt]
theorem copyStr_none {t u el ty : Nat} {te : TI} {n c : Nat} {s : ByteArray} (hte : TIOk P el te) (hu : P.underlying t = some (.slice el)) {w : World} :
    (Builtin.copy_ #[t, u] ty #[.slice none n c, .string s]).run P w = .ok (.int .i64 (min s.size n : Nat)) w := by
  have hs := run_sizeOf' hte w
  simp only [Builtin.copy_, Builtin.lenOf, Builtin.firstCells, Sem.run_bind, run_underlying hu, hs, Result.andThen, List.getElem?_toArray, List.getElem?_cons_zero, List.getElem?_cons_succ]
  simp [run_underlying hu, hs, goInt]
theorem cap_run {t el ty : Nat} {a : Option Addr} {n c : Nat} (hu : P.underlying t = some (.slice el)) {w : World} :
    (Builtin.cap_ #[t] ty #[.slice a n c]).run P w = .ok (.int .i64 (c : Nat)) w := by
  simp [Builtin.cap_, run_underlying hu, goInt]
theorem clear_none {t el ty : Nat} {a : Option Addr} {c : Nat} (hu : P.underlying t = some (.slice el)) {w : World} :
    (Builtin.clear_ #[t] ty #[.slice a 0 c]).run P w = .ok (.tuple #[]) w := by
  cases a <;> simp [Builtin.clear_, run_underlying hu]
theorem clear_run {t el ty : Nat} {te : TI} {a : Option Addr} {n c : Nat} (hte : TIOk P el te) (hu : P.underlying t = some (.slice el)) {w : World} (hn : 0 < n) {p : Addr} (hp : a = some p) (hpv : ∀ v, v ∈ zerosOf te.zero n → plainB v = true) (hcan : MayN w p (zerosOf te.zero n).length) :
    (Builtin.clear_ #[t] ty #[.slice a n c]).run P w = .ok (.tuple #[]) (puts w p 0 (zerosOf te.zero n)) := by
  subst hp
  have hst := puts_run (P := P) (p := p) (zerosOf te.zero n) 0 w (fun v hv => plainB_ok (hpv v hv)) (fun j hj => by simpa using hcan j hj)
  obtain ⟨z, hz, hzc⟩ := run_zeroValue' hte w
  have hzs : (Builtin.zeroCells z.cells n).toList = zerosOf te.zero n := by rw [zerosOf_eq, hzc]
  rw [← hzs] at hst ⊢
  obtain ⟨m, rfl⟩ : ∃ m, n = m + 1 := ⟨n - 1, by omega⟩
  simp only [Builtin.clear_, Sem.run_bind, run_underlying hu, Result.andThen, List.getElem?_toArray, List.getElem?_cons_zero]
  simp [run_underlying hu, hz, hst]
end Go.Den

/- Maps of the plainer reading: what is looked up, laid in, taken out, in the model. Conditions: the table of types is the program's (TabOk). -/
set_option linter.unusedVariables false
set_option linter.unusedSimpArgs false
namespace Go.Den
variable {P : Program}
def descOf : Tag → Option TypeDesc
  | .int j => some (.int j)
  | .str => some .string
  | .bool => some .bool
  | _ => none
theorem findNow_of {tag : Tag} {k : Value} (hk : keyTag tag k = true) {d : TypeDesc} (hd : descOf tag = some d) :
    ∀ (es : List MapEntry) (i : Nat) (o : Option (Nat × Value)), findN k es i = some o → Instr.findNow d k es i = some o
  | [], i, o, h => by simpa [findN, Instr.findNow] using h
  | e :: es, i, o, h => by
    have ih := findNow_of hk hd es (i + 1) o
    obtain ⟨key, val, born⟩ := e
    cases tag <;> simp only [descOf] at hd <;> first | cases hd; done | skip
    all_goals cases hd
    all_goals cases k <;> simp only [keyTag] at hk <;> first | cases hk | skip
    all_goals cases key <;> simp only [findN] at h <;> first | cases h | skip
    · rename_i j j1 a j2 b
      by_cases hj : j1 = j2
      · subst hj
        rw [if_pos rfl] at h
        cases hab : (a == b)
        · rw [hab] at h
          simp only [Bool.false_eq_true, if_false] at h
          simp only [Instr.findNow, Instr.sameNow, if_true, hab]
          exact ih h
        · rw [hab, if_pos rfl] at h
          simp only [Instr.findNow, Instr.sameNow, if_true, hab]
          exact h
      · rw [if_neg hj] at h; cases h
    · rename_i a b
      cases hab : (a == b)
      · rw [hab] at h
        simp only [Bool.false_eq_true, if_false] at h
        simp only [Instr.findNow, Instr.sameNow, hab]
        exact ih h
      · rw [hab, if_pos rfl] at h
        simp only [Instr.findNow, Instr.sameNow, hab]
        exact h
    · rename_i a b
      cases hab : (a == b)
      · rw [hab] at h
        simp only [Bool.false_eq_true, if_false] at h
        simp only [Instr.findNow, Instr.sameNow, hab]
        exact ih h
      · rw [hab, if_pos rfl] at h
        simp only [Instr.findNow, Instr.sameNow, hab]
        exact h
theorem key_desc {tt : Tab} (htt : TabOk P tt) {kt : Nat} {tk : TI} (hf : tt.find kt = some tk) {k : Value} (hk : keyTag tk.tag k = true) :
    ∃ d, P.underlying kt = some d ∧ descOf tk.tag = some d := by
  have hfit := (htt.find hf).fits
  rcases htag : tk.tag <;> rw [htag] at hk hfit <;> simp only [keyTag] at hk <;> first | cases hk | skip
  all_goals first | exact ⟨_, hfit, rfl⟩ | (cases k <;> cases hk)
theorem run_findKey {kt : Nat} {d : TypeDesc} {k : Value} {es : List MapEntry} {o : Option (Nat × Value)} (hu : P.underlying kt = some d) (hf : Instr.findNow d k es 0 = some o) (w : World) : (Instr.findKey kt k es).run P w = .ok o w := by
  simp [Instr.findKey, run_underlying hu, hf]
theorem run_checkKey' {tag : Tag} {kt : Nat} {d : TypeDesc} {k : Value} (hu : P.underlying kt = some d) (hd : descOf tag = some d) (b : Bool) (n : Nat) (w : World) : (Instr.checkKey b (n + 1) kt k).run P w = .ok () w := by
  unfold Instr.checkKey
  cases tag <;> simp only [descOf] at hd <;> cases hd
  all_goals simp only [Sem.run_bind, run_underlying hu, Result.andThen]
  all_goals cases k <;> simp
theorem getObj_map {w : World} {r : Nat} {es : Array MapEntry} {clock : Nat} (hb : w.heap[r]? = some (.map es clock)) : (getObj r).run P w = .ok (.map es clock) w := by
  simp [getObj, Sem.run, hb]
theorem setObj_map {w : World} {r : Nat} {es : Array MapEntry} {clock : Nat} (o : Obj) (hb : w.heap[r]? = some (.map es clock)) : (setObj r o).run P w = .ok () { w with heap := w.heap.setIfInBounds r o } := by
  simp [setObj, Sem.run, hb]
theorem map_at {w : World} {r : Option Nat} {es : List MapEntry} (h : MapAt w r es) (t : Nat) (k : Value) (c : Bool) {kt et : Nat} (ht : P.underlying t = some (.map kt et)) :
    (Instr.lookup t (.map r) k c).run P w = (do
      Instr.checkKey es.isEmpty 10000 kt k
      let (v, ok) ← match ← Instr.findKey kt k es with
        | some (_, v) => pure (v, true)
        | none => pure (← zeroValue et, false)
      pure (if c then .tuple #[v, .bool ok] else v) : Sem Value).run P w := by
  cases r with
  | none =>
    have he : es = [] := h
    subst he
    simp [Instr.lookup, run_underlying ht]
    congr 1
  | some q =>
    obtain ⟨clock, hq⟩ := h
    simp [Instr.lookup, run_underlying ht, getObj_map hq]
    congr 1
theorem lookV_some {te : TI} {c : Bool} {o : Option (Nat × Value)} {K : Value → Prop} (h : lookV te c o K) : ∃ z, te.tag.isAgg = false ∧ te.zero = [z] ∧ K (if c then .tuple #[valOr o z, .bool o.isSome] else valOr o z) := by
  unfold lookV at h
  split at h
  · rename_i s z h1 h2 h3
    obtain ⟨y, hy, h⟩ := h
    refine ⟨z, h1, h3, ?_⟩
    rw [hy]
    cases c <;> simpa using h
  · exact h.elim
theorem findAsking_of {kt : Nat} {l : List Sh} {xs : List Value} (hs : SameAt P kt l) (hx : fitL l xs = true) (w : World) :
    ∀ (es : List MapEntry) (i : Nat) (o : Option (Nat × Value)), findA xs l es i = some o → (Instr.findAsking kt (.agg ⟨xs⟩) es i).run P w = .ok o w
  | [], i, o, h => by
    simp only [findA, Option.some.injEq] at h
    subst h; rfl
  | e :: es, i, o, h => by
    have ih := findAsking_of hs hx w es (i + 1) o
    obtain ⟨key, val, born⟩ := e
    cases key <;> simp only [findA] at h <;> first | cases h; done | skip
    rename_i ys
    cases hf : fitL l ys.toList
    · rw [hf] at h; cases h
    · rw [hf] at h
      have hr := hs.2 xs ys.toList w hx hf
      simp only [Instr.findAsking, Sem.run_bind]
      have hr' : (Op.equal kt (.agg ⟨xs⟩) (.agg ys)).run P w = .ok (eqVs xs ys.toList) w := hr
      rw [hr']
      cases hq : eqVs xs ys.toList
      · rw [hq] at h
        simpa [Result.andThen] using ih h
      · rw [hq] at h
        simp only [Option.some.injEq] at h
        subst h
        simp [Result.andThen]
theorem run_findKeyA {kt : Nat} {d : TypeDesc} {l : List Sh} {xs : List Value} (hs : SameAt P kt l) (hx : fitL l xs = true) {es : List MapEntry} {o : Option (Nat × Value)} (hu : P.underlying kt = some d) (h : findA xs l es 0 = some o) (w : World) : (Instr.findKey kt (.agg ⟨xs⟩) es).run P w = .ok o w := by
  have ha := findAsking_of hs hx w es 0 o h
  cases es with
  | nil =>
    simp only [findA, Option.some.injEq] at h
    subst h
    simp [Instr.findKey, run_underlying hu, Instr.findNow]
  | cons e es =>
    have : Instr.findNow d (.agg ⟨xs⟩) (e :: es) 0 = none := by
      have : Instr.sameNow d (.agg ⟨xs⟩) e.key = none := by
        unfold Instr.sameNow
        split <;> first | rfl | (rename_i h; cases h) | (rename_i h _; cases h) | (rename_i h _ _; cases h)
      simp [Instr.findNow, this]
    simp [Instr.findKey, run_underlying hu, this, ha]
theorem desc_agg {tt : Tab} (htt : TabOk P tt) {kt : Nat} {tk : TI} (hf : tt.find kt = some tk) (hag : tk.tag.isAgg = true) : ∃ d, P.underlying kt = some d := by
  have hfit := (htt.find hf).fits
  rcases htag : tk.tag <;> rw [htag] at hag hfit <;> simp only [Tag.isAgg] at hag <;> first | cases hag; done | skip
  · obtain ⟨f, h, _⟩ := hfit; exact ⟨_, h⟩
  · exact ⟨_, hfit⟩
theorem rangeB_run {tt : Tab} (htt : TabOk P tt) {t : Nat} {x : Option Value} {w : World} {K : Value → World → Prop} (h : rangeB tt t x w K) :
    ∃ vx v w', x = some vx ∧ K v w' ∧ (Instr.range t vx).run P w = .ok v w' := by
  obtain ⟨ti, hti, h2⟩ := tiOf_some h
  clear h
  have h := h2
  clear h2
  split at h
  · rename_i kt et r htag
    obtain ⟨m, es, clock, rfl, hm, hk⟩ := h
    have hu : P.underlying t = some (.map kt et) := fits_of (htt.find hti) htag
    refine ⟨_, _, _, rfl, hk, ?_⟩
    simp [Instr.range, run_underlying hu, getObj_map hm]
  · exact h.elim
theorem getObj_it {w : World} {r : Nat} {a : Option Nat} {b : Nat} {c : Array Nat} {d : Nat} (hb : w.heap[r]? = some (.mapIter a b c d)) : (getObj r).run P w = .ok (.mapIter a b c d) w := by
  simp [getObj, Sem.run, hb]
theorem setObj_it {w : World} {r : Nat} {a : Option Nat} {b : Nat} {c : Array Nat} {d : Nat} (o : Obj) (hb : w.heap[r]? = some (.mapIter a b c d)) : (setObj r o).run P w = .ok () (setMap w r o) := by
  simp [setObj, Sem.run, hb, setMap]
theorem next_test {seen : Array Nat} {es : List MapEntry} {since c0 : Nat} (hold : ∀ x, x ∈ es → x.born < since) (hsc : since ≤ c0) :
    (!seen.isEmpty && !(⟨es⟩ : Array MapEntry).isEmpty && (⟨es⟩ : Array MapEntry).all (fun x => decide (x.born ≥ c0))) = false := by
  cases es with
  | nil => simp
  | cons e es =>
    have h1 := hold e (by simp)
    have : ¬ c0 ≤ e.born := by omega
    simp [this]
theorem nextB_run {x : Option Value} {s : Bool} {w : World} {K : Value → World → Prop} (ty : Nat) (h : nextB x s w K) :
    ∃ vx v w', x = some vx ∧ K v w' ∧ (Instr.next vx s ty).run P w = .ok v w' := by
  unfold nextB at h
  split at h
  · rename_i a
    obtain ⟨q, m, since, c0, seen, es, clock, rfl, hq, hm, hold, hsc, h0, h1⟩ := h
    have ht := next_test (seen := seen) hold hsc
    have hrun : ∀ (R : Result Value), ((do
        let candidates : Array (Option MapEntry) := (if ((⟨leftN es seen⟩ : Array MapEntry)).isEmpty then #[none] else #[]) ++ (⟨leftN es seen⟩ : Array MapEntry).map some
        match candidates[← choose (.mapNext candidates.size)]? with
        | some (some e) =>
          setObj q (.mapIter (some m) since (seen.push e.born) clock)
          pure (.tuple #[.bool true, e.key, e.val])
        | some none => pure (.tuple #[.bool false])
        | none => stuck "Next: no such candidate") : Sem Value).run P w = R → (Instr.next (.pointer (some ⟨q, 0, none⟩)) false ty).run P w = R := by
      intro R hR
      simp only [Instr.next, Sem.run_bind, getObj_it hq, getObj_map hm, Result.andThen, ht, Bool.false_eq_true, if_false]
      have hmem : ∀ x ∈ leftN es seen, x.born < since := fun x hx => hold x (by simp [leftN] at hx; exact hx.1)
      have el : (⟨es⟩ : Array MapEntry).filter (fun e => !seen.contains e.born) = ⟨leftN es seen⟩ := by apply Array.ext'; simp [leftN]
      have e1 : (⟨leftN es seen⟩ : Array MapEntry).filter (fun x => decide (x.born < since)) = ⟨leftN es seen⟩ := Array.filter_eq_self.2 (fun x hx => by simpa using hmem x (by simpa using hx))
      have e2 : (⟨leftN es seen⟩ : Array MapEntry).filter (fun x => decide (x.born ≥ since)) = #[] := by
        rw [Array.filter_eq_empty_iff]
        intro x hx
        have := hmem x (by simpa using hx)
        simp
        omega
      rw [el, e1, e2, Array.append_empty]
      simp only [Sem.run_bind, Result.andThen] at hR ⊢
      exact hR
    cases hl : leftN es seen with
    | nil =>
      refine ⟨_, _, _, rfl, h0 hl, hrun _ ?_⟩
      rw [hl]
      simp [choose, Sem.run, Question.forced]
    | cons e0 L =>
      have hch : ∃ (j : Nat) (w1 : World), j < (e0 :: L).length ∧ (w1 = w ∨ w1 = w.drew) ∧ (choose (Question.mapNext (e0 :: L).length)).run P w = .ok j w1 := by
        by_cases hf : (e0 :: L).length ≤ 1
        · exact ⟨0, w, by simp, .inl rfl, by simp only [choose, Sem.run, Question.forced, hf, decide_true, if_true]⟩
        · exact ⟨_, w.drew, Nat.mod_lt _ (by simp), .inr rfl, by
            simp only [choose, Sem.run, Question.forced, decide_eq_true_eq, hf, if_false, Question.cut]
            rfl⟩
      obtain ⟨j, w1, hj, hw1, hr⟩ := hch
      have hin : (e0 :: L)[j] ∈ leftN es seen := by rw [hl]; exact List.getElem_mem hj
      have hq1 : w1.heap[q]? = some (.mapIter (some m) since seen c0) := by rcases hw1 with rfl | rfl <;> exact hq
      refine ⟨_, _, _, rfl, h1 _ hin w1 hw1, hrun _ ?_⟩
      rw [hl]
      have hsz : ((if (⟨e0 :: L⟩ : Array MapEntry).isEmpty then #[none] else #[]) ++ (⟨e0 :: L⟩ : Array MapEntry).map some) = ⟨(e0 :: L).map some⟩ := by
        apply Array.ext'; simp
      simp only [hsz, Sem.run_bind]
      rw [show (Array.mk ((e0 :: L).map some)).size = (e0 :: L).length by simp, hr]
      simp only [Result.andThen]
      rw [show (Array.mk ((e0 :: L).map some))[j]? = some (some (e0 :: L)[j]) by
        rw [show (Array.mk ((e0 :: L).map some))[j]? = ((e0 :: L).map some)[j]? by simp only [List.getElem?_toArray], List.getElem?_map, List.getElem?_eq_getElem hj]; rfl]
      simp only [Sem.run_bind, setObj_it _ hq1, Result.andThen]
      rfl
  · exact h.elim
theorem entryB_run {x : Option Value} {w : World} {K : Value → World → Prop} (h : entryB x w K) :
    ∃ vx v, x = some vx ∧ K v w ∧ (Instr.entry vx).run P w = .ok v w := by
  unfold entryB at h
  split at h
  · rename_i a
    obtain ⟨q, m, since, seen, c, es, e, x, y, rfl, hq, hb, hm, hf, hx, hy, hk⟩ := h
    refine ⟨_, _, rfl, hk, ?_⟩
    have hf' : (⟨es⟩ : Array MapEntry).find? (fun z => z.born == e.born) = some e := by simpa using hf
    simp only [Instr.entry, Sem.run_bind, getObj_it hq, getObj_map hm, Result.andThen, hb, hf', bne_self_eq_false, Bool.false_eq_true, if_false, hx, hy]
    rfl
  · exact h.elim
theorem lookB_run {tt : Tab} (htt : TabOk P tt) {t : Nat} {x k : Option Value} {c : Bool} {w : World} {K : Value → Prop} (h : lookB P tt t x k c w K) :
    ∃ vx vk v, x = some vx ∧ k = some vk ∧ K v ∧ (Instr.lookup t vx vk c).run P w = .ok v w := by
  obtain ⟨ti, hti, h2⟩ := tiOf_some h
  clear h
  have h := h2
  clear h2
  split at h
  · rename_i kt et r vk htag
    obtain ⟨tk, htk, h2⟩ := tiOf_some h
    clear h
    have h := h2
    clear h2
    obtain ⟨te, hte, h2⟩ := tiOf_some h
    clear h
    have h := h2
    clear h2
    split at h
    · rename_i hkey
      obtain ⟨es, o, hm, hf, h⟩ := h
      obtain ⟨z, hag, hz, hk⟩ := lookV_some h
      obtain ⟨d, hd, hdm⟩ := key_desc htt htk hkey
      have hu : P.underlying t = some (.map kt et) := fits_of (htt.find hti) htag
      have hzv := run_zeroFlat (htt.find hte) hag hz w
      refine ⟨_, _, _, rfl, rfl, hk, ?_⟩
      rw [map_at hm t vk c hu]
      simp only [Sem.run_bind, run_checkKey' hd hdm, Result.andThen, run_findKey hd (findNow_of hkey hdm es 0 o hf)]
      cases o with
      | some p => simp [valOr]
      | none =>
        simp [valOr, hzv]
    · split at h
      · rename_i xs hag hkey
        split at h
        · rename_i hfit
          obtain ⟨hs, hka, es, o, hm, hf, h⟩ := h
          obtain ⟨z, hag', hz, hk⟩ := lookV_some h
          obtain ⟨d, hd⟩ := desc_agg htt htk hag
          have hu : P.underlying t = some (.map kt et) := fits_of (htt.find hti) htag
          have hzv := run_zeroFlat (htt.find hte) hag' hz w
          refine ⟨_, _, _, rfl, rfl, hk, ?_⟩
          rw [map_at hm t _ c hu]
          have hc := hka xs.toList es.isEmpty w hfit
          have hfk := run_findKeyA hs hfit hd hf w
          have hc' : (Instr.checkKey es.isEmpty 10000 kt (.agg xs)).run P w = .ok () w := hc
          have hfk' : (Instr.findKey kt (.agg xs) es).run P w = .ok o w := hfk
          simp only [Sem.run_bind, hc', Result.andThen, hfk']
          cases o with
          | some p => simp [valOr]
          | none =>
            simp [valOr, hzv]
        · exact h.elim
      · exact h.elim
  · exact h.elim
theorem same_of_find {k : Value} : ∀ {es : List MapEntry} {i j : Nat} {v : Value}, findN k es i = some (some (j, v)) → ∃ e, i ≤ j ∧ es[j - i]? = some e ∧ Instr.sameBits 10000 e.key k = true
  | [], i, j, v, h => by simp [findN] at h
  | e :: es, i, j, v, h => by
    have ih := @same_of_find k es (i + 1) j v
    have step : findN k es (i + 1) = some (some (j, v)) → ∃ e', i ≤ j ∧ (e :: es)[j - i]? = some e' ∧ Instr.sameBits 10000 e'.key k = true := by
      intro h
      obtain ⟨e', h1, h2, h3⟩ := ih h
      refine ⟨e', by omega, ?_, h3⟩
      rw [show j - i = (j - (i + 1)) + 1 by omega]; simpa using h2
    unfold findN at h
    split at h
    · rename_i j1 a j2 b hkey
      split at h
      · rename_i hj
        split at h
        · rename_i hab
          have := eq_of_beq hab
          simp only [Option.some.injEq, Prod.mk.injEq] at h
          refine ⟨e, by omega, by rw [← h.1]; simp, ?_⟩
          rw [hkey, ← hj, ← this]
          simp [Instr.sameBits]
        · exact step h
      · cases h
    · rename_i a b hkey
      split at h
      · rename_i hab
        simp only [Option.some.injEq, Prod.mk.injEq] at h
        refine ⟨e, by omega, by rw [← h.1]; simp, ?_⟩
        rw [hkey]
        simp only [Instr.sameBits]
        rw [beq_toListBytes] at hab ⊢
        rw [eq_of_beq hab]; simp
      · exact step h
    · rename_i a b hkey
      split at h
      · rename_i hab
        have := eq_of_beq hab
        simp only [Option.some.injEq, Prod.mk.injEq] at h
        refine ⟨e, by omega, by rw [← h.1]; simp, ?_⟩
        rw [hkey, ← this]
        simp [Instr.sameBits]
      · exact step h
    · cases h
theorem putB_run {tt : Tab} (htt : TabOk P tt) {t : Nat} {x k v : Option Value} {w : World} {K : World → Prop} (h : putB P tt t x k v w K) :
    ∃ vx vk vv w', x = some vx ∧ k = some vk ∧ v = some vv ∧ K w' ∧ (Instr.mapUpdate t vx vk vv).run P w = .ok () w' := by
  obtain ⟨ti, hti, h2⟩ := tiOf_some h
  clear h
  have h := h2
  clear h2
  split at h
  · rename_i kt et r vk vv htag
    obtain ⟨tk, htk, h2⟩ := tiOf_some h
    clear h
    have h := h2
    clear h2
    split at h
    · rename_i hkey
      obtain ⟨q, es, clock, o, rfl, hq, hf, h⟩ := h
      obtain ⟨d, hd, hdm⟩ := key_desc htt htk hkey
      have hu : P.underlying t = some (.map kt et) := fits_of (htt.find hti) htag
      refine ⟨_, _, _, _, rfl, rfl, rfl, h, ?_⟩
      have hfind := run_findKey hd (findNow_of hkey hdm es 0 o hf) w
      simp only [Instr.mapUpdate, Sem.run_bind, run_underlying hu, Result.andThen, getObj_map hq, run_checkKey' hd hdm, hfind]
      cases o with
      | none => simp [putEnt, setMap, setObj_map _ hq]
      | some p =>
        obtain ⟨j, pv⟩ := p
        obtain ⟨e, _, he, hs⟩ := same_of_find hf
        have he' : (⟨es⟩ : Array MapEntry)[j]? = some e := by simpa using he
        have hst : ∀ (old : Value), Instr.sameBits 10000 old vk = true → (Instr.keyThatStays old vk).run P w = .ok vk w := by
          intro old ho; simp [Instr.keyThatStays, ho]
        simp only [he', Option.map_some, Option.getD_some, Sem.run_bind, hst _ hs, Result.andThen, setObj_map _ hq]
        congr 2
        simp only [putEnt]
        rw [show (⟨es⟩ : Array MapEntry).modify j (fun e => { key := vk, val := vv, born := e.born }) = ⟨es.modify j fun e => { key := vk, val := vv, born := e.born }⟩ by apply Array.ext'; simp]
    · split at h
      · rename_i xs hag hkey
        split at h
        · rename_i hfit
          obtain ⟨hs, hka, q, es, clock, rfl, hq, hf, h⟩ := h
          obtain ⟨d, hd⟩ := desc_agg htt htk hag
          have hu : P.underlying t = some (.map kt et) := fits_of (htt.find hti) htag
          refine ⟨_, _, _, _, rfl, rfl, rfl, h, ?_⟩
          have hc : ∀ b, (Instr.checkKey b 10000 kt (.agg xs)).run P w = .ok () w := fun b => hka xs.toList b w hfit
          have hfk : (Instr.findKey kt (.agg xs) es).run P w = .ok none w := run_findKeyA hs hfit hd hf w
          simp only [Instr.mapUpdate, Sem.run_bind, run_underlying hu, Result.andThen, getObj_map hq, hc, hfk]
          simp [putEnt, setMap, setObj_map _ hq]
        · exact h.elim
      · exact h.elim
  · exact h.elim
theorem delB_run {tt : Tab} (htt : TabOk P tt) {t : Nat} {x k : Value} {w : World} {K : World → Prop} (h : delB tt t x k w K) (ts : Array Nat) (hts : ts[0]? = some t) (ty : Nat) (args : Array Value) (h0 : args[0]? = some x) (h1 : args[1]? = some k) :
    ∃ w', K w' ∧ (Builtin.delete_ ts ty args).run P w = .ok (.tuple #[]) w' := by
  obtain ⟨ti, hti, h2⟩ := tiOf_some h
  clear h
  have h := h2
  clear h2
  split at h
  · rename_i kt et r htag
    obtain ⟨tk, htk, h2⟩ := tiOf_some h
    clear h
    have h := h2
    clear h2
    split at h
    · rename_i hkey
      obtain ⟨q, es, clock, o, rfl, hq, hf, h⟩ := h
      obtain ⟨d, hd, hdm⟩ := key_desc htt htk hkey
      have hu : P.underlying t = some (.map kt et) := fits_of (htt.find hti) htag
      refine ⟨_, h, ?_⟩
      have hfind := run_findKey hd (findNow_of hkey hdm es 0 o hf) w
      simp only [Builtin.delete_, hts, h0, h1, Sem.run_bind, run_underlying hu, Result.andThen, getObj_map hq, run_checkKey' hd hdm, hfind]
      cases o with
      | none => simp [setMap, setObj_map _ hq]
      | some p =>
        obtain ⟨j, pv⟩ := p
        have : (⟨es⟩ : Array MapEntry).eraseIdxIfInBounds j = ⟨es.eraseIdx j⟩ := by
          apply Array.ext'; simp
        simp [setMap, this, setObj_map _ hq]
    · exact h.elim
  · exact h.elim
end Go.Den

/- One operation of the plainer reading is the model's operation. Conditions: the table of types is the program's (TabOk). -/
set_option linter.unusedVariables false
set_option linter.unusedSimpArgs false
namespace Go.Den
variable {P : Program}
/-! ## What is built -/
theorem foldl_lay (vs : List Value) : ∀ (off : Nat) (zs : Array Value) (j : Nat), off + j + vs.length ≤ zs.size →
    ((vs.zipIdx j).foldl (fun (cs : Array Value) (x : Value × Nat) => cs.setIfInBounds (off + x.2) x.1) zs).toList = zs.toList.take (off + j) ++ vs ++ zs.toList.drop (off + j + vs.length) := by
  induction vs with
  | nil => intro off zs j h; simp
  | cons v r ih =>
    intro off zs j h
    simp only [List.zipIdx_cons, List.foldl_cons]
    rw [ih off (zs.setIfInBounds (off + j) v) (j + 1) (by simp at h ⊢; omega)]
    have hlt : off + j < zs.toList.length := by simp at h ⊢; omega
    simp only [Array.toList_setIfInBounds]
    have e1 : (zs.toList.set (off + j) v).take (off + (j + 1)) = zs.toList.take (off + j) ++ [v] := by
      rw [show off + (j + 1) = off + j + 1 by omega, List.take_succ_eq_append_getElem (by simpa using hlt)]
      simp [List.take_set_of_le]
    have e2 : (zs.toList.set (off + j) v).drop (off + (j + 1) + r.length) = zs.toList.drop (off + j + (v :: r).length) := by
      rw [List.drop_set_of_lt (by omega)]
      congr 1
      simp; omega
    rw [e1, e2]
    simp
theorem layAll_run {place : Nat → Option (Nat × Nat)} {place' : Nat → Option (Nat × Nat)} (hp : ∀ i x, place i = some x → place' i = some x) : ∀ (vs : List (Nat × Value)) (zs : Array Value) (cs : List Value), layAll place zs.toList vs = some cs → Instr.fill place' zs vs = some ⟨cs⟩
  | [], zs, cs, h => by
    simp only [layAll] at h
    injection h with h
    simp [Instr.fill, ← h]
  | (i, v) :: r, zs, cs, h => by
    unfold layAll at h
    split at h
    · simp at h
    · rename_i off size hpl
      split at h
      · rename_i h1 h2
        have h1 := Nat.eq_of_beq_eq_true h1
        have h2 := Nat.le_of_ble_eq_true h2
        have hsz : v.cells.size = size := by rw [← h1, ← cellsOf_eq]; simp
        have hfold := foldl_lay v.cells.toList off zs 0 (by simp at h2 ⊢; omega)
        have hz : v.cells.zipIdx.foldl (fun (cs : Array Value) (x : Value × Nat) => cs.setIfInBounds (off + x.2) x.1) zs = ⟨lay size zs.toList off (cellsOf v)⟩ := by
          apply Array.ext'
          rw [← Array.foldl_toList]
          simp only [Array.toList_zipIdx]
          rw [hfold]
          simp only [lay, cellsOf_eq, Nat.add_zero]
        have ih := layAll_run hp r ⟨lay size zs.toList off (cellsOf v)⟩ cs h
        unfold Instr.fill
        rw [hp _ _ hpl]
        simp only
        rw [if_neg (by simp at h2 ⊢; omega)]
        rw [hz]
        exact ih
      · simp at h
theorem placesOf_built {tt : Tab} (htt : TabOk P tt) : ∀ (fs : List Field) (hall : ∀ f ∈ fs, ∃ ti, tt.find f.type = some ti),
    fs.mapM (fun f => (P.info? f.type).map fun i => (f.offset, i.size)) = some (fs.map fun f => (f.offset, match tt.find f.type with | some ti => ti.sh.length | none => 0))
  | [], _ => by simp
  | f :: r, hall => by
    obtain ⟨ti, hti⟩ := hall f (by simp)
    obtain ⟨i, z, hi, hs, _⟩ := (htt.find hti).info
    have ih := placesOf_built htt r (fun g hg => hall g (by simp [hg]))
    simp only [List.mapM_cons, Option.bind_eq_bind, Option.pure_def, List.map_cons]
    rw [ih]
    simp [hi, hs, hti]
theorem offOf_get : ∀ (fs : List (Nat × Nat)) (i : Nat), offOf fs i = fs[i]?
  | [], i => by simp [offOf]
  | x :: r, 0 => by simp [offOf]
  | x :: r, i + 1 => by simp [offOf, offOf_get r i]
theorem allIn_ok {tt : Tab} : ∀ {fs : List (Nat × Nat)}, allIn tt fs = true → ∀ x, x ∈ fs → ∃ ti, tt.find x.1 = some ti
  | [], _, x, hx => by simp at hx
  | y :: r, h, x, hx => by
    unfold allIn at h
    split at h
    · rename_i ti hti
      rcases List.mem_cons.1 hx with rfl | hx
      · exact ⟨ti, hti⟩
      · exact allIn_ok h x hx
    · simp at h
theorem build_struct_run {tt : Tab} (htt : TabOk P tt) {t : Nat} {ti : TI} (ht : TIOk P t ti) {fs : List (Nat × Nat)} (htag : ti.tag = .struct fs) (hall : allIn tt fs = true) {vs : List (Nat × Value)} {cs : List Value} (h : layAll (placeOf tt fs) ti.zero vs = some cs) (w : World) :
    (Instr.build t ⟨vs⟩).run P w = .ok (.agg ⟨cs⟩) w := by
  obtain ⟨fields, hu, hfs⟩ : ∃ fields : Array Field, P.underlying t = some (.struct fields) ∧ fields.toList.map (fun f => (f.type, f.offset)) = fs := fits_of ht htag
  obtain ⟨i, z, hi, hs, hby, hz, hzc⟩ := ht.info
  refine run_build w t ⟨vs⟩ ⟨cs⟩ ?_
  have hm := placesOf_built htt fields.toList (fun f hf => allIn_ok hall (f.type, f.offset) (by rw [← hfs]; exact List.mem_map.2 ⟨f, hf, rfl⟩))
  unfold Program.built
  simp only [hi, hu, hz, hm]
  rw [← hzc] at h
  refine layAll_run (place := placeOf tt fs) (fun j x hx => ?_) vs z.cells cs h
  unfold placeOf at hx
  split at hx
  · rename_i ty off ho
    rw [offOf_get, ← hfs] at ho
    split at hx
    · rename_i tj htj
      injection hx with hx
      subst hx
      simp only [List.getElem?_toArray, List.getElem?_map, Option.map_eq_some_iff] at ho ⊢
      obtain ⟨f, hf, he⟩ := ho
      injection he with e1 e2
      exact ⟨f, hf, by rw [e1, e2, htj]⟩
    · simp at hx
  · simp at hx
theorem build_array_run {t el n : Nat} {ti te : TI} (ht : TIOk P t ti) (htag : ti.tag = .array n el) (hte : TIOk P el te) {vs : List (Nat × Value)} {cs : List Value} (h : layAll (fun i => some (i * te.sh.length, te.sh.length)) ti.zero vs = some cs) (w : World) :
    (Instr.build t ⟨vs⟩).run P w = .ok (.agg ⟨cs⟩) w := by
  have hu : P.underlying t = some (.array n el) := fits_of ht htag
  obtain ⟨i, z, hi, hs, hby, hz, hzc⟩ := ht.info
  obtain ⟨ie, ze, hie, hse, _⟩ := hte.info
  refine run_build w t ⟨vs⟩ ⟨cs⟩ ?_
  unfold Program.built
  simp only [hi, hu, hz, hie]
  rw [← hzc] at h
  exact layAll_run (fun j x hx => by rw [hse]; exact hx) vs z.cells cs h
theorem buildSlice_run {t el n : Nat} {ti te : TI} (ht : TIOk P t ti) (htag : ti.tag = .slice el) (hte : TIOk P el te) {vs : List (Nat × Value)} {cs : List Value} (h : layAll (fun i => some (i * te.sh.length, te.sh.length)) (zerosOf te.zero n) vs = some cs) (hn : n * te.sh.length ≤ 16777216) (hz0 : te.zero.length = te.sh.length) (w : World) :
    (Instr.buildSlice t n ⟨vs⟩).run P w = .ok (.slice (some ⟨w.heap.size, 0, none⟩) n n) (w.alloc (.cells ⟨cs⟩ el)) := by
  have hu : P.underlying t = some (.slice el) := fits_of ht htag
  obtain ⟨i, z, hi, hs, hby, hz, hzc⟩ := hte.info
  have hsz := run_sizeOf' hte w
  have hzsz : z.cells.size = te.sh.length := by rw [← hz0, ← hzc]; simp
  have hn' : ¬ (n * te.sh.length > 2 ^ 24) := by omega
  have hzz : (Array.range (n * te.sh.length)).map (z.cells[· % z.cells.size]!) = ⟨zerosOf te.zero n⟩ := by
    have := zerosOf_eq z n
    rw [← hzsz]
    apply Array.ext'
    rw [← hzc]
    exact this
  have hf : Instr.fill (fun i => some (i * te.sh.length, te.sh.length)) ((Array.range (n * te.sh.length)).map (z.cells[· % z.cells.size]!)) vs = some ⟨cs⟩ := by
    rw [hzz]
    exact layAll_run (fun j x hx => hx) vs ⟨zerosOf te.zero n⟩ cs h
  by_cases h0 : n * te.sh.length = 0
  · have hf0 : Instr.fill (fun i => some (i * te.sh.length, te.sh.length)) #[] vs = some ⟨cs⟩ := by
      have hr0 : Array.range 0 = (#[] : Array Nat) := by simp [Array.range]
      rw [← hf, h0, hr0]; simp
    have hr0 : Array.range 0 = (#[] : Array Nat) := by simp [Array.range]
    simp [Instr.buildSlice, run_underlying hu, hsz, h0, hr0, hf0, newRow]
  · simp only [Instr.buildSlice, Sem.run_bind, run_underlying hu, hsz, Result.andThen]
    have hzv : (zeroValue el).run P w = .ok z w := by simp [zeroValue, typeInfo, hi, hz]
    simp [hn', h0, hzv, hf, newRow]
/-! ## One operation -/
theorem exCells_some : ∀ {l : List Sh} {K : List Value → Prop}, exCells l K → ∃ vs, K vs
  | [], K, h => ⟨[], h⟩
  | s :: r, K, ⟨x, h⟩ => let ⟨vs, hk⟩ := exCells_some h; ⟨_, hk⟩
theorem exOne_some {ti : TI} {K : Value → Prop} (h : exOne ti K) : ∃ v, K v := by
  unfold exOne at h
  split at h
  · exact ⟨_, h.choose_spec⟩
  · obtain ⟨vs, h⟩ := exCells_some h; exact ⟨_, h⟩
  · exact h.elim
theorem exMany_some {tt : Tab} : ∀ {l : List Nat} {K : List Value → Prop}, exMany tt l K → ∃ vs, K vs
  | [], K, h => ⟨[], h⟩
  | t :: r, K, h => by
    unfold exMany at h
    split at h
    · exact h.elim
    · obtain ⟨v, h⟩ := exOne_some h
      exact ⟨_, (exMany_some h).choose_spec⟩
theorem exRes_some {tt : Tab} {t : Nat} {v : Value} {K : Value → Prop} (h : exRes tt t v K) : K v := by
  unfold exRes at h
  split at h
  · exact h.elim
  · split at h
    · obtain ⟨l, h1, h2⟩ := exMany_some h; rw [h1]; exact h2
    · obtain ⟨u, h1, h2⟩ := exOne_some h; rw [h1]; exact h2
theorem run_invoke_call {c : Call} {ty : Nat} {g : Nat} {x cap args : Array Value} {ρ : Operand → Value} {f : Operand} {w : World} (hc : c.callee = .value f) (hf : ρ f = .func (.func g) x cap) (ha : c.args.map ρ = args) (hg : OkFn P g) :
    (do let d ← resolve ρ c ty; invoke d.target d.args : Sem Next).run P w = .ok (.enter g (x ++ args ++ cap)) w := by
  obtain ⟨fn, h1, h2, h3⟩ := hg
  have hb : ¬ fn.body = none := by intro hh; rw [hh] at h2; cases h2
  have h3' : ¬ fn.name = "runtime.NumGoroutine" := by simpa using h3
  simp [resolve, hc, ha, hf, Deferred.ofValue, invoke, callFunc, h1, h3', hb, program, Sem.run]
theorem run_invoke_value {c : Call} {ty : Nat} {g : Nat} {x cap args : Array Value} {ρ : Operand → Value} {f : Operand} {w w' : World} {v : Value} (hc : c.callee = .value f) (hf : ρ f = .func (.func g) x cap) (ha : c.args.map ρ = args)
    (hg : (callFunc g (x ++ args ++ cap)).run P w = .ok (.value v) w') :
    (do let d ← resolve ρ c ty; invoke d.target d.args : Sem Next).run P w = .ok (.value v) w' := by
  have : (do let d ← resolve ρ c ty; invoke d.target d.args : Sem Next).run P w = (callFunc g (x ++ args ++ cap)).run P w := by
    simp [resolve, hc, ha, hf, Deferred.ofValue, invoke, Sem.run]
  rw [this, hg]
end Go.Den

/- One operation of the plainer reading is the model's operation. Conditions: the table of types is the program's (TabOk). -/
set_option linter.unusedVariables false
set_option linter.unusedSimpArgs false
namespace Go.Den
variable {P : Program}
theorem made_eq (z : Value) (n size : Nat) (h : z.cells.size = size) : madeCells z.cells (n * size) = ⟨zerosOf z.cells.toList n⟩ := by
  have := zerosOf_eq z n
  apply Array.ext'
  simp only
  rw [← this]
  subst h
  rfl
theorem ev_match {e : Env} {a : Act} (ha : Agree e a) {x : Operand} {K : Value → Prop} (h : match e.ev x with | some v => K v | none => False) : K (a.eval x) := by
  split at h
  · rename_i v hv; rw [ha.ev hv]; exact h
  · exact h.elim
section
variable {tt : Tab} (htt : TabOk P tt) {o : Oper} {e : Env} {w : World} {K : Value → World → Prop} {a : Act} (ha : Agree e a) {next : Act → World → Prop} {Q : Exit → Act → World → Prop} (hn : ∀ v w', K v w' → next (a.put o.dst v) w')
include htt ha
theorem op_run (h : denOp P tt o e w K) (hs : match o.op with | .call _ => False | .store _ _ _ => False | .mapUpdate _ _ _ _ => False | .insert _ _ _ _ => False | _ => True) : ∃ v w', K v w' ∧ (execOp a.eval o).run P w = .ok (.value v) w' ∧ (quietOp o.op = true → w' = w) := by
  unfold denOp at h
  split at h
  · -- move
    rename_i x ho
    have hk := ev_match ha (K := fun v => K v w) h
    exact ⟨_, _, hk, by simp [execOp, ho], by first | exact fun _ => rfl | (intro hq; rw [ho] at hq; cases hq)⟩
  · rename_i x ho
    have hk := ev_match ha (K := fun v => K v w) h
    exact ⟨_, _, hk, by simp [execOp, ho], by first | exact fun _ => rfl | (intro hq; rw [ho] at hq; cases hq)⟩
  · -- pick
    rename_i c x y ho
    split at h
    · rename_i b hc
      have hc' := ha.ev hc
      split at h
      · have hk := ev_match ha (K := fun v => K v w) h
        exact ⟨a.eval x, _, hk, by simp [execOp, ho, hc', asBool], by first | exact fun _ => rfl | (intro hq; rw [ho] at hq; cases hq)⟩
      · have hk := ev_match ha (K := fun v => K v w) h
        exact ⟨a.eval y, _, hk, by simp [execOp, ho, hc', asBool], by first | exact fun _ => rfl | (intro hq; rw [ho] at hq; cases hq)⟩
    · exact h.elim
  · -- alloc
    rename_i t ho
    obtain ⟨ti, hti, hk⟩ := tiOf_some h
    obtain ⟨z, hz, hzc⟩ := run_zeroValue' (htt.find hti) w
    exact ⟨_, _, hk, by simp [execOp, ho, Instr.alloc, hz, newVar, newRow, hzc], by first | exact fun _ => rfl | (intro hq; rw [ho] at hq; cases hq)⟩
  · -- box
    rename_i t x ho
    have hk := ev_match ha (K := fun v => K (.pointer (some ⟨w.heap.size, 0, none⟩)) (w.alloc (.cells ⟨cellsOf v⟩ t))) h
    have hc : (a.eval x).cells = ⟨cellsOf (a.eval x)⟩ := by rw [← cellsOf_eq]
    exact ⟨_, _, hk, by simp [execOp, ho, Instr.box, newVar, newRow, hc], by first | exact fun _ => rfl | (intro hq; rw [ho] at hq; cases hq)⟩
  · -- build
    rename_i t ps ho
    obtain ⟨ti, hti, hk⟩ := tiOf_some h
    have ht := htt.find hti
    split at hk
    · exact hk.elim
    · rename_i vs hvs
      have hps := ha.evp hvs
      have hps' : ps.map (fun x => (x.1, a.eval x.2)) = ⟨vs⟩ := by
        apply Array.ext'; simpa using hps
      split at hk
      · rename_i fs htag
        split at hk
        · rename_i cs hall hl
          exact ⟨_, _, hk, by simp [execOp, ho, hps', build_struct_run htt ht htag hall hl w], by first | exact fun _ => rfl | (intro hq; rw [ho] at hq; cases hq)⟩
        · exact hk.elim
      · rename_i n el htag
        obtain ⟨te, hte, hk⟩ := tiOf_some hk
        split at hk
        · rename_i cs hl
          exact ⟨_, _, hk, by simp [execOp, ho, hps', build_array_run ht htag (htt.find hte) hl w], by first | exact fun _ => rfl | (intro hq; rw [ho] at hq; cases hq)⟩
        · exact hk.elim
      · exact hk.elim
  · -- buildSlice
    rename_i t n ps ho
    obtain ⟨ti, hti, hk⟩ := tiOf_some h
    have ht := htt.find hti
    split at hk
    · rename_i el vs htag hvs
      have hps := ha.evp hvs
      have hps' : ps.map (fun x => (x.1, a.eval x.2)) = ⟨vs⟩ := by
        apply Array.ext'; simpa using hps
      obtain ⟨te, hte, hk⟩ := tiOf_some hk
      split at hk
      · rename_i cs hl hb
        exact ⟨_, _, hk, by simp [execOp, ho, hps', buildSlice_run ht htag (htt.find hte) hl (Nat.le_of_ble_eq_true hb) (htt.find hte).zlen w], by first | exact fun _ => rfl | (intro hq; rw [ho] at hq; cases hq)⟩
      · exact hk.elim
    · exact hk.elim
  · -- load
    rename_i t x ho
    obtain ⟨ti, hti, hk⟩ := tiOf_some h
    obtain ⟨p, hp, hk⟩ := addrOf_some hk
    obtain ⟨v, hk, hr⟩ := ld_run (htt.find hti) hk
    exact ⟨_, _, hk, by simp [execOp, ho, Instr.loadAt, ha.ev hp, Instr.sureAddr, hr], by first | exact fun _ => rfl | (intro hq; rw [ho] at hq; cases hq)⟩
  · rename_i ho; rw [ho] at hs; exact hs.elim
  · -- nilCheck
    rename_i x ho
    split at h
    · rename_i q hx
      obtain ⟨p, rfl, hk⟩ := h
      exact ⟨_, _, hk, by simp [execOp, ho, ha.ev hx], by first | exact fun _ => rfl | (intro hq; rw [ho] at hq; cases hq)⟩
    · rename_i f y c hx
      exact ⟨_, _, h, by simp [execOp, ho, ha.ev hx], by first | exact fun _ => rfl | (intro hq; rw [ho] at hq; cases hq)⟩
    · exact h.elim
  · -- binOp
    rename_i op t x y yt ho
    split at h
    · rename_i u v hx hy
      obtain ⟨r, hk, hr⟩ : ∃ r, K r w ∧ (do eqGuard op t x y u v; binOp op t u v : Sem Value).run P w = .ok r w := by
        unfold binA at h
        split at h
        · obtain ⟨ti, hti, hk⟩ := tiOf_some h
          exact aggB_run (K := fun v => K v w) hk
        · obtain ⟨ti, hti, hk⟩ := tiOf_some h
          exact binB_run (K := fun v => K v w) (xo := x) (yo := y) (w := w) (htt.find hti) hk
      refine ⟨r, w, hk, ?_, fun _ => rfl⟩
      have hu := ha.ev hx
      have hv := ha.ev hy
      unfold execOp
      simp only [ho, hu, hv]
      exact run_vv hr
    · exact h.elim
  · -- unOp
    rename_i op t x ho
    have hk := ev_match ha (K := fun v => unB op v (fun v => K v w)) h
    obtain ⟨r, hk, hr⟩ := unB_run (P := P) (w := w) hk
    exact ⟨_, _, hk, by simp [execOp, ho, hr], by first | exact fun _ => rfl | (intro hq; rw [ho] at hq; cases hq)⟩
  · -- convert
    rename_i s d x ho
    have hk := ev_match ha (K := fun v => convB tt s d v w K) h
    obtain ⟨r, w', hk, hr, hw⟩ := convB_run htt hk
    refine ⟨_, _, hk, by simp [execOp, ho, hr], fun hq => hw (quiet_conv (x := x) (by rw [ho] at hq; exact hq))⟩
  · -- makeFunc
    rename_i f x c ho
    split at h
    · rename_i vs us hvs hus
      have h1 : x.map a.eval = ⟨vs⟩ := by apply Array.ext'; simpa using ha.evs hvs
      have h2 : c.map a.eval = ⟨us⟩ := by apply Array.ext'; simpa using ha.evs hus
      exact ⟨_, _, h, by simp [execOp, ho, h1, h2, Instr.makeFunc], by first | exact fun _ => rfl | (intro hq; rw [ho] at hq; cases hq)⟩
    · exact h.elim
  · -- makeMap
    rename_i t ho
    exact ⟨_, _, h, by simp [execOp, ho, Instr.makeMap], by first | exact fun _ => rfl | (intro hq; rw [ho] at hq; cases hq)⟩
  · -- lookup
    rename_i t x k c ho
    obtain ⟨vx, vk, v, hx, hk, hK, hr⟩ := lookB_run htt h
    exact ⟨_, _, hK, by simp [execOp, ho, ha.ev hx, ha.ev hk, hr], by first | exact fun _ => rfl | (intro hq; rw [ho] at hq; cases hq)⟩
  · rename_i ho; rw [ho] at hs; exact hs.elim
  · -- makeSlice
    rename_i t l c ho
    obtain ⟨ti, hti, hk⟩ := tiOf_some h
    split at hk
    · rename_i el htag
      obtain ⟨te, hte, hk⟩ := tiOf_some hk
      obtain ⟨k1, n, h1, hk⟩ := intOf_some hk
      obtain ⟨k2, m, h2, hk⟩ := intOf_some hk
      obtain ⟨h3, h4, h5, h6, hk⟩ := hk
      have hu : P.underlying t = some (.slice el) := fits_of (htt.find hti) htag
      obtain ⟨i, z, hi, hsz, hby, hz, hzc⟩ := (htt.find hte).info
      have hzl := (htt.find hte).zlen
      have hm : m * 1 ≤ m * te.bytes := Int.mul_le_mul_of_nonneg_left (by omega) (by omega)
      have hr := run_make (P := P) w t el i z hu hi hz k1 k2 n m h3 h4 (by rw [hby, Int.mul_comm]; omega) (by omega)
      rw [hsz, made_eq z m.toNat te.sh.length (by rw [← hzl, ← hzc]; simp), hzc] at hr
      exact ⟨_, _, hk, by simp [execOp, ho, ha.ev h1, ha.ev h2, hr], by first | exact fun _ => rfl | (intro hq; rw [ho] at hq; cases hq)⟩
    · exact hk.elim
  · -- slice
    rename_i t x lo hi mx ho
    split at h
    · rename_i q hx
      obtain ⟨p, rfl, hk⟩ := h
      obtain ⟨ti, hti, hk⟩ := tiOf_some hk
      split at hk
      · rename_i n el htag
        obtain ⟨r, hk, hr⟩ := cutArr_run htt (fits_of (htt.find hti) htag) (ha.opt lo) (ha.opt hi) (ha.opt mx) (w := w) hk
        exact ⟨_, _, hk, by simp [execOp, ho, ha.ev hx, hr], by first | exact fun _ => rfl | (intro hq; rw [ho] at hq; cases hq)⟩
      · exact hk.elim
    · rename_i v hx
      obtain ⟨r, hk, hr⟩ := sliceB_run htt (ha.opt lo) (ha.opt hi) (ha.opt mx) (w := w) h
      exact ⟨_, _, hk, by simp [execOp, ho, ha.ev hx, hr], by first | exact fun _ => rfl | (intro hq; rw [ho] at hq; cases hq)⟩
    · exact h.elim
  · -- fieldAddr
    rename_i s x f ho
    obtain ⟨ti, hti, hk⟩ := tiOf_some h
    obtain ⟨p, hp, hk⟩ := addrOf_some hk
    split at hk
    · rename_i fs htag
      split at hk
      · rename_i t off hof
        split at hk
        · rename_i tf htf
          split at hk
          · exact hk.elim
          · rename_i s0 r0 hsh
            obtain ⟨fields, hu, hfs⟩ : ∃ fields : Array Field, P.underlying s = some (.struct fields) ∧ fields.toList.map (fun f => (f.type, f.offset)) = fs := fits_of (htt.find hti) htag
            rw [offOf_get, ← hfs, List.getElem?_map] at hof
            obtain ⟨fd, hfd, he⟩ := Option.map_eq_some_iff.1 hof
            injection he with e1 e2
            have hsz := run_sizeOf' (htt.find htf) w
            rw [hsh] at hsz
            have hfd' : fields[f]? = some fd := by simpa using hfd
            subst e1; subst e2
            exact ⟨_, _, hk, by simp [execOp, ho, Instr.fieldAt, run_underlying hu, hfd', ha.ev hp, Instr.sureAddr, fieldPlace, hsz], by first | exact fun _ => rfl | (intro hq; rw [ho] at hq; cases hq)⟩
        · exact hk.elim
      · exact hk.elim
    · exact hk.elim
  · -- field
    rename_i t x f ho
    obtain ⟨ti, hti, hk⟩ := tiOf_some h
    split at hk
    · rename_i fs cs htag hx
      split at hk
      · rename_i t' off hof
        split at hk
        · rename_i tf htf
          obtain ⟨fields, hu, hfs⟩ : ∃ fields : Array Field, P.underlying t = some (.struct fields) ∧ fields.toList.map (fun f => (f.type, f.offset)) = fs := fits_of (htt.find hti) htag
          rw [offOf_get, ← hfs, List.getElem?_map] at hof
          obtain ⟨fd, hfd, he⟩ := Option.map_eq_some_iff.1 hof
          injection he with e1 e2
          have hsz := run_sizeOf' (htt.find htf) w
          have hag := run_isAgg' (htt.find htf) w
          have hfd' : fields[f]? = some fd := by simpa using hfd
          subst e1; subst e2
          split at hk
          · rename_i l hagg
            rw [hagg] at hag
            have hex : cs.extract fd.offset (fd.offset + tf.sh.length) = ⟨(cs.toList.drop fd.offset).take tf.sh.length⟩ := by
              apply Array.ext'
              simp [List.take_drop]
            exact ⟨_, _, hk, by simp [execOp, ho, Instr.field, run_underlying hu, hfd', ha.ev hx, asAgg, part, hag, hsz, hex], by first | exact fun _ => rfl | (intro hq; rw [ho] at hq; cases hq)⟩
          · rename_i l hagg
            rw [hagg] at hag
            split at hk
            · rename_i v r hd
              have hget : cs[fd.offset]? = some v := by
                have : (cs.toList.drop fd.offset)[0]? = some v := by rw [hd]; rfl
                simpa using this
              exact ⟨_, _, hk, by simp [execOp, ho, Instr.field, run_underlying hu, hfd', ha.ev hx, asAgg, part, hag, hget], by first | exact fun _ => rfl | (intro hq; rw [ho] at hq; cases hq)⟩
            · exact hk.elim
        · exact hk.elim
      · exact hk.elim
    · exact hk.elim
  · -- indexAddr
    rename_i t x ix ho
    obtain ⟨ti, hti, hk⟩ := tiOf_some h
    obtain ⟨k, i, hi, hk⟩ := intOf_some hk
    split at hk
    · rename_i el q n c htag hx
      obtain ⟨te, hte, h0, h1, p, hp, hk2⟩ := tiOf_some hk
      subst hp
      have hu : P.underlying t = some (.slice el) := fits_of (htt.find hti) htag
      have hsz := run_sizeOf' (htt.find hte) w
      exact ⟨_, _, hk2, by simp [execOp, ho, Instr.indexAt, ha.ev hi, ha.ev hx, asIntOf, run_underlying hu, h0, h1, hsz], by first | exact fun _ => rfl | (intro hq; rw [ho] at hq; cases hq)⟩
    · rename_i n el p htag hx
      obtain ⟨te, hte, h0, h1, hk⟩ := tiOf_some hk
      have hu : P.underlying t = some (.array n el) := fits_of (htt.find hti) htag
      have hsz := run_sizeOf' (htt.find hte) w
      exact ⟨_, _, hk, by simp [execOp, ho, Instr.indexAt, Instr.sureAddr, ha.ev hi, ha.ev hx, asIntOf, run_underlying hu, h0, h1, hsz], by first | exact fun _ => rfl | (intro hq; rw [ho] at hq; cases hq)⟩
    · exact hk.elim
  · -- index
    rename_i t x ix ho
    obtain ⟨ti, hti, hk⟩ := tiOf_some h
    obtain ⟨k, i, hi, hk⟩ := intOf_some hk
    split at hk
    · rename_i s htag hx
      obtain ⟨h0, h1, hk⟩ := hk
      have hu : P.underlying t = some .string := fits_of (htt.find hti) htag
      have hlt : i.toNat < s.size := by omega
      have hb : s[i.toNat]? = some (s[i.toNat]'hlt) := getElem?_pos s i.toNat hlt
      have hbt : btI s i = ((s[i.toNat]'hlt).toNat : Int) := by
        have hl : i.toNat < s.data.toList.length := by rw [Array.length_toList]; exact hlt
        rw [btI, List.getD_eq_getElem?_getD, List.getElem?_eq_getElem hl]
        rfl
      exact ⟨_, _, hk, by simp [execOp, ho, Instr.index, ha.ev hi, ha.ev hx, asIntOf, run_underlying hu, h0, hb, hbt], by first | exact fun _ => rfl | (intro hq; rw [ho] at hq; cases hq)⟩
    · exact hk.elim
  · -- extract
    rename_i x i ho
    split at h
    · rename_i vs hx
      split at h
      · rename_i v r hd
        have hget : vs[i]? = some v := by
          have : (vs.toList.drop i)[0]? = some v := by rw [hd]; rfl
          simpa using this
        exact ⟨_, _, h, by simp [execOp, ho, Instr.extract, ha.ev hx, hget], by first | exact fun _ => rfl | (intro hq; rw [ho] at hq; cases hq)⟩
      · exact h.elim
    · exact h.elim
  · rename_i ho; rw [ho] at hs; exact hs.elim
  · rename_i ho; rw [ho] at hs; exact hs.elim
  · rename_i ho; rw [ho] at hs; exact hs.elim
  · -- range
    rename_i t x ho
    obtain ⟨vx, v, w', hx, hK, hr⟩ := rangeB_run htt h
    exact ⟨_, _, hK, by simp [execOp, ho, ha.ev hx, hr], by first | exact fun _ => rfl | (intro hq; rw [ho] at hq; cases hq)⟩
  · -- next
    rename_i x s ho
    obtain ⟨vx, v, w', hx, hK, hr⟩ := nextB_run (P := P) o.type h
    exact ⟨_, _, hK, by simp [execOp, ho, ha.ev hx, hr], by first | exact fun _ => rfl | (intro hq; rw [ho] at hq; cases hq)⟩
  · -- entry
    rename_i x ho
    obtain ⟨vx, v, hx, hK, hr⟩ := entryB_run (P := P) h
    exact ⟨_, _, hK, by simp [execOp, ho, ha.ev hx, hr], by first | exact fun _ => rfl | (intro hq; rw [ho] at hq; cases hq)⟩
  · exact h.elim
include hn
theorem op_store {t : Nat} {x y : Operand} (ho : o.op = .store t x y) (h : denOp P tt o e w K) : o.wp P a w next Q := by
  unfold denOp at h
  rw [ho] at h
  simp only at h
  obtain ⟨ti, hti, hk⟩ := tiOf_some h
  obtain ⟨p, hp, hk⟩ := addrOf_some hk
  have hk := ev_match ha (K := fun v => storeB ti w p v K) hk
  obtain ⟨w', hk, hr⟩ := storeB_run (htt.find hti) hk
  exact wp_of_skip (by simp [execOp, ho, Instr.storeAt, ha.ev hp, Instr.sureAddr, hr]) (hn _ _ hk)
theorem op_put {t : Nat} {m k x : Operand} (ho : o.op = .mapUpdate t m k x) (h : denOp P tt o e w K) : o.wp P a w next Q := by
  unfold denOp at h
  rw [ho] at h
  simp only at h
  obtain ⟨vm, vk, vv, w', hm, hk, hv, hK, hr⟩ := putB_run htt h
  exact wp_of_skip (by simp [execOp, ho, ha.ev hm, ha.ev hk, ha.ev hv, hr]) (hn _ _ hK)
theorem op_ins {t : Nat} {m k x : Operand} (ho : o.op = .insert t m k x) (h : denOp P tt o e w K) : o.wp P a w next Q := by
  unfold denOp at h
  rw [ho] at h
  simp only at h
  obtain ⟨vm, vk, vv, w', hm, hk, hv, hK, hr⟩ := putB_run htt h
  exact wp_of_skip (by simp [execOp, ho, ha.ev hm, ha.ev hk, ha.ev hv, hr]) (hn _ _ hK)
theorem op_simple (h : denOp P tt o e w K) (hs : match o.op with | .call _ => False | _ => True) : o.wp P a w next Q := by
  by_cases hst : ∃ t x y, o.op = .store t x y
  · obtain ⟨t, x, y, ho⟩ := hst
    exact op_store htt ha hn ho h
  by_cases hmu : ∃ t m k x, o.op = .mapUpdate t m k x
  · obtain ⟨t, m, k, x, ho⟩ := hmu
    exact op_put htt ha hn ho h
  by_cases hin : ∃ t m k x, o.op = .insert t m k x
  · obtain ⟨t, m, k, x, ho⟩ := hin
    exact op_ins htt ha hn ho h
  · obtain ⟨v, w', hk, hr, _⟩ := op_run htt ha h (by
      cases ho : o.op <;> rw [ho] at hs <;> first | trivial | exact hs | (exfalso; exact hmu ⟨_, _, _, _, ho⟩) | (exfalso; exact hin ⟨_, _, _, _, ho⟩) | (exfalso; exact hst ⟨_, _, _, ho⟩))
    exact wp_of_value hr (hn _ _ hk)
end
end Go.Den

/- One operation of the plainer reading is the model's operation: calls, of built-in functions and of the program's own. Conditions: the table of types is the program's (TabOk). -/
set_option linter.unusedVariables false
set_option linter.unusedSimpArgs false
set_option linter.unusedSectionVars false
namespace Go.Den
variable {P : Program}
def constsOf (args : Array Operand) : Array Bool := args.map fun | .const _ => true | _ => false
section
variable {tt : Tab} (htt : TabOk P tt) {o : Oper} {e : Env} {w : World} {K : Value → World → Prop} {a : Act} (ha : Agree e a) {next : Act → World → Prop} {Q : Exit → Act → World → Prop} (hn : ∀ v w', K v w' → next (a.put o.dst v) w')
include htt ha hn
theorem run_builtin {b : Builtin} {args : Array Operand} {ts : Array Nat} (ho : o.op = .call { callee := .builtin b, args, argTypes := ts }) {vs : List Value} (hvs : e.evs args.toList = some vs) (w : World) :
    (execOp a.eval o).run P w = (builtin b ts o.type (constsOf args) ⟨vs⟩).run P w := by
  have hps : args.map a.eval = ⟨vs⟩ := by apply Array.ext'; simpa using ha.evs hvs
  simp only [execOp, ho, resolve, hps, Sem.run_bind, Sem.run_pure, Result.andThen, invoke]
  rfl
theorem op_call (h : denOp P tt o e w K) (hs : ∃ c, o.op = .call c) : o.wp P a w next Q := by
  obtain ⟨c, ho⟩ := hs
  unfold denOp at h
  rw [ho] at h
  obtain ⟨callee, args, ts⟩ := c
  cases callee with
  | invoke r m => simp only at h
  | builtin b =>
    simp only at h
    have hrun := fun {vs : List Value} (hvs : e.evs args.toList = some vs) => run_builtin (P := P) htt ha hn ho hvs w
    split at h
    · -- len
      rename_i t r v vs hts hvs
      have hrun := hrun hvs
      obtain ⟨u, hk, hr⟩ := lenB_run htt h ts (by rw [← Array.getElem?_toList, hts]; rfl) (⟨v :: vs⟩ : Array Value) (by simp) (ty := o.type)
      exact wp_of_value (by rw [hrun]; simp only [builtin]; exact run_vv hr) (hn _ _ hk)
    · -- append
      rename_i t u a1 n c a2 n2 c2 hts hvs
      have hrun := hrun hvs
      have hts' : ts = #[t, u] := by apply Array.ext'; exact hts
      subst hts'
      obtain ⟨ti, hti, hk⟩ := tiOf_some h
      obtain ⟨tu, htu, hk⟩ := tiOf_some hk
      split at hk
      · rename_i el e' htag htag2
        obtain ⟨te, hte, hk⟩ := tiOf_some hk
        obtain ⟨s, w', hk, hr⟩ := AppendW_run (ty := o.type) (htt.find hte) (fits_of (htt.find hti) htag) ⟨_, fits_of (htt.find htu) htag2⟩ hk
        exact wp_of_value (by rw [hrun]; simp only [builtin]; exact run_vv hr) (hn _ _ hk)
      · exact hk.elim
    · -- append of zeros
      rename_i t u a1 n c k x hts hvs
      have hrun := hrun hvs
      have hts' : ts = #[t, u] := by apply Array.ext'; exact hts
      subst hts'
      obtain ⟨ti, hti, hk⟩ := tiOf_some h
      obtain ⟨tu, htu, hk⟩ := tiOf_some hk
      split at hk
      · rename_i el e' htag htag2
        obtain ⟨te, hte, hk⟩ := tiOf_some hk
        obtain ⟨s, w', hk, hr⟩ := AppendZW_run (ty := o.type) (k := k) (htt.find hte) (fits_of (htt.find hti) htag) (fits_of (htt.find htu) htag2) hk
        exact wp_of_value (by rw [hrun]; simp only [builtin]; exact run_vv hr) (hn _ _ hk)
      · exact hk.elim
    · -- delete
      rename_i t r x k hts hvs
      have hrun := hrun hvs
      obtain ⟨w', hk, hr⟩ := delB_run htt h ts (by rw [← Array.getElem?_toList, hts]; rfl) o.type (⟨[x, k]⟩ : Array Value) rfl rfl
      exact wp_of_value (by rw [hrun]; simp only [builtin]; exact run_vv hr) (hn _ _ hk)
    · -- min
      rename_i x k i j y hts hvs
      have hrun := hrun hvs
      exact wp_of_value (by rw [hrun]; simp [builtin, Builtin.min_, Builtin.min2, minI]) (hn _ _ h)
    · -- max
      rename_i x k i j y hts hvs
      have hrun := hrun hvs
      exact wp_of_value (by rw [hrun]; simp [builtin, Builtin.max_, Builtin.max2, maxI]) (hn _ _ h)
    · -- copy
      rename_i t u a1 n c a2 n2 c2 hts hvs
      have hrun := hrun hvs
      have hts' : ts = #[t, u] := by apply Array.ext'; exact hts
      subst hts'
      obtain ⟨ti, hti, hk⟩ := tiOf_some h
      split at hk
      · rename_i el htag
        obtain ⟨te, hte, vs, hv, hpv, hk⟩ := tiOf_some hk
        rcases hk with ⟨hnil, hk3⟩ | ⟨p, hp, hcan, hk⟩
        · subst hnil
          exact wp_of_value (by rw [hrun]; simp only [builtin]; exact run_vv (copyS_none (htt.find hte) (fits_of (htt.find hti) htag) hv)) (hn _ _ hk3)
        · exact wp_of_value (by rw [hrun]; simp only [builtin]; exact run_vv (copyS_run (htt.find hte) (fits_of (htt.find hti) htag) hv hp hpv hcan)) (hn _ _ hk)
      · exact hk.elim
    · -- copy from a text
      rename_i t u a1 n c s hts hvs
      have hrun := hrun hvs
      have hts' : ts = #[t, u] := by apply Array.ext'; exact hts
      subst hts'
      obtain ⟨ti, hti, hk⟩ := tiOf_some h
      split at hk
      · rename_i el htag
        obtain ⟨te, hte, hk⟩ := tiOf_some hk
        split at hk
        · rename_i h1
          rcases hk with ⟨hnil, hk3⟩ | ⟨p, hp, hcan, hk⟩
          · subst hnil
            exact wp_of_value (by rw [hrun]; simp only [builtin]; exact run_vv (copyStr_none (htt.find hte) (fits_of (htt.find hti) htag))) (hn _ _ hk3)
          · exact wp_of_value (by rw [hrun]; simp only [builtin]; exact run_vv (copyStr_run (htt.find hte) (fits_of (htt.find hti) htag) (Nat.eq_of_beq_eq_true h1) hp hcan)) (hn _ _ hk)
        · exact hk.elim
      · exact hk.elim
    · -- cap
      rename_i t a1 n c hts hvs
      have hrun := hrun hvs
      have hts' : ts = #[t] := by apply Array.ext'; exact hts
      subst hts'
      obtain ⟨ti, hti, hk⟩ := tiOf_some h
      split at hk
      · rename_i el htag
        exact wp_of_value (by rw [hrun]; simp only [builtin]; exact run_vv (cap_run (fits_of (htt.find hti) htag))) (hn _ _ hk)
      · exact hk.elim
    · -- clear
      rename_i t a1 n c hts hvs
      have hrun := hrun hvs
      have hts' : ts = #[t] := by apply Array.ext'; exact hts
      subst hts'
      obtain ⟨ti, hti, hk⟩ := tiOf_some h
      split at hk
      · rename_i el htag
        obtain ⟨te, hte, hpl, hlen, hk⟩ := tiOf_some hk
        rcases hk with ⟨h0, hk3⟩ | ⟨h0, p, hp, hcan, hk⟩
        · subst h0
          exact wp_of_value (by rw [hrun]; simp only [builtin]; exact run_vv (clear_none (fits_of (htt.find hti) htag))) (hn _ _ hk3)
        · exact wp_of_value (by rw [hrun]; simp only [builtin]; exact run_vv (clear_run (htt.find hte) (fits_of (htt.find hti) htag) h0 hp hpl (by rw [hlen]; exact hcan))) (hn _ _ hk)
      · exact hk.elim
    · exact h.elim
  | value f =>
    simp only at h
    split at h
    · rename_i g x c vs hf hvs
      have hps : args.map a.eval = ⟨vs⟩ := by apply Array.ext'; simpa using ha.evs hvs
      have he : (⟨x⟩ ++ ⟨vs⟩ ++ ⟨c⟩ : Array Value) = ⟨x ++ (vs ++ c)⟩ := by apply Array.ext'; simp
      rcases h with ⟨hg, hcall⟩ | ⟨v, w', hrun, hk⟩
      rotate_left
      · refine wp_of_value (v := v) (w' := w') ?_ (hn _ _ (exRes_some hk))
        have := run_invoke_value (P := P) (c := { callee := .value f, args := args, argTypes := ts }) (ty := o.type) (ρ := a.eval) (w := w) rfl (ha.ev hf) hps (by rw [he]; exact hrun)
        unfold execOp
        simp only [ho]
        exact this
      have hr := run_invoke_call (P := P) (c := { callee := .value f, args := args, argTypes := ts }) (ty := o.type) (ρ := a.eval) (w := w) rfl (ha.ev hf) hps hg
      unfold Oper.wp
      have hx : (execOp a.eval o).run P w = .ok (.enter g (⟨x⟩ ++ ⟨vs⟩ ++ ⟨c⟩)) w := by
        unfold execOp
        simp only [ho]
        exact hr
      rw [hx, Oper.upon_enter]
      rw [he]
      refine hcall.mono ?_
      rintro en w' ⟨v, rfl, hk⟩
      exact hn _ _ (exRes_some hk)
    · exact h.elim
theorem denOp_sound (h : denOp P tt o e w K) : o.wp P a w next Q := by
  by_cases hc : ∃ c, o.op = .call c
  · exact op_call htt ha hn h hc
  · refine op_simple htt ha hn h ?_
    cases ho : o.op <;> simp
    exact hc ⟨_, ho⟩
end
end Go.Den

/- Where the model draws the order of a statement's operations: one order is enough, if what is read beside what is done stays as it was read. Conditions: as the theorem's hypotheses say. -/
set_option linter.unusedVariables false
set_option linter.unusedSimpArgs false
namespace Go.Den
variable {P : Program} {ops : Array Oper} {Q : Exit → Act → World → Prop} {R : List (Nat × (World → Prop)) → Act → World → Prop}
theorem exists_min : ∀ (l : List Nat), l ≠ [] → ∃ m, m ∈ l ∧ ∀ x, x ∈ l → m ≤ x
  | [], h => absurd rfl h
  | [y], _ => ⟨y, by simp, fun x hx => by simp at hx; omega⟩
  | y :: z :: r, _ => by
    obtain ⟨m, hm, hmin⟩ := exists_min (z :: r) (by simp)
    rcases Nat.le_total y m with h | h
    · exact ⟨y, by simp, fun x hx => by rcases List.mem_cons.1 hx with rfl | hx; exact Nat.le_refl _; exact Nat.le_trans h (hmin x hx)⟩
    · exact ⟨m, List.mem_cons_of_mem _ hm, fun x hx => by rcases List.mem_cons.1 hx with rfl | hx; exact h; exact hmin x hx⟩
/-- The operations in one order; behind each that does something, what was read ahead of it and does not wait for it still stands. -/
def Good (P : Program) (ops : Array Oper) (R : List (Nat × (World → Prop)) → Act → World → Prop) (quiet : Nat → Bool) (anc : Nat → Nat → Bool) : List Nat → List (Nat × (World → Prop)) → Act → World → Prop
  | [], pend, a, w => R pend a w
  | i :: r, pend, a, w => ∃ o, ops[i]? = some o ∧
    (Region.wanted o (yielded ops a.tmps) = true → quiet i = true → ∃ v, (execOp a.eval o).run P w = .ok (.value v) w ∧ Good P ops R quiet anc r ((i, fun u => (execOp a.eval o).run P u = .ok (.value v) u) :: pend) (a.put o.dst v) w) ∧
    (Region.wanted o (yielded ops a.tmps) = true → quiet i = false → o.wp P a w (fun a' w' => (∀ x p, (x, p) ∈ pend → anc i x = false → p w') ∧ Good P ops R quiet anc r pend a' w') (fun _ _ _ => False)) ∧
    (Region.wanted o (yielded ops a.tmps) = false → Good P ops R quiet anc r pend (a.put o.dst undef) w)
def RMono (R : List (Nat × (World → Prop)) → Act → World → Prop) : Prop := ∀ (pend pend' : List (Nat × (World → Prop))) (a : Act) (w : World), (∀ x p', (x, p') ∈ pend' → (∀ u, p' u) ∨ ∃ p, (x, p) ∈ pend ∧ ∀ u, p u → p' u) → R pend a w → R pend' a w
section
variable {quiet : Nat → Bool} {anc : Nat → Nat → Bool}
theorem Good.pend (hR : RMono R) : ∀ {r : List Nat} {pend pend' : List (Nat × (World → Prop))} {a : Act} {w : World}, (∀ x p', (x, p') ∈ pend' → (∀ u, p' u) ∨ ∃ p, (x, p) ∈ pend ∧ ∀ u, p u → p' u) → Good P ops R quiet anc r pend a w → Good P ops R quiet anc r pend' a w
  | [], pend, pend', a, w, hp, h => hR _ _ _ _ hp h
  | i :: r, pend, pend', a, w, hp, h => by
    obtain ⟨o, ho, h1, h2, h3⟩ := h
    refine ⟨o, ho, fun hw hq => ?_, fun hw hq => ?_, fun hw => (h3 hw).pend hR hp⟩
    · obtain ⟨v, hr, hg⟩ := h1 hw hq
      refine ⟨v, hr, hg.pend hR fun x p' hx => ?_⟩
      rcases List.mem_cons.1 hx with hx | hx
      · exact .inr ⟨p', by rw [hx]; simp, fun u hu => hu⟩
      · rcases hp x p' hx with hall | ⟨p, hm, hi⟩
        · exact .inl hall
        · exact .inr ⟨p, List.mem_cons_of_mem _ hm, hi⟩
    · refine Oper.wp_mono (fun a' w' hk => ?_) (h2 hw hq)
      refine ⟨fun x p' hx ha => ?_, hk.2.pend hR hp⟩
      rcases hp x p' hx with hall | ⟨p, hm, hi⟩
      · exact hall _
      · exact hi _ (hk.1 x p hm ha)
theorem put_defers' (a : Act) (ds : List Deferred) (dst : Option Tmp) (v : Value) : { a.put dst v with defers := ds } = ({ a with defers := ds } : Act).put dst v := by
  cases dst <;> rfl
theorem wp_shift {o : Oper} {a a1 : Act} {w : World} {next next1 : Act → World → Prop} (he : execOp a1.eval o = execOp a.eval o) (hdf : a1.defers = a.defers)
    (hn : ∀ ds v w', next1 (({ a1 with defers := ds } : Act).put o.dst v) w' → next (({ a with defers := ds } : Act).put o.dst v) w') (h : o.wp P a1 w next1 (fun _ _ _ => False)) : o.wp P a w next (fun _ _ _ => False) := by
  unfold Oper.wp at *
  rw [he] at h
  have hn0 : ∀ v w', next1 (a1.put o.dst v) w' → next (a.put o.dst v) w' := fun v w' hh => hn a.defers v w' (by rw [← hdf]; exact hh)
  generalize (execOp a.eval o).run P w = r at *
  cases r with
  | ok n w' =>
    cases n <;> simp only [Oper.upon] at h ⊢
    case value v => exact hn0 _ _ h
    case skip => exact hn0 _ _ h
    case defer d => exact hn _ _ _ (by rw [← hdf]; exact h)
    case enter f args => exact h.mono fun e w'' hh => by cases e <;> first | exact hn0 _ _ hh | exact hh.elim | exact hh
    case row f args => exact h.mono fun v w'' hh => hn0 _ _ hh
    all_goals exact h
  | halt x w' => cases x <;> simp only [Oper.upon] at h ⊢ <;> exact h
theorem wp_any {o : Oper} {a : Act} {w : World} {K : Act → World → Prop} (h : o.wp P a w K (fun _ _ _ => False)) : o.wp P a w K Q := by
  unfold Oper.wp at h ⊢
  generalize (execOp a.eval o).run P w = r at *
  cases r with
  | ok n w' =>
    cases n <;> simp only [Oper.upon] at h ⊢ <;> first
      | exact h
      | exact h.mono fun e w'' hh => by cases e <;> first | exact hh | exact hh.elim | (obtain ⟨_, _, hh⟩ := hh; exact hh.elim)
  | halt x w' => cases x <;> simp only [Oper.upon] at h ⊢ <;> first | exact h | exact h.elim
theorem eval_defers (a : Act) (ds : List Deferred) : ({ a with defers := ds } : Act).eval = a.eval := by
  funext x; cases x <;> rfl
theorem Good.front (hR : RMono R) (hsel : ∀ (j : Nat) (o : Oper) cs b, ops[j]? = some o → o.op ≠ .select cs b) {i : Nat} : ∀ (A B : List Nat) (pend : List (Nat × (World → Prop))) (a : Act) (w : World),
    (∀ x, x ∈ A → quiet x = true ∧ anc i x = false ∧ ∀ ox oi, ops[x]? = some ox → ops[i]? = some oi → ox.apart ops oi = true) →
    Good P ops R quiet anc (A ++ i :: B) pend a w → Good P ops R quiet anc (i :: (A ++ B)) pend a w
  | [], B, pend, a, w, hA, h => h
  | x :: A, B, pend, a, w, hA, h => by
    obtain ⟨hqx, hax, hap⟩ := hA x (by simp)
    have hA' : ∀ y, y ∈ A → quiet y = true ∧ anc i y = false ∧ ∀ ox oi, ops[y]? = some ox → ops[i]? = some oi → ox.apart ops oi = true := fun y hy => hA y (by simp [hy])
    obtain ⟨ox, hox, h1, h2, h3⟩ := h
    -- what x gives, and what is behind it
    obtain ⟨vx, px, hpx, hG, hback⟩ : ∃ (vx : Value) (px : World → Prop), px w ∧ Good P ops R quiet anc (A ++ i :: B) ((x, px) :: pend) (a.put ox.dst vx) w ∧
        (∀ (b : Act) (u : World) (r : List Nat) (pend' : List (Nat × (World → Prop))), execOp b.eval ox = execOp a.eval ox → Region.wanted ox (yielded ops b.tmps) = Region.wanted ox (yielded ops a.tmps) → px u →
          Good P ops R quiet anc r ((x, px) :: pend') (b.put ox.dst vx) u → Good P ops R quiet anc (x :: r) pend' b u) := by
      by_cases hw : Region.wanted ox (yielded ops a.tmps) = true
      · obtain ⟨v, hr, hg⟩ := h1 hw hqx
        refine ⟨v, fun u => (execOp a.eval ox).run P u = .ok (.value v) u, hr, hg, fun b u r pend' he hwb hp hgb => ⟨ox, hox, fun _ _ => ⟨v, by rw [he]; exact hp, ?_⟩, fun _ hq => ?_, fun hw' => ?_⟩⟩
        · rw [he]; exact hgb
        · rw [hqx] at hq; cases hq
        · rw [hwb, hw] at hw'; cases hw'
      · have hw' : Region.wanted ox (yielded ops a.tmps) = false := by simpa using hw
        refine ⟨undef, fun _ => True, trivial, (h3 hw').pend hR fun y p' hy => ?_, fun b u r pend' he hwb hp hgb => ⟨ox, hox, fun hh => ?_, fun hh => ?_, fun _ => hgb.pend hR fun y p' hy => .inr ⟨p', List.mem_cons_of_mem _ hy, fun u hu => hu⟩⟩⟩
        · rcases List.mem_cons.1 hy with hy | hy
          · injection hy with h1 h2; subst h2; exact .inl fun _ => trivial
          · exact .inr ⟨p', hy, fun u hu => hu⟩
        · rw [hwb, hw'] at hh; cases hh
        · rw [hwb, hw'] at hh; cases hh
    -- i ahead of the others
    obtain ⟨oi, hoi, g1, g2, g3⟩ := Good.front hR hsel A B _ _ w hA' hG
    obtain ⟨s1, s2, s3⟩ := Oper.apart_spec (hap ox oi hox hoi)
    have hsx := fun cs b => hsel x ox cs b hox
    have hsi := fun cs b => hsel i oi cs b hoi
    have hwi : Region.wanted oi (yielded ops (a.put ox.dst vx).tmps) = Region.wanted oi (yielded ops a.tmps) := wanted_put oi a ox.dst vx s1
    have hei : execOp (a.put ox.dst vx).eval oi = execOp a.eval oi := execOp_put oi hsi a ox.dst vx s1
    rw [hwi] at g1 g2 g3
    have swap : ∀ (ds : List Deferred) (v : Value) (u : World) (pend' : List (Nat × (World → Prop))), px u → Good P ops R quiet anc (A ++ B) ((x, px) :: pend') (({ a.put ox.dst vx with defers := ds } : Act).put oi.dst v) u →
        Good P ops R quiet anc (x :: (A ++ B)) pend' (({ a with defers := ds } : Act).put oi.dst v) u := by
      intro ds v u pend' hp hg
      refine hback _ u (A ++ B) pend' ?_ ?_ hp ?_
      · rw [execOp_put ox hsx _ oi.dst v s3, eval_defers]
      · rw [wanted_put ox _ oi.dst v s3]
      · rw [put_defers', Act.put_comm _ vx v s2] at hg
        exact hg
    refine ⟨oi, hoi, fun hw hq => ?_, fun hw hq => ?_, fun hw => ?_⟩
    · obtain ⟨v, hr, hg⟩ := g1 hw hq
      rw [hei] at hr hg
      refine ⟨v, hr, swap a.defers v w _ hpx ?_⟩
      rw [put_defers']
      exact hg.pend hR fun y p' hy => .inr ⟨p', by
        rcases List.mem_cons.1 hy with hy | hy
        · rw [hy]; simp
        · rcases List.mem_cons.1 hy with hy | hy
          · rw [hy]; simp
          · simp [hy], fun u hu => hu⟩
    · refine wp_shift hei (by cases ox.dst <;> rfl) (fun ds v w' hk => ?_) (g2 hw hq)
      exact ⟨fun y p hy hay => hk.1 y p (List.mem_cons_of_mem _ hy) hay, swap ds v w' pend (hk.1 x px (by simp) hax) hk.2⟩
    · have := swap a.defers undef w pend hpx (by rw [put_defers']; exact g3 hw)
      exact this
theorem good_any (hsel : ∀ (j : Nat) (o : Oper) cs b, ops[j]? = some o → o.op ≠ .select cs b)
    (hedge : ∀ i o, ops[i]? = some o → ∀ e ∈ o.after, Region.binds .any e = true → e.on < i)
    (hanc : ∀ i o, ops[i]? = some o → ∀ x, anc i x = true → ∃ e ∈ o.after, Region.binds .any e = true ∧ (e.on = x ∨ anc e.on x = true)) :
    ∀ (fuel : Nat) (listed : Array Bool) (rem : List Nat) (a : Act) (w : World), listed.size = ops.size → rem.length ≤ fuel → rem.Nodup → (∀ j, j < ops.size → (listed.getD j true = false ↔ j ∈ rem)) → (∀ j, j ∈ rem → j < ops.size) →
      (∀ i o, ops[i]? = some o → i ∉ rem → ∀ e ∈ o.after, Region.binds .any e = true → e.on ∉ rem) →
      (∀ A i B, rem = A ++ i :: B → ∀ x, x ∈ A → anc i x = true ∨ (quiet x = true ∧ ∀ ox oi, ops[x]? = some ox → ops[i]? = some oi → ox.apart ops oi = true)) →
      Good P ops (fun _ a w => Q .normal a w) quiet anc rem [] a w → wpAny P .any ops Q fuel listed a w := by
  intro fuel
  induction fuel with
  | zero =>
    intro listed rem a w hsz hlen hnd hl hlt hcl hchk hg
    have : rem = [] := List.eq_nil_of_length_eq_zero (by omega)
    subst this
    refine ⟨?_, hg⟩
    apply List.eq_nil_iff_forall_not_mem.2
    intro j hj
    rw [mem_ready] at hj
    obtain ⟨h0, o, ho, _⟩ := hj
    have hjl : j < ops.size := (Array.getElem?_eq_some_iff.1 ho).1
    have := (hl j hjl).1 h0
    simp at this
  | succ fuel ih =>
    intro listed rem a w hsz hlen hnd hl hlt hcl hchk hg
    -- what waits for something that is left is no ready one
    have ancl : ∀ i, i < ops.size → (∀ o, ops[i]? = some o → ∀ e ∈ o.after, Region.binds .any e = true → e.on ∉ rem) → ∀ x, anc i x = true → x ∉ rem := by
      intro i
      induction i using Nat.strongRecOn with
      | _ i ihi =>
        intro hi hh x hx
        have ho : ops[i]? = some ops[i] := Array.getElem?_eq_getElem hi
        obtain ⟨e, he, hb, hor⟩ := hanc i _ ho x hx
        have hei := hedge i _ ho e he hb
        have hen := hh _ ho e he hb
        rcases hor with rfl | hor
        · exact hen
        · exact ihi e.on hei (by omega) (fun o' ho' => hcl e.on o' ho' hen) x hor
    refine ⟨fun hr => ?_, fun i hi => ?_⟩
    · cases rem with
      | nil => exact hg
      | cons y r =>
        exfalso
        obtain ⟨m, hm, hmin⟩ := exists_min (y :: r) (by simp)
        have hml := hlt m hm
        have ho : ops[m]? = some ops[m] := Array.getElem?_eq_getElem hml
        have : m ∈ Region.ready .any ops listed := by
          rw [mem_ready]
          refine ⟨(hl m hml).2 hm, _, ho, fun e he hb => ?_⟩
          have h1 := hedge m _ ho e he hb
          have h2 : e.on ∉ y :: r := fun hh => by have := hmin _ hh; omega
          have h3 : e.on < ops.size := by omega
          have h4 : ¬ listed.getD e.on true = false := fun hh => h2 ((hl _ h3).1 hh)
          have h5 : listed.getD e.on false = listed.getD e.on true := by
            simp [Array.getD_eq_getD_getElem?, Array.getElem?_eq_getElem (show e.on < listed.size by omega)]
          rw [h5]; simpa using h4
        rw [hr] at this
        cases this
    · rw [mem_ready] at hi
      obtain ⟨h0, o, ho, hrdy⟩ := hi
      have hil : i < ops.size := (Array.getElem?_eq_some_iff.1 ho).1
      have hir := (hl i hil).1 h0
      obtain ⟨A, B, rfl⟩ := List.append_of_mem hir
      have hnotrem : ∀ o', ops[i]? = some o' → ∀ e ∈ o'.after, Region.binds .any e = true → e.on ∉ A ++ i :: B := by
        intro o' ho' e he hb hmem
        rw [ho] at ho'; injection ho' with ho'; subst ho'
        have h1 := hrdy e he hb
        have h3 := hlt _ hmem
        have h4 := (hl _ h3).2 hmem
        have h5 : listed.getD e.on false = listed.getD e.on true := by
          simp [Array.getD_eq_getD_getElem?, Array.getElem?_eq_getElem (show e.on < listed.size by omega)]
        rw [h5, h4] at h1; cases h1
      have hA : ∀ x, x ∈ A → quiet x = true ∧ anc i x = false ∧ ∀ ox oi, ops[x]? = some ox → ops[i]? = some oi → ox.apart ops oi = true := by
        intro x hx
        have hna : anc i x = false := by
          cases hh : anc i x with
          | false => rfl
          | true => exact absurd (by simp [hx]) (ancl i hil hnotrem x hh)
        rcases hchk A i B rfl x hx with h1 | ⟨h1, h2⟩
        · rw [hna] at h1; cases h1
        · exact ⟨h1, hna, h2⟩
      have hf := Good.front (fun _ _ _ _ _ h => h) hsel A B [] a w hA hg
      obtain ⟨o', ho', g1, g2, g3⟩ := hf
      rw [ho] at ho'; injection ho' with ho'; subst ho'
      have hnd' := hnd
      rw [List.nodup_append] at hnd'
      obtain ⟨n1, n2, n3⟩ := hnd'
      rw [List.nodup_cons] at n2
      have hiA : i ∉ A := fun hh => n3 i hh i (by simp) rfl
      have next : ∀ a' w', Good P ops (fun _ a w => Q .normal a w) quiet anc (A ++ B) [] a' w' → wpAny P .any ops Q fuel (listed.setIfInBounds i true) a' w' := by
        intro a' w' hg'
        refine ih _ (A ++ B) a' w' (by simp [hsz]) (by simp at hlen ⊢; omega) ?_ ?_ ?_ ?_ ?_ hg'
        · rw [List.nodup_append]
          exact ⟨n1, n2.2, fun x hx y hy => n3 x hx y (by simp [hy])⟩
        · intro j hj
          by_cases hji : i = j
          · subst hji
            have : (listed.setIfInBounds i true).getD i true = true := by
              simp [Array.getD_eq_getD_getElem?, hsz, hil]
            rw [this]
            simp only [Bool.true_eq_false, false_iff, List.mem_append, not_or]
            exact ⟨hiA, n2.1⟩
          · rw [getD_set_ne true hji, hl j hj]
            simp [Ne.symm hji]
        · intro j hj; exact hlt j (by rcases List.mem_append.1 hj with h | h <;> simp [h])
        · intro j oj hoj hj e he hb hmem
          have hmem' : e.on ∈ A ++ i :: B := by rcases List.mem_append.1 hmem with h | h <;> simp [h]
          by_cases hji : j = i
          · subst hji; exact hnotrem oj hoj e he hb hmem'
          · refine hcl j oj hoj (fun hh => hj ?_) e he hb hmem'
            rcases List.mem_append.1 hh with h | h
            · simp [h]
            · rcases List.mem_cons.1 h with h | h
              · exact absurd h hji
              · simp [h]
        · intro A' j B' hsplit x hx
          -- A ++ B = A' ++ j :: B': in A ++ i :: B too x stands ahead of j
          obtain ⟨A2, B2, e2, hx2⟩ : ∃ A2 B2, A ++ i :: B = A2 ++ j :: B2 ∧ x ∈ A2 := by
            rcases List.append_eq_append_iff.1 hsplit with ⟨L, h1, h2⟩ | ⟨L, h1, h2⟩
            · -- A' = A ++ L, B = L ++ j :: B'
              exact ⟨A ++ i :: L, B', by rw [h2]; simp, by
                rw [h1] at hx
                rcases List.mem_append.1 hx with h | h <;> simp [h]⟩
            · -- A = A' ++ L, j :: B' = L ++ B
              cases L with
              | nil =>
                simp only [List.append_nil, List.nil_append] at h1 h2
                exact ⟨A ++ [i], B', by rw [← h2]; simp, by rw [h1]; simp [hx]⟩
              | cons l L =>
                rw [List.cons_append] at h2
                injection h2 with h2 h3
                subst h2
                exact ⟨A', L ++ i :: B, by rw [h1]; simp, hx⟩
          exact hchk A2 j B2 e2 x hx2
      unfold wpOp
      rw [ho]
      simp only
      cases hw : Region.wanted o (yielded ops a.tmps) with
      | true =>
        rw [if_pos rfl]
        refine .inl ?_
        cases hq : quiet i with
        | true =>
          obtain ⟨v, hr, hg'⟩ := g1 hw hq
          exact wp_of_value hr (next _ _ (hg'.pend (fun _ _ _ _ _ h => h) (fun x p hx => by simp at hx)))
        | false =>
          exact Oper.wp_mono (fun a' w' hk => next a' w' hk.2) (wp_any (Q := Q) (g2 hw hq))
      | false =>
        rw [if_neg (by simp)]
        exact next _ _ (g3 hw)
end
end Go.Den

/- Operations that read, or only reckon: what they give, in every world in which what they read is the same. Conditions: none. -/
set_option linter.unusedVariables false
set_option linter.unusedSimpArgs false
set_option linter.unusedSectionVars false
namespace Go.Den
variable {P : Program}
def Det (F : (Value → Prop) → Prop) : Prop := ∀ K, F K → ∃ v, K v ∧ F (fun v' => v' = v)
theorem Det.pt (v : Value) : Det (fun K => K v) := fun K h => ⟨v, h, rfl⟩
theorem Det.and {c : Prop} {F : (Value → Prop) → Prop} (h : Det F) : Det (fun K => c ∧ F K) := fun K hk => let ⟨v, h1, h2⟩ := h K hk.2; ⟨v, h1, hk.1, h2⟩
theorem Det.ti {tt : Tab} {t : Nat} {F : TI → (Value → Prop) → Prop} (h : ∀ ti, Det (F ti)) : Det (fun K => tiOf tt t fun ti => F ti K) := fun K hk => by
  unfold tiOf at *
  cases hf : tt.find t with
  | none => rw [hf] at hk; exact hk.elim
  | some ti => rw [hf] at hk; exact h ti K hk
theorem Det.addr {v : Option Value} {F : Addr → (Value → Prop) → Prop} (h : ∀ p, Det (F p)) : Det (fun K => addrOf v fun p => F p K) := fun K hk => by
  obtain ⟨p, rfl, hk⟩ := addrOf_some hk
  exact h p K hk
theorem Det.int {v : Option Value} {F : Int → (Value → Prop) → Prop} (h : ∀ p, Det (F p)) : Det (fun K => intOf' v fun p => F p K) := fun K hk => by
  obtain ⟨k, n, rfl, hk⟩ := intOf_some hk
  exact h n K hk
theorem Det.bound {v : Option (Option Value)} {d y : Int} {F : Int → (Value → Prop) → Prop} (h : ∀ p, Det (F p)) : Det (fun K => bound v d y fun p => F p K) := fun K hk => by
  rcases bound_run hk with ⟨rfl, hk⟩ | ⟨k, n, rfl, h0, h1, hk⟩
  · exact h d K hk
  · obtain ⟨v, h2, h3⟩ := h n K hk
    exact ⟨v, h2, h0, h1, h3⟩
theorem Det.some_ {a : Option Addr} {F : Addr → (Value → Prop) → Prop} (h : ∀ p, Det (F p)) : Det (fun K => ∃ p, a = some p ∧ F p K) := fun K ⟨p, e, hk⟩ => let ⟨v, h1, h2⟩ := h p K hk; ⟨v, h1, p, e, h2⟩
theorem det_intB (op : BinOp) (k : IntKind) (a : Int) (j : IntKind) (b : Int) : Det (intB op k a j b) := by
  intro K h
  cases hk : kEq k j <;> cases op <;> simp only [intB, hk] at h ⊢ <;> first | exact ⟨_, h, rfl⟩ | exact ⟨_, h.2, h.1, rfl⟩
theorem det_strB (op : BinOp) (a b : ByteArray) : Det (strB op a b) := by
  intro K h
  cases op <;> simp only [strB] at h ⊢ <;> first | exact ⟨_, h, rfl⟩ | exact ⟨_, h.2, h.1, rfl⟩
theorem det_eqB (op : BinOp) (b : Bool) : Det (eqB op b) := by
  intro K h
  cases op <;> simp only [eqB] at h ⊢ <;> exact ⟨_, h, rfl⟩
theorem det_binB (tag : Tag) (op : BinOp) (x y : Value) : Det (binB tag op x y) := by
  intro K h
  unfold binB at *
  split at h <;> first
    | exact det_intB _ _ _ _ _ K h
    | exact det_strB _ _ _ K h
    | (split at h <;> first | exact det_eqB _ _ K h | exact h.elim)
    | exact h.elim
theorem det_binA (tt : Tab) (t : Nat) (op : BinOp) (x y : Value) : Det (binA P tt t op x y) := by
  unfold binA
  intro K h
  split at h
  · refine (Det.ti fun ti => ?_) K h
    intro K h
    unfold aggB at *
    split at h
    · obtain ⟨v, h1, h2⟩ := det_eqB _ _ K h.2
      exact ⟨v, h1, h.1, h2⟩
    · exact h.elim
  · exact (Det.ti fun ti => det_binB ti.tag _ _ _) K h
theorem det_unB (op : UnOp) (x : Value) : Det (unB op x) := by
  intro K h
  unfold unB at *
  split at h <;> first | exact Det.pt _ K h | exact h.elim
theorem det_sliceB (tt : Tab) (t : Nat) (x : Value) (lo hi mx : Option (Option Value)) : Det (sliceB tt t x lo hi mx) := by
  unfold sliceB
  refine Det.ti fun ti => ?_
  intro K h
  split at h
  · cases mx with
    | none => exact (Det.bound fun h => Det.bound fun l => Det.pt _) K h
    | some m => exact h.elim
  · cases mx with
    | none => exact (Det.ti fun te => Det.bound fun h => Det.bound fun l => Det.pt _) K h
    | some m => exact (Det.ti fun te => Det.and (Det.bound fun m => Det.bound fun h => Det.bound fun l => Det.pt _)) K h
  · exact h.elim
theorem det_cutArr (tt : Tab) (n e : Nat) (p : Addr) (lo hi mx : Option (Option Value)) : Det (cutArr tt n e p lo hi mx) := by
  unfold cutArr
  refine Det.ti fun te => ?_
  intro K h
  cases mx with
  | none => exact (Det.bound fun h => Det.bound fun l => Det.pt _) K h
  | some m => exact h.elim
theorem det_pure (tt : Tab) (o : Oper) (e : Env) (hp : pureOp o.op = true) : ∀ (w : World) (K : Value → World → Prop), denOp P tt o e w K → ∃ v, K v w ∧ ∀ u, denOp P tt o e u (fun v' _ => v' = v) := by
  intro w K h
  unfold denOp at *
  split at h
  · split at h
    · rename_i v hv; exact ⟨v, h, fun u => by simp only [hv]⟩
    · exact h.elim
  · split at h
    · rename_i v hv; exact ⟨v, h, fun u => by simp only [hv]⟩
    · exact h.elim
  · split at h
    · rename_i b hc
      split at h
      · split at h
        · rename_i v hv; exact ⟨v, h, fun u => by simp only [hc, hv]⟩
        · exact h.elim
      · split at h
        · rename_i v hv; exact ⟨v, h, fun u => by simp only [hc, hv]⟩
        · exact h.elim
    · exact h.elim
  · rename_i ho; rw [ho] at hp; cases hp
  · rename_i ho; rw [ho] at hp; cases hp
  · -- build
    rename_i t ps ho
    have d : Det (fun K => tiOf tt t fun ti => match e.evp ps.toList with
      | none => False
      | some vs => match ti.tag with
        | .struct fs => match allIn tt fs, layAll (placeOf tt fs) ti.zero vs with | true, some cs => K (.agg ⟨cs⟩) | _, _ => False
        | .array n el => tiOf tt el fun te => match layAll (fun i => some (i * te.sh.length, te.sh.length)) ti.zero vs with | some cs => K (.agg ⟨cs⟩) | none => False
        | _ => False) := by
      refine Det.ti fun ti => ?_
      intro K h
      split at h
      · exact h.elim
      · split at h
        · split at h
          · exact Det.pt _ K h
          · exact h.elim
        · rename_i n el htag
          refine (Det.ti (F := fun te K => match layAll (fun i => some (i * te.sh.length, te.sh.length)) ti.zero _ with | some cs => K (.agg ⟨cs⟩) | none => False) fun te => ?_) K h
          intro K h
          split at h
          · exact Det.pt _ K h
          · exact h.elim
        · exact h.elim
    obtain ⟨v, h1, h2⟩ := d (fun v => K v w) h
    exact ⟨v, h1, fun u => h2⟩
  · rename_i ho; rw [ho] at hp; cases hp
  · rename_i ho; rw [ho] at hp; cases hp
  · rename_i ho; rw [ho] at hp; cases hp
  · split at h
    · rename_i q hx
      obtain ⟨p, rfl, hk⟩ := h
      exact ⟨_, hk, fun u => by simp only [hx]; exact ⟨p, rfl, rfl⟩⟩
    · rename_i f y c hx
      exact ⟨_, h, fun u => by simp only [hx]⟩
    · exact h.elim
  · split at h
    · rename_i a b hx hy
      obtain ⟨v, h1, h2⟩ := (det_binA tt _ _ a b) (fun v => K v w) h
      exact ⟨v, h1, fun u => by simp only [hx, hy]; exact h2⟩
    · exact h.elim
  · split at h
    · rename_i a hx
      obtain ⟨v, h1, h2⟩ := det_unB _ a (fun v => K v w) h
      exact ⟨v, h1, fun u => by simp only [hx]; exact h2⟩
    · exact h.elim
  · rename_i ho; rw [ho] at hp; cases hp
  · split at h
    · rename_i vs us h1 h2
      exact ⟨_, h, fun u => by simp only [h1, h2]⟩
    · exact h.elim
  · rename_i ho; rw [ho] at hp; cases hp
  · rename_i ho; rw [ho] at hp; cases hp
  · rename_i ho; rw [ho] at hp; cases hp
  · rename_i ho; rw [ho] at hp; cases hp
  · -- slice
    rename_i t x lo hi mx ho
    split at h
    · rename_i q hx
      have d : Det (fun K => ∃ p, q = some p ∧ tiOf tt t fun ti => match ti.tag with | .array n el => cutArr tt n el p (lo.map e.ev) (hi.map e.ev) (mx.map e.ev) K | _ => False) := Det.some_ fun p => Det.ti fun ti => by
        intro K h
        split at h
        · exact det_cutArr _ _ _ _ _ _ _ K h
        · exact h.elim
      obtain ⟨v, h1, h2⟩ := d (fun v => K v w) h
      exact ⟨v, h1, fun u => h2⟩
    · rename_i y hx hn
      obtain ⟨v, h1, h2⟩ := det_sliceB tt t y (lo.map e.ev) (hi.map e.ev) (mx.map e.ev) (fun v => K v w) h
      exact ⟨v, h1, fun u => h2⟩
    · exact h.elim
  · -- fieldAddr
    rename_i s x f ho
    have d : Det (fun K => tiOf tt s fun ti => addrOf (e.ev x) fun p => match ti.tag with
      | .struct fs => match offOf fs f with
        | some (t, off) => match tt.find t with
          | some tf => (match tf.sh with | [] => False | _ :: _ => K (.pointer (some (p.add off))))
          | none => False
        | none => False
      | _ => False) := Det.ti fun ti => Det.addr fun p => by
        intro K h
        split at h
        · split at h
          · split at h
            · split at h
              · exact h.elim
              · exact Det.pt _ K h
            · exact h.elim
          · exact h.elim
        · exact h.elim
    obtain ⟨v, h1, h2⟩ := d (fun v => K v w) h
    exact ⟨v, h1, fun u => h2⟩
  · -- field
    rename_i t x f ho
    have d : Det (fun K => tiOf tt t fun ti => match ti.tag, e.ev x with
      | .struct fs, some (.agg cs) => match offOf fs f with
        | some (t, off) => match tt.find t with
          | some tf => match tf.tag.isAgg, tf.sh with
            | true, l => K (.agg ⟨(cs.toList.drop off).take l.length⟩)
            | false, _ => match cs.toList.drop off with | v :: _ => K v | [] => False
          | none => False
        | none => False
      | _, _ => False) := Det.ti fun ti => by
        intro K h
        split at h
        · split at h
          · split at h
            · split at h
              · exact Det.pt _ K h
              · split at h
                · exact Det.pt _ K h
                · exact h.elim
            · exact h.elim
          · exact h.elim
        · exact h.elim
    obtain ⟨v, h1, h2⟩ := d (fun v => K v w) h
    exact ⟨v, h1, fun u => h2⟩
  · -- indexAddr
    rename_i t x ix ho
    have d : Det (fun K => tiOf tt t fun ti => intOf' (e.ev ix) fun i => match ti.tag, e.ev x with
      | .slice el, some (.slice a n _) => tiOf tt el fun te => 0 ≤ i ∧ i < n ∧ ∃ p, a = some p ∧ K (.pointer (some (p.add (i.toNat * te.sh.length))))
      | .array n el, some (.pointer (some p)) => tiOf tt el fun te => 0 ≤ i ∧ i < n ∧ K (.pointer (some (p.add (i.toNat * te.sh.length))))
      | _, _ => False) := Det.ti fun ti => Det.int fun i => by
        intro K h
        split at h
        · exact (Det.ti fun te => Det.and (Det.and (Det.some_ fun p => Det.pt _))) K h
        · exact (Det.ti fun te => Det.and (Det.and (Det.pt _))) K h
        · exact h.elim
    obtain ⟨v, h1, h2⟩ := d (fun v => K v w) h
    exact ⟨v, h1, fun u => h2⟩
  · -- index
    rename_i t x ix ho
    have d : Det (fun K => tiOf tt t fun ti => intOf' (e.ev ix) fun i => match ti.tag, e.ev x with
      | .str, some (.string s) => 0 ≤ i ∧ i < s.size ∧ K (.int .u8 (btI s i))
      | _, _ => False) := Det.ti fun ti => Det.int fun i => by
        intro K h
        split at h
        · exact (Det.and (Det.and (Det.pt _))) K h
        · exact h.elim
    obtain ⟨v, h1, h2⟩ := d (fun v => K v w) h
    exact ⟨v, h1, fun u => h2⟩
  · -- extract
    split at h
    · rename_i vs hx
      split at h
      · rename_i v r hd
        exact ⟨v, h, fun u => by simp only [hx, hd]⟩
      · exact h.elim
    · exact h.elim
  · -- built-in functions
    rename_i b args ts ho
    rw [ho] at hp
    split at h
    · cases hp
    · cases hp
    · cases hp
    · cases hp
    · rename_i h1; exact ⟨_, h, fun u => by simp only [h1]⟩
    · rename_i h1; exact ⟨_, h, fun u => by simp only [h1]⟩
    · cases hp
    · cases hp
    · cases hp
    · cases hp
    · exact h.elim
  · rename_i ho; rw [ho] at hp; cases hp
  · rename_i ho; rw [ho] at hp; cases hp
  · rename_i ho; rw [ho] at hp; cases hp
  · rename_i ho; rw [ho] at hp; cases hp
  · rename_i ho; rw [ho] at hp; cases hp
  · exact h.elim
theorem det_ldCells (w : World) (p : Addr) : ∀ (l : List Sh) (i : Nat) (K : List Value → Prop), ldCells w p i l K → ∃ vs, K vs ∧ ldCells w p i l (fun vs' => vs' = vs)
  | [], i, K, h => ⟨[], h, rfl⟩
  | s :: r, i, K, ⟨x, hx, h⟩ => by
    obtain ⟨vs, h1, h2⟩ := det_ldCells w p r (i + 1) _ h
    refine ⟨s.mk x :: vs, h1, x, hx, ?_⟩
    have : ∀ (l : List Sh) (i : Nat) (K K' : List Value → Prop), (∀ v, K v → K' v) → ldCells w p i l K → ldCells w p i l K' := by
      intro l
      induction l with
      | nil => intro i K K' hk h; exact hk _ h
      | cons s r ih => intro i K K' hk h; obtain ⟨y, hy, h⟩ := h; exact ⟨y, hy, ih _ _ _ (fun v hv => hk _ hv) h⟩
    exact this r (i + 1) _ _ (fun v hv => by rw [hv]) h2
theorem det_ld (ti : TI) (w : World) (p : Addr) : Det (ld ti w p) := by
  intro K h
  unfold ld at *
  split at h
  · obtain ⟨x, hx, hk⟩ := h; exact ⟨_, hk, x, hx, rfl⟩
  · obtain ⟨vs, h1, h2⟩ := det_ldCells w p _ 0 _ h
    refine ⟨_, h1, ?_⟩
    have : ∀ (l : List Sh) (i : Nat) (K K' : List Value → Prop), (∀ v, K v → K' v) → ldCells w p i l K → ldCells w p i l K' := by
      intro l
      induction l with
      | nil => intro i K K' hk h; exact hk _ h
      | cons s r ih => intro i K K' hk h; obtain ⟨y, hy, h⟩ := h; exact ⟨y, hy, ih _ _ _ (fun v hv => hk _ hv) h⟩
    exact this _ 0 _ _ (fun v hv => by rw [hv]) h2
  · exact h.elim
theorem det_lenB (tt : Tab) (t : Nat) (v : Value) (w : World) : Det (lenB tt t v w) := by
  unfold lenB
  refine Det.ti fun ti => ?_
  intro K h
  split at h
  · exact Det.pt _ K h
  · exact Det.pt _ K h
  · exact Det.pt _ K h
  · refine (Det.ti (F := fun te K => match te.tag with | .array n _ => K (.int .i64 n) | _ => False) fun te => ?_) K h
    intro K h
    split at h
    · exact Det.pt _ K h
    · exact h.elim
  · exact Det.pt _ K h
  · obtain ⟨es, clock, hg, h⟩ := h; exact ⟨_, h, es, clock, hg, rfl⟩
  · exact h.elim
def convQ (tt : Tab) (s d : Nat) (x : Value) (w : World) (K : Value → Prop) : Prop :=
  tiOf tt s fun ts => tiOf tt d fun td => match ts.tag, td.tag, x with
    | .int _, .int k, .int _ n => K (.int k (k.wrap n))
    | .str, .str, .string s => K (.string s)
    | .slice e, .str, .slice a n c => tiOf tt e fun te => match te.tag with
      | .int .u8 => ∃ xs : List Int, RowAt w a n (xs.map (Value.int .u8)) ∧ K (.string (strOfNums xs))
      | _ => False
    | _, _, _ => False
theorem det_convQ (tt : Tab) (s d : Nat) (x : Value) (w : World) : Det (convQ tt s d x w) := by
  unfold convQ
  refine Det.ti fun ts => Det.ti fun td => ?_
  intro K h
  split at h
  · exact Det.pt _ K h
  · exact Det.pt _ K h
  · rename_i e a n c _ _
    refine (Det.ti (F := fun te K => match te.tag with
      | .int .u8 => ∃ xs : List Int, RowAt w a n (xs.map (Value.int .u8)) ∧ K (.string (strOfNums xs))
      | _ => False) fun te => ?_) K h
    intro K h
    split at h
    · obtain ⟨xs, h1, h2⟩ := h; exact ⟨_, h2, xs, h1, rfl⟩
    · exact h.elim
  · exact h.elim
theorem conv_same {tt : Tab} {s d : Nat} {x : Value} {w : World} {K : Value → World → Prop} (hsd : Nat.beq s d = false) : convB tt s d x w K ↔ convQ tt s d x w (fun v => K v w) := by
  unfold convB convQ tiOf
  cases tt.find s with
  | none => exact Iff.rfl
  | some ts => cases tt.find d with
    | none => exact Iff.rfl
    | some td =>
      simp only [hsd]
      cases ts.tag <;> cases td.tag <;> cases x <;> exact Iff.rfl
theorem det_convB (tt : Tab) (s d : Nat) (x : Value) (w : World) (K : Value → World → Prop) (hsd : Nat.beq s d = false) (h : convB tt s d x w K) : ∃ v, K v w ∧ convB tt s d x w (fun v' _ => v' = v) := by
  obtain ⟨v, h1, h2⟩ := det_convQ tt s d x w _ ((conv_same hsd).1 h)
  exact ⟨v, h1, (conv_same hsd).2 h2⟩
theorem det_quiet (tt : Tab) (o : Oper) (e : Env) (hq : quietOp o.op = true) (w : World) (K : Value → World → Prop) (h : denOp P tt o e w K) : ∃ v, K v w ∧ denOp P tt o e w (fun v' _ => v' = v) := by
  by_cases hp : pureOp o.op = true
  · obtain ⟨v, h1, h2⟩ := det_pure tt o e hp w K h; exact ⟨v, h1, h2 w⟩
  · unfold denOp at *
    split at h
    all_goals first
      | (rename_i ho; rw [ho] at hp; exact absurd rfl hp)
      | (rename_i ho; rw [ho] at hq; cases hq; done)
      | skip
    · rename_i t a ho
      obtain ⟨v, h1, h2⟩ := (Det.ti fun ti => Det.addr fun p => det_ld ti w p) (fun v => K v w) h
      exact ⟨v, h1, h2⟩
    · rename_i s d x ho
      split at h
      · rename_i v hv
        have hsd : Nat.beq s d = false := quiet_conv (x := x) (by rw [ho] at hq; exact hq)
        obtain ⟨v, h1, h2⟩ := det_convB tt s d v w K hsd h
        exact ⟨v, h1, h2⟩
      · exact h.elim
    · rename_i b args ts ho
      rw [ho] at hp hq
      split at h
      · rename_i t r v vs h1 h2
        obtain ⟨u, h3, h4⟩ := det_lenB tt t v w (fun v => K v w) h
        exact ⟨u, h3, by simp only [h1, h2]; exact h4⟩
      · cases hq
      · cases hq
      · cases hq
      · exact absurd rfl hp
      · exact absurd rfl hp
      · cases hq
      · cases hq
      · cases hq
      · cases hq
      · exact h.elim
    · exact h.elim
/-- What a quiet operation gives, in the model. -/
theorem op_quiet {tt : Tab} (htt : TabOk P tt) {o : Oper} {e : Env} {w : World} {K : Value → World → Prop} {a : Act} (ha : Agree e a) (hq : quietOp o.op = true) (h : denOp P tt o e w K) : ∃ v, K v w ∧ (execOp a.eval o).run P w = .ok (.value v) w := by
  by_cases hc : ∃ c, o.op = .call c
  · obtain ⟨c, ho⟩ := hc
    unfold denOp at h
    rw [ho] at h hq
    obtain ⟨callee, args, ts⟩ := c
    cases callee with
    | invoke r m => simp only at h
    | value f => cases hq
    | builtin b =>
      simp only at h
      have hrun := fun {vs : List Value} (hvs : e.evs args.toList = some vs) => run_builtin (P := P) htt ha (next := fun _ _ => True) (K := fun _ _ => True) (fun _ _ _ => trivial) ho hvs w
      split at h
      · rename_i t r v vs hts hvs
        have hrun := hrun hvs
        obtain ⟨u, hk, hr⟩ := lenB_run htt h ts (by rw [← Array.getElem?_toList, hts]; rfl) (⟨v :: vs⟩ : Array Value) (by simp) (ty := o.type)
        exact ⟨u, hk, by rw [hrun]; simp only [builtin]; exact run_vv hr⟩
      · cases hq
      · cases hq
      · cases hq
      · rename_i x k i j y hvs
        have hrun := hrun hvs
        exact ⟨_, h, by rw [hrun]; simp [builtin, Builtin.min_, Builtin.min2, minI]⟩
      · rename_i x k i j y hvs
        have hrun := hrun hvs
        exact ⟨_, h, by rw [hrun]; simp [builtin, Builtin.max_, Builtin.max2, maxI]⟩
      · cases hq
      · cases hq
      · cases hq
      · cases hq
      · exact h.elim
  · obtain ⟨v, w', hk, hr, hw⟩ := op_run htt ha h (by
      cases ho : o.op <;> first | trivial | (rw [ho] at hq; cases hq; done) | exact absurd ⟨_, ho⟩ hc)
    have := hw hq
    subst this
    exact ⟨v, hk, hr⟩
end Go.Den

/- A region of the plainer reading is the model's region, where no order is drawn. Conditions: the table of types is the program's (TabOk); the slots lie in the frame. -/
set_option linter.unusedVariables false
set_option linter.unusedSimpArgs false
namespace Go.Den
variable {P : Program}
structure St (n : Nat) (e : Env) (a : Act) : Prop where
  size : a.tmps.size = n
  defers : a.defers = []
  agree : Agree e a
def Same (m : Nat) (a a' : Act) : Prop := ∀ i, Nat.testBit m i = false → a'.tmps.getD i undef = a.tmps.getD i undef
theorem Same.refl (m : Nat) (a : Act) : Same m a a := fun _ _ => rfl
theorem Same.trans {m m' : Nat} {a b c : Act} (h : Same m a b) (h' : Same m' b c) : Same (m ||| m') a c := fun i hi => by
  rw [Nat.testBit_or, Bool.or_eq_false_iff] at hi
  rw [h' i hi.2, h i hi.1]
theorem Same.mono {m m' : Nat} {a b : Act} (h : Same m a b) (hm : ∀ i, Nat.testBit m' i = false → Nat.testBit m i = false) : Same m' a b := fun i hi => h i (hm i hi)
theorem Same.left {m m' : Nat} {a b : Act} (h : Same m a b) : Same (m ||| m') a b := h.mono fun i hi => by
  rw [Nat.testBit_or, Bool.or_eq_false_iff] at hi; exact hi.1
theorem Same.right {m m' : Nat} {a b : Act} (h : Same m a b) : Same (m' ||| m) a b := h.mono fun i hi => by
  rw [Nat.testBit_or, Bool.or_eq_false_iff] at hi; exact hi.2
def dstMask (d : Option Nat) : Nat := match d with | none => 0 | some d => 1 <<< d
theorem find_cons (j : Nat) (x : Value) (r : Env) (i : Nat) : Env.find ((j, x) :: r) i = if i = j then some x else Env.find r i := by
  simp only [Env.find]
  split
  · rename_i h; rw [if_pos (Nat.eq_of_beq_eq_true h)]
  · rename_i h; rw [if_neg (Nat.ne_of_beq_eq_false h)]
theorem shift_bit (d i : Nat) : Nat.testBit (1 <<< d) i = decide (i = d) := by
  rw [Nat.one_shiftLeft, Nat.testBit_two_pow]
  by_cases h : d = i <;> simp [h, eq_comm]
theorem getD_put (a : Act) (d : Nat) (v : Value) (i : Nat) (hd : d < a.tmps.size) : (a.put (some d) v).tmps.getD i undef = if i = d then v else a.tmps.getD i undef := by
  simp only [Act.put, Array.getD_eq_getD_getElem?, Array.getElem?_setIfInBounds]
  by_cases h : i = d
  · subst h; simp [hd]
  · rw [if_neg h, if_neg (fun hh => h hh.symm)]
theorem St.put {n : Nat} {e : Env} {a : Act} (h : St n e a) {dst : Option Nat} (hd : ∀ d, dst = some d → d < n) (v : Value) : St n (putE e dst v) (a.put dst v) := by
  cases dst with
  | none => exact h
  | some d =>
    have hlt := hd d rfl
    refine ⟨by simp [Act.put, h.size], h.defers, fun i u hu => ?_⟩
    rw [getD_put a d v i (by rw [h.size]; exact hlt)]
    simp only [putE, find_cons] at hu
    by_cases hi : i = d
    · rw [if_pos hi] at hu ⊢; injection hu
    · rw [if_neg hi] at hu ⊢; exact h.agree i u hu
theorem Same.put {n : Nat} {a : Act} (hs : a.tmps.size = n) {dst : Option Nat} (hd : ∀ d, dst = some d → d < n) (v : Value) : Same (dstMask dst) a (a.put dst v) := by
  intro i hi
  cases dst with
  | none => rfl
  | some d =>
    rw [getD_put a d v i (by rw [hs]; exact hd d rfl)]
    simp only [dstMask, shift_bit, decide_eq_false_iff_not] at hi
    rw [if_neg hi]
theorem opMods_cons (o : Oper) (r : List Oper) : opMods (o :: r) = dstMask o.dst ||| opMods r := by
  unfold opMods dstMask
  cases o.dst with
  | none => simp only [Nat.zero_or]; cases r <;> rfl
  | some d => simp only []; cases r <;> rfl
theorem lt_of_mods {n : Nat} {o : Oper} {r : List Oper} (h : opMods (o :: r) < 2 ^ n) : (∀ d, o.dst = some d → d < n) ∧ opMods r < 2 ^ n := by
  rw [opMods_cons] at h
  constructor
  · intro d hd
    rcases Nat.lt_or_ge d n with h1 | h1
    · exact h1
    · have hb : Nat.testBit (dstMask o.dst ||| opMods r) d = true := by
        rw [Nat.testBit_or, hd]; simp [dstMask, shift_bit]
      have := Nat.ge_two_pow_of_testBit hb
      have hp : 2 ^ n ≤ 2 ^ d := Nat.pow_le_pow_right (by omega) h1
      omega
  · exact Nat.lt_of_le_of_lt Nat.right_le_or h
theorem slotAt_eq (all : List Oper) (j : Nat) : slotAt all j = (all[j]?).bind (·.dst) := by
  unfold slotAt
  rw [← List.head?_drop]
  cases all.drop j <;> rfl
theorem yielded_of {n : Nat} {e : Env} {a : Act} (h : St n e a) {all : List Oper} {j s : Nat} (hs : slotAt all j = some s) {v : Value} (hv : e.find s = some v) :
    yielded all.toArray a.tmps j = (match v with | .bool b => some b | _ => none) := by
  unfold yielded
  have hj : (all.toArray[j]?).bind (·.dst) = some s := by rw [slotAt_eq] at hs; simpa using hs
  rw [hj]
  simp only [Option.bind_some]
  have hg := h.agree s v hv
  rcases Nat.lt_or_ge s a.tmps.size with h1 | h1
  · have : a.tmps[s]? = some v := by
      rw [← hg]; simp [Array.getD_eq_getD_getElem?, Array.getElem?_eq_getElem h1]
    rw [this]
    cases v <;> rfl
  · have : v = undef := by rw [← hg]; simp [Array.getD_eq_getD_getElem?, Array.getElem?_eq_none h1]
    subst this
    rw [Array.getElem?_eq_none h1]
    rfl
theorem BIf_cases {x : Bool} {A B : Prop} (h : BIf x A B) : (x = true ∧ A) ∨ (x = false ∧ B) := by
  cases x
  · exact .inr ⟨rfl, h⟩
  · exact .inl ⟨rfl, h⟩
theorem St.again {n : Nat} {e : Env} {a : Act} (h : St n e a) {s : Nat} {v : Value} (hv : e.find s = some v) : St n ((s, v) :: e) a :=
  ⟨h.size, h.defers, fun i u hu => by
    rw [find_cons] at hu
    by_cases hi : i = s
    · rw [if_pos hi] at hu; injection hu with hu; subst hu; subst hi; exact h.agree _ _ hv
    · rw [if_neg hi] at hu; exact h.agree i u hu⟩
theorem wpList_run {all : List Oper} {Q : Exit → Act → World → Prop} {o : Oper} {r : List Oper} {a : Act} {w : World} (hw : Region.wanted o (yielded all.toArray a.tmps) = true) (h : o.wp P a w (wpList P all.toArray Q r) Q) : wpList P all.toArray Q (o :: r) a w := by
  unfold wpList
  rw [if_pos hw]
  exact .inl h
theorem wpList_pass {all : List Oper} {Q : Exit → Act → World → Prop} {o : Oper} {r : List Oper} {a : Act} {w : World} (hw : Region.wanted o (yielded all.toArray a.tmps) = false) (h : wpList P all.toArray Q r (a.put o.dst undef) w) : wpList P all.toArray Q (o :: r) a w := by
  unfold wpList
  rw [if_neg (by simp [hw])]
  exact h
theorem denOps_sound {tt : Tab} (htt : TabOk P tt) {n : Nat} {all : List Oper} {Q : Exit → Act → World → Prop} : ∀ (r : List Oper) (e : Env) (a : Act) (w : World) (K : Env → World → Prop) (rest : List Oper),
    opMods r < 2 ^ n → St n e a → denOps P tt all r e w K → (∀ e' a' w', K e' w' → St n e' a' → Same (opMods r) a a' → wpList P all.toArray Q rest a' w') → wpList P all.toArray Q (r ++ rest) a w
  | [], e, a, w, K, rest, hm, hst, h, hQ => hQ e a w h hst (Same.refl _ _)
  | o :: r, e, a, w, K, rest, hm, hst, h, hQ => by
    have ⟨hd, hm'⟩ := lt_of_mods hm
    have step : ∀ (e1 : Env), St n e1 a → ∀ v w', denOps P tt all r (putE e1 o.dst v) w' K → wpList P all.toArray Q (r ++ rest) (a.put o.dst v) w' := by
      intro e1 hs1 v w' hk
      refine denOps_sound htt r _ _ _ K rest hm' (hs1.put hd v) hk (fun e' a' w'' hk' hs' hsame => hQ e' a' w'' hk' hs' ?_)
      rw [opMods_cons]
      exact (Same.put hst.size hd v).trans hsame
    unfold denOps at h
    split at h
    · rename_i hg
      refine wpList_run (by simp [Region.wanted, hg]) (denOp_sound htt hst.agree (fun v w' hk => step e hst v w' hk) h)
    · rename_i j want hg
      split at h
      · exact h.elim
      · rename_i s hs
        split at h
        · rename_i x hx
          have hy := yielded_of hst hs hx
          simp only at hy
          rcases BIf_cases h with ⟨rfl, h⟩ | ⟨rfl, h⟩
          · have hs2 := hst.again hx
            split at h
            · exact wpList_run (by simp [Region.wanted, hg, hy]) (denOp_sound htt hs2.agree (fun v w' hk => step _ hs2 v w' hk) h)
            · exact wpList_pass (by simp [Region.wanted, hg, hy]) (step _ hs2 _ _ h)
          · have hs2 := hst.again hx
            split at h
            · exact wpList_pass (by simp [Region.wanted, hg, hy]) (step _ hs2 _ _ h)
            · exact wpList_run (by simp [Region.wanted, hg, hy]) (denOp_sound htt hs2.agree (fun v w' hk => step _ hs2 v w' hk) h)
        · rename_i vs hx
          have hy := yielded_of hst hs hx
          simp only at hy
          exact wpList_pass (by simp [Region.wanted, hg, hy]) (step e hst _ _ h)
        · exact h.elim
end Go.Den

/- A region whose order is drawn: one order, checked, is enough. Conditions: the table of types is the program's (TabOk); the program follows the departure of mixed orders. -/
set_option linter.unusedVariables false
set_option linter.unusedSimpArgs false
namespace Go.Den
variable {P : Program}
def quietF (all : List Oper) (i : Nat) : Bool := match all.drop i with | o :: _ => quietOp o.op | [] => false
def ancF (al : List Nat) (i x : Nat) : Bool := Nat.testBit (nth al i) x
def PendR (pg pend : List (Nat × (World → Prop))) : Prop := ∀ x q, (x, q) ∈ pg → (∀ u, q u) ∨ ∃ p, (x, p) ∈ pend ∧ ∀ u, p u → q u
theorem obl_out {m : Nat} : ∀ {pend : List (Nat × (World → Prop))} {w : World} {R : Prop}, obl m pend w R → (∀ x p, (x, p) ∈ pend → Nat.testBit m x = false → p w) ∧ R
  | [], w, R, h => ⟨fun x p hx => by simp at hx, h⟩
  | (y, q) :: r, w, R, h => by
    unfold obl at h
    split at h
    · rename_i hb
      obtain ⟨h1, h2⟩ := obl_out h
      refine ⟨fun x p hx hm => ?_, h2⟩
      rcases List.mem_cons.1 hx with hx | hx
      · injection hx with e1 e2; subst e1; rw [hb] at hm; cases hm
      · exact h1 x p hx hm
    · obtain ⟨h0, h⟩ := h
      obtain ⟨h1, h2⟩ := obl_out h
      refine ⟨fun x p hx hm => ?_, h2⟩
      rcases List.mem_cons.1 hx with hx | hx
      · injection hx with e1 e2; subst e2; exact h0
      · exact h1 x p hx hm
theorem drop_get {α : Type} {l : List α} {i : Nat} {x : α} {r : List α} (h : l.drop i = x :: r) : l[i]? = some x := by
  have : (l.drop i)[0]? = some x := by rw [h]; rfl
  simpa using this
theorem dst_in {all : List Oper} {i : Nat} {o : Oper} (h : all[i]? = some o) : ∀ j, Nat.testBit (opMods all) j = false → Nat.testBit (dstMask o.dst) j = false := by
  induction all generalizing i with
  | nil => simp at h
  | cons x r ih =>
    intro j hj
    rw [opMods_cons, Nat.testBit_or, Bool.or_eq_false_iff] at hj
    cases i with
    | zero => simp at h; subst h; exact hj.1
    | succ i => exact ih (by simpa using h) j hj.2
theorem dst_lt {all : List Oper} {n i : Nat} {o : Oper} (hm : opMods all < 2 ^ n) (h : all[i]? = some o) : ∀ d, o.dst = some d → d < n := by
  intro d hd
  rcases Nat.lt_or_ge d n with h1 | h1
  · exact h1
  · have hb : Nat.testBit (opMods all) d = true := by
      cases hh : Nat.testBit (opMods all) d with
      | true => rfl
      | false => have := dst_in h d hh; rw [hd] at this; simp [dstMask, shift_bit] at this
    have := Nat.ge_two_pow_of_testBit hb
    have hp : 2 ^ n ≤ 2 ^ d := Nat.pow_le_pow_right (by omega) h1
    omega
theorem denDraw_sound {tt : Tab} (htt : TabOk P tt) {n : Nat} {all : List Oper} {al : List Nat} {R : List (Nat × (World → Prop)) → Act → World → Prop} (hm : opMods all < 2 ^ n) : ∀ (ord : List Nat) (e : Env) (a : Act) (w : World) (K : List (Nat × (World → Prop)) → Env → World → Prop) (pend pg : List (Nat × (World → Prop))),
    St n e a → PendR pg pend → denDraw P tt all al ord e w pend K → (∀ e' a' w' pend' pg', PendR pg' pend' → K pend' e' w' → St n e' a' → Same (opMods all) a a' → R pg' a' w') →
    Good P all.toArray R (quietF all) (ancF al) ord pg a w
  | [], e, a, w, K, pend, pg, hst, hpr, h, hQ => hQ e a w pend pg hpr h hst (Same.refl _ _)
  | i :: r, e, a, w, K, pend, pg, hst, hpr, h, hQ => by
    unfold denDraw at h
    split at h
    · exact h.elim
    · rename_i o rest hdrop
      have ho := drop_get hdrop
      have ho' : all.toArray[i]? = some o := by simpa using ho
      have hqf : quietF all i = quietOp o.op := by simp only [quietF, hdrop]
      have hd := dst_lt hm ho
      -- going on
      have go : ∀ (e1 : Env), St n e1 a → ∀ v w' pend' pg', PendR pg' pend' → denDraw P tt all al r (putE e1 o.dst v) w' pend' K → Good P all.toArray R (quietF all) (ancF al) r pg' (a.put o.dst v) w' := by
        intro e1 hs1 v w' pend' pg' hpr' hk
        refine denDraw_sound htt hm r _ _ _ K pend' pg' (hs1.put hd v) hpr' hk (fun e' a' w'' pe pg2 hpr2 hk' hs' hsame => hQ e' a' w'' pe pg2 hpr2 hk' hs' ?_)
        exact ((Same.put hst.size hd v).trans hsame).mono fun j hj => by
          rw [Nat.testBit_or, Bool.or_eq_false_iff]
          exact ⟨dst_in ho j hj, hj⟩
      -- an operation that is quiet
      have quietly : ∀ (e1 : Env), St n e1 a → quietOp o.op = true → denOp P tt o e1 w (fun v _ => denDraw P tt all al r (putE e1 o.dst v) w (match pureOp o.op with | true => pend | false => (i, fun u => denOp P tt o e1 u (fun v' _ => v' = v)) :: pend) K) →
          ∃ v, (execOp a.eval o).run P w = .ok (.value v) w ∧ Good P all.toArray R (quietF all) (ancF al) r ((i, fun u => (execOp a.eval o).run P u = .ok (.value v) u) :: pg) (a.put o.dst v) w := by
        intro e1 hs1 hq hden
        obtain ⟨v, hk, hden'⟩ := det_quiet tt o e1 hq w _ hden
        obtain ⟨v', hv', hr⟩ := op_quiet htt hs1.agree hq hden'
        subst hv'
        refine ⟨v', hr, go e1 hs1 v' w _ _ ?_ hk⟩
        intro x q hx
        rcases List.mem_cons.1 hx with hx | hx
        · injection hx with e1' e2'
          subst e1'; subst e2'
          split
          · rename_i hp
            refine .inl fun u => ?_
            obtain ⟨v2, hv2, hall⟩ := det_pure tt o e1 hp w _ hden'
            subst hv2
            obtain ⟨v3, hv3, hr3⟩ := op_quiet htt hs1.agree hq (hall u)
            subst hv3
            exact hr3
          · refine .inr ⟨_, List.mem_cons_self, fun u hu => ?_⟩
            obtain ⟨v3, hv3, hr3⟩ := op_quiet htt hs1.agree hq hu
            subst hv3
            exact hr3
        · rcases hpr x q hx with h1 | ⟨p, hp, hi⟩
          · exact .inl h1
          · refine .inr ⟨p, ?_, hi⟩
            split
            · exact hp
            · exact List.mem_cons_of_mem _ hp
      -- an operation that does something
      have loudly : ∀ (e1 : Env), St n e1 a → denOp P tt o e1 w (fun v w' => obl (nth al i) pend w' (denDraw P tt all al r (putE e1 o.dst v) w' pend K)) →
          o.wp P a w (fun a' w' => (∀ x p, (x, p) ∈ pg → ancF al i x = false → p w') ∧ Good P all.toArray R (quietF all) (ancF al) r pg a' w') (fun _ _ _ => False) := by
        intro e1 hs1 hden
        refine denOp_sound htt hs1.agree (fun v w' hk => ?_) hden
        obtain ⟨h1, h2⟩ := obl_out hk
        refine ⟨fun x q hx hax => ?_, go e1 hs1 v w' pend pg hpr h2⟩
        rcases hpr x q hx with h3 | ⟨p, hp, hi⟩
        · exact h3 w'
        · exact hi _ (h1 x p hp hax)
      split at h
      · rename_i hg
        have hw : Region.wanted o (yielded all.toArray a.tmps) = true := by simp [Region.wanted, hg]
        split at h
        · rename_i hq
          exact ⟨o, ho', fun _ _ => quietly e hst hq h, fun _ hq' => (by rw [hqf, hq] at hq'; cases hq'), fun hw' => (by rw [hw] at hw'; cases hw')⟩
        · rename_i hq
          exact ⟨o, ho', fun _ hq' => (by rw [hqf, hq] at hq'; cases hq'), fun _ _ => loudly e hst h, fun hw' => (by rw [hw] at hw'; cases hw')⟩
      · rename_i j want hg
        split at h
        · exact h.elim
        · rename_i s hs
          split at h
          · rename_i x hx
            have hy := yielded_of hst hs hx
            simp only at hy
            have hs2 := hst.again hx
            split at h
            · rename_i hq
              rcases BIf_cases h with ⟨rfl, h⟩ | ⟨rfl, h⟩
              · split at h
                · have hw : Region.wanted o (yielded all.toArray a.tmps) = true := by simp [Region.wanted, hg, hy]
                  exact ⟨o, ho', fun _ _ => quietly _ hs2 hq h, fun _ hq' => (by rw [hqf, hq] at hq'; cases hq'), fun hw' => (by rw [hw] at hw'; cases hw')⟩
                · have hw : Region.wanted o (yielded all.toArray a.tmps) = false := by simp [Region.wanted, hg, hy]
                  exact ⟨o, ho', fun hw' => (by rw [hw] at hw'; cases hw'), fun hw' => (by rw [hw] at hw'; cases hw'), fun _ => go _ hs2 undefs w pend pg hpr h⟩
              · split at h
                · have hw : Region.wanted o (yielded all.toArray a.tmps) = false := by simp [Region.wanted, hg, hy]
                  exact ⟨o, ho', fun hw' => (by rw [hw] at hw'; cases hw'), fun hw' => (by rw [hw] at hw'; cases hw'), fun _ => go _ hs2 undefs w pend pg hpr h⟩
                · have hw : Region.wanted o (yielded all.toArray a.tmps) = true := by simp [Region.wanted, hg, hy]
                  exact ⟨o, ho', fun _ _ => quietly _ hs2 hq h, fun _ hq' => (by rw [hqf, hq] at hq'; cases hq'), fun hw' => (by rw [hw] at hw'; cases hw')⟩
            · rename_i hq
              rcases BIf_cases h with ⟨rfl, h⟩ | ⟨rfl, h⟩
              · split at h
                · have hw : Region.wanted o (yielded all.toArray a.tmps) = true := by simp [Region.wanted, hg, hy]
                  exact ⟨o, ho', fun _ hq' => (by rw [hqf, hq] at hq'; cases hq'), fun _ _ => loudly _ hs2 h, fun hw' => (by rw [hw] at hw'; cases hw')⟩
                · have hw : Region.wanted o (yielded all.toArray a.tmps) = false := by simp [Region.wanted, hg, hy]
                  exact ⟨o, ho', fun hw' => (by rw [hw] at hw'; cases hw'), fun hw' => (by rw [hw] at hw'; cases hw'), fun _ => go _ hs2 undefs w pend pg hpr h⟩
              · split at h
                · have hw : Region.wanted o (yielded all.toArray a.tmps) = false := by simp [Region.wanted, hg, hy]
                  exact ⟨o, ho', fun hw' => (by rw [hw] at hw'; cases hw'), fun hw' => (by rw [hw] at hw'; cases hw'), fun _ => go _ hs2 undefs w pend pg hpr h⟩
                · have hw : Region.wanted o (yielded all.toArray a.tmps) = true := by simp [Region.wanted, hg, hy]
                  exact ⟨o, ho', fun _ hq' => (by rw [hqf, hq] at hq'; cases hq'), fun _ _ => loudly _ hs2 h, fun hw' => (by rw [hw] at hw'; cases hw')⟩
          · rename_i vs hx
            have hy := yielded_of hst hs hx
            simp only at hy
            have hw : Region.wanted o (yielded all.toArray a.tmps) = false := by simp [Region.wanted, hg, hy]
            exact ⟨o, ho', fun hw' => (by rw [hw] at hw'; cases hw'), fun hw' => (by rw [hw] at hw'; cases hw'), fun _ => go e hst undefs w pend pg hpr h⟩
          · exact h.elim
end Go.Den

/- A region whose order is drawn: the checks of its one order are enough. Conditions: the table of types is the program's (TabOk); the program follows the departure of mixed orders. -/
set_option linter.unusedVariables false
set_option linter.unusedSimpArgs false
namespace Go.Den
variable {P : Program}
theorem permOk_out {n : Nat} : ∀ {ord : List Nat} {m : Nat}, permOk n m ord = true → ord.Nodup ∧ (∀ y, y ∈ ord → y < n ∧ Nat.testBit m y = false) ∧ ∀ j, j < n → Nat.testBit m j = true ∨ j ∈ ord
  | [], m, h => by
    simp only [permOk] at h
    have h := Nat.eq_of_beq_eq_true h
    rw [Nat.one_shiftLeft] at h
    have : m = 2 ^ n - 1 := by omega
    subst this
    exact ⟨List.nodup_nil, by simp, fun j hj => .inl (by rw [Nat.testBit_two_pow_sub_one]; simp [hj])⟩
  | y :: r, m, h => by
    unfold permOk at h
    split at h
    · rename_i h1 h2
      obtain ⟨h3, h4, h5⟩ := permOk_out h
      refine ⟨List.nodup_cons.2 ⟨fun hy => ?_, h3⟩, fun z hz => ?_, fun j hj => ?_⟩
      · have := (h4 y hy).2
        rw [Nat.testBit_or, shift_bit] at this
        simp at this
      · rcases List.mem_cons.1 hz with rfl | hz
        · exact ⟨by simpa [Nat.blt_eq] using h2, h1⟩
        · have := h4 z hz
          rw [Nat.testBit_or, Bool.or_eq_false_iff] at this
          exact ⟨this.1, this.2.1⟩
      · rcases h5 j hj with h6 | h6
        · rw [Nat.testBit_or, shift_bit, Bool.or_eq_true] at h6
          rcases h6 with h6 | h6
          · exact .inl h6
          · exact .inr (by simp at h6; simp [h6])
        · exact .inr (List.mem_cons_of_mem _ h6)
    · cases h
theorem lookMask1_bit {x : Operand} {d : Nat} : Nat.testBit (lookMask1 x) d = true ↔ x = .tmp d := by
  cases x with
  | tmp t => simp only [lookMask1, shift_bit, decide_eq_true_eq, Operand.tmp.injEq]; exact eq_comm
  | _ => simp [lookMask1]
theorem lookMaskL_bit {d : Nat} : ∀ {l : List Operand}, Operand.tmp d ∈ l → Nat.testBit (lookMaskL l) d = true
  | [], h => by simp at h
  | x :: r, h => by
    simp only [lookMaskL, Nat.testBit_or, Bool.or_eq_true]
    rcases List.mem_cons.1 h with h | h
    · exact .inl (lookMask1_bit.2 h.symm)
    · exact .inr (lookMaskL_bit h)
theorem dMask_bit {d : Option Nat} {j : Nat} : Nat.testBit (dMask d) j = true ↔ d = some j := by
  cases d with
  | none => simp [dMask]
  | some d => simp only [dMask, shift_bit, decide_eq_true_eq, Option.some.injEq]; exact eq_comm
theorem looksAt_bit {all : List Oper} {o : Oper} {d : Nat} (h : d ∈ o.looksAt all.toArray) : Nat.testBit (lookMask all o) d = true := by
  unfold Oper.looksAt at h
  unfold lookMask
  rw [Nat.testBit_or, Bool.or_eq_true]
  rcases List.mem_append.1 h with h | h
  · obtain ⟨x, hx, hd⟩ := List.mem_filterMap.1 h
    refine .inl (lookMaskL_bit ?_)
    cases x with
    | tmp t => simp at hd; subst hd; exact hx
    | _ => simp at hd
  · right
    cases hg : o.guard with
    | none => rw [hg] at h; simp at h
    | some gw =>
      obtain ⟨g, want⟩ := gw
      rw [hg] at h
      simp only at h ⊢
      rw [dMask_bit, slotAt_eq]
      simpa using h
theorem and_zero {a b d : Nat} (h : Nat.beq (a &&& b) 0 = true) (ha : Nat.testBit a d = true) : Nat.testBit b d = false := by
  have h := Nat.eq_of_beq_eq_true h
  have : Nat.testBit (a &&& b) d = false := by rw [h]; simp
  rw [Nat.testBit_and, ha, Bool.true_and] at this
  exact this
theorem pairOk_out {all : List Oper} {al : List Nat} {x y : Nat} (h : pairOk all al x y = true) :
    ancF al y x = true ∨ (quietF all x = true ∧ ∀ ox oy, all.toArray[x]? = some ox → all.toArray[y]? = some oy → ox.apart all.toArray oy = true) := by
  unfold pairOk at h
  split at h
  · rename_i hb; exact .inl hb
  · split at h
    · rename_i ox r1 oy r2 hx hy
      split at h
      · rename_i h1 h2 h3
        refine .inr ⟨by simp only [quietF, hx]; exact h1, fun ox' oy' hox hoy => ?_⟩
        have ex := drop_get hx
        have ey := drop_get hy
        have : ox' = ox := by have : all[x]? = some ox' := by simpa using hox
                              rw [ex] at this; injection this with this; exact this.symm
        subst this
        have : oy' = oy := by have : all[y]? = some oy' := by simpa using hoy
                              rw [ey] at this; injection this with this; exact this.symm
        subst this
        unfold Oper.apart
        rw [Bool.and_eq_true]
        constructor
        · cases hd : ox'.dst with
          | none => rfl
          | some d =>
            have hz := and_zero h2 (dMask_bit.2 hd)
            rw [Nat.testBit_or, Bool.or_eq_false_iff] at hz
            simp only [Bool.and_eq_true, Bool.not_eq_true', bne_iff_ne, ne_eq]
            refine ⟨?_, fun hh => ?_⟩
            · cases hc : (oy'.looksAt all.toArray).contains d with
              | false => rfl
              | true => have := looksAt_bit (List.contains_iff_mem.1 hc); rw [hz.1] at this; cases this
            · have := dMask_bit.2 hh; rw [hz.2] at this; cases this
        · cases hd : oy'.dst with
          | none => rfl
          | some d =>
            have hz := and_zero h3 (dMask_bit.2 hd)
            simp only [Bool.not_eq_true']
            cases hc : (ox'.looksAt all.toArray).contains d with
            | false => rfl
            | true => have := looksAt_bit (List.contains_iff_mem.1 hc); rw [hz] at this; cases this
      · cases h
    · cases h
theorem pairsOk1_out {all : List Oper} {al : List Nat} {y : Nat} : ∀ {l : List Nat}, pairsOk1 all al y l = true → ∀ x, x ∈ l → pairOk all al x y = true
  | [], h, x, hx => by simp at hx
  | z :: r, h, x, hx => by
    unfold pairsOk1 at h
    split at h
    · rename_i h1
      rcases List.mem_cons.1 hx with rfl | hx
      · exact h1
      · exact pairsOk1_out h x hx
    · cases h
theorem pairsOk_out {all : List Oper} {al : List Nat} : ∀ {ord seen : List Nat}, pairsOk all al seen ord = true → ∀ A i B, ord = A ++ i :: B → ∀ x, x ∈ seen ∨ x ∈ A → pairOk all al x i = true
  | [], seen, h, A, i, B, e, x, hx => by simp at e
  | y :: r, seen, h, A, i, B, e, x, hx => by
    unfold pairsOk at h
    split at h
    · rename_i h1
      cases A with
      | nil =>
        simp at e
        obtain ⟨rfl, rfl⟩ := e
        exact pairsOk1_out h1 x (by simpa using hx)
      | cons z A =>
        simp at e
        obtain ⟨rfl, rfl⟩ := e
        refine pairsOk_out h A i B rfl x ?_
        rcases hx with hx | hx
        · exact .inl (List.mem_cons_of_mem _ hx)
        · rcases List.mem_cons.1 hx with rfl | hx
          · exact .inl List.mem_cons_self
          · exact .inr hx
    · cases h
theorem edgesIn_out {i : Nat} : ∀ {l : List Edge}, edgesIn i l = true → ∀ e, e ∈ l → Region.binds .any e = true → e.on < i
  | [], h, e, he, hb => by simp at he
  | x :: r, h, e, he, hb => by
    unfold edgesIn at h
    rcases List.mem_cons.1 he with rfl | he
    · rw [hb] at h
      split at h
      · rename_i h1; cases h1
      · rename_i h2; simpa [Nat.blt_eq] using h2
      · cases h
    · split at h
      · exact edgesIn_out h e he hb
      · exact edgesIn_out h e he hb
      · cases h
theorem edgesMask_out {al : List Nat} {x : Nat} : ∀ {l : List Edge}, Nat.testBit (edgesMask al l) x = true → ∃ e, e ∈ l ∧ Region.binds .any e = true ∧ (e.on = x ∨ Nat.testBit (nth al e.on) x = true)
  | [], h => by simp [edgesMask] at h
  | y :: r, h => by
    unfold edgesMask at h
    split at h
    · rename_i hb
      rw [Nat.testBit_or, Nat.testBit_or, Bool.or_eq_true, Bool.or_eq_true] at h
      rcases h with (h | h) | h
      · exact ⟨y, by simp, hb, .inl (by rw [shift_bit] at h; simpa using Eq.symm (by simpa using h))⟩
      · exact ⟨y, by simp, hb, .inr h⟩
      · obtain ⟨e, he, h1, h2⟩ := edgesMask_out h
        exact ⟨e, List.mem_cons_of_mem _ he, h1, h2⟩
    · obtain ⟨e, he, h1, h2⟩ := edgesMask_out h
      exact ⟨e, List.mem_cons_of_mem _ he, h1, h2⟩
theorem opsOk_out {al : List Nat} : ∀ {l : List Oper} {k : Nat}, opsOk al k l = true → ∀ i o, l[i]? = some o →
    isSelect o.op = false ∧ (∀ e ∈ o.after, Region.binds .any e = true → e.on < k + i) ∧ ∀ x, Nat.testBit (nth al (k + i)) x = true → ∃ e ∈ o.after, Region.binds .any e = true ∧ (e.on = x ∨ Nat.testBit (nth al e.on) x = true)
  | [], k, h, i, o, ho => by simp at ho
  | y :: r, k, h, i, o, ho => by
    unfold opsOk at h
    split at h
    · rename_i h1 h2 h3
      cases i with
      | zero =>
        simp at ho
        subst ho
        refine ⟨h1, fun e he hb => edgesIn_out h2 e (by simpa using he) hb, fun x hx => ?_⟩
        have h3 := Nat.eq_of_beq_eq_true h3
        have hm : Nat.testBit (edgesMask al y.after.toList) x = true := by
          rw [← h3, Nat.testBit_or]
          simp only [Nat.add_zero] at hx
          rw [hx]; rfl
        obtain ⟨e, he, h4, h5⟩ := edgesMask_out hm
        exact ⟨e, by simpa using he, h4, h5⟩
      | succ i =>
        have := opsOk_out h i o (by simpa using ho)
        rw [show k + 1 + i = k + (i + 1) by omega] at this
        exact this
    · cases h
theorem nodup_len : ∀ (n : Nat) (l : List Nat), l.Nodup → (∀ x, x ∈ l → x < n) → l.length ≤ n
  | 0, l, hn, h => by
    cases l with
    | nil => simp
    | cons x r => have := h x (by simp); omega
  | n + 1, l, hn, h => by
    by_cases hm : n ∈ l
    · have hl := List.length_erase_of_mem hm
      have := nodup_len n (l.erase n) (hn.erase n) (fun x hx => by
        have h1 := h x (List.mem_of_mem_erase hx)
        have h2 : x ≠ n := fun e => by subst e; exact (List.Nodup.not_mem_erase hn) hx
        omega)
      have hp : 0 < l.length := List.length_pos_of_mem hm
      omega
    · have := nodup_len n l hn (fun x hx => by
        have h1 := h x hx
        have h2 : x ≠ n := fun e => hm (e ▸ hx)
        omega)
      omega
theorem draw_sound {tt : Tab} (htt : TabOk P tt) (hmix : P.follows .mixedOrders = true) {n id : Nat} {all : List Oper} {al ord : List Nat} {Q : Exit → Act → World → Prop} (hm : opMods all < 2 ^ n) (hok : drawOk all al ord = true) {e : Env} {a : Act} {w : World} {K : Env → World → Prop}
    (hst : St n e a) (h : denDraw P tt all al ord e w.drew [] (fun _ e w => K e w)) (hQ : ∀ e' a' w', K e' w' → St n e' a' → Same (opMods all) a a' → Q .normal a' w') : (Code.region id all.toArray true).wp P Q a w := by
  unfold drawOk at hok
  split at hok
  · rename_i h1 h2 h3
    have hg := denDraw_sound htt (R := fun _ a w => Q .normal a w) hm ord e a w.drew (fun _ e w => K e w) [] [] hst (fun x q hx => by simp at hx) h (fun e' a' w' _ _ _ hk hs hsame => hQ e' a' w' hk hs hsame)
    have ho := opsOk_out h1
    obtain ⟨p1, p2, p3⟩ := permOk_out h2
    have inord : ∀ i (o : Oper), all.toArray[i]? = some o → i ∈ ord := fun i o hi => by
      have hl : i < all.length := by
        have := (Array.getElem?_eq_some_iff.1 hi).1; simpa using this
      rcases p3 i hl with h | h
      · simp at h
      · exact h
    refine wp_region_any hmix ?_
    refine good_any (quiet := quietF all) (anc := ancF al) ?_ ?_ ?_ all.toArray.size _ ord a w.drew (by simp) ?_ p1 ?_ ?_ ?_ ?_ hg
    · intro j o cs b hj hs
      have := (ho j o (by simpa using hj)).1
      rw [hs] at this
      cases this
    · intro i o hi e he hb
      have := (ho i o (by simpa using hi)).2.1 e he hb
      simpa using this
    · intro i o hi x hx
      exact (ho i o (by simpa using hi)).2.2 x (by simpa [ancF] using hx)
    · -- a list without doubles, below n, is no longer than n
      have : ord.length ≤ all.length := nodup_len all.length ord p1 (fun x hx => (p2 x hx).1)
      simpa using this
    · intro j hj
      have hj' : j < all.length := by simpa using hj
      constructor
      · intro _
        rcases p3 j hj' with h | h
        · simp at h
        · exact h
      · intro _
        simp [Array.getD_eq_getD_getElem?, hj']
    · intro j hj; simpa using (p2 j hj).1
    · intro i o hi hni
      exact absurd (inord i o hi) hni
    · intro A i B e x hx
      exact pairOk_out (pairsOk_out h3 A i B e x (.inr hx))
  · cases hok
end Go.Den
