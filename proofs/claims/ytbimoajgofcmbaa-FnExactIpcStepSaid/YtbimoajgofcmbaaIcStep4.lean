/- Part 4 of 7: plain readings of code, rules for them, and a proof over them, joined by a program. Conditions: none. -/
import Derived.Test.YtbimoajgofcmbaaIcStep3
import Derived.Test.YtbimoajgofcmbaaProg
set_option linter.unusedVariables false
set_option linter.unusedSimpArgs false
set_option linter.unusedSectionVars false
set_option maxRecDepth 100000
namespace Go.Proofs.Ytbimoajgofcmbaa
open Go Go.Den
def an108 : Ann := (aq (aq aL))
def W108 (a0_0 a0_1 a0_2 a0_3 a0_4 : Int) (c0 : Addr) (w : World) (K : Value → World → Prop) : Prop :=
  qA w #[qI a0_0, qI a0_1, qI a0_2, qI a0_3, qI a0_4] 67 fun w1 => ∃ m2 : Option Nat, w1.cell? c0 = some (.map m2) ∧ qn w1 (qP w 0) fun n3 => MapGetW w1 m2 (qI n3) fun o4 => ∃ b5, valOr o4 (.bool false) = (.bool b5 : Value) ∧ K (.bool (!b5)) w1
theorem eq108 (a0_0 a0_1 a0_2 a0_3 a0_4 : Int) (c0 : Addr) (w : World) (K : Value → World → Prop) : denFn Try.prog tt Try.f108 an108 [.agg #[.int .i64 a0_0, .int .i64 a0_1, .int .i64 a0_2, .int .i64 a0_3, .int .i64 a0_4], .pointer (some c0)] w K = W108 a0_0 a0_1 a0_2 a0_3 a0_4 c0 w K := by kernel_rfl
theorem ok108 : OkFn Try.prog 108 := ⟨Try.f108, Try.func108, by kernel_rfl, by kernel_rfl⟩
theorem go108 {a0_0 a0_1 a0_2 a0_3 a0_4 : Int} {c0 : Addr} {w : World} {K : Value → World → Prop} (h : W108 a0_0 a0_1 a0_2 a0_3 a0_4 c0 w K) : CallW Try.prog 108 #[.agg #[.int .i64 a0_0, .int .i64 a0_1, .int .i64 a0_2, .int .i64 a0_3, .int .i64 a0_4], .pointer (some c0)] w K :=
  .inl ⟨ok108, denFn_sound tt_ok mix Try.func108 (by kernel_rfl) (eq108 a0_0 a0_1 a0_2 a0_3 a0_4 c0 w K ▸ h)⟩

def an109 : Ann := (aq (aq (aS (aq (.in_ (.loop 65561 [(17, .int .i64)] (aq (aS (.cond aL aL) (aS (.in_ (aq (aS (.draw [0, 1, 3, 7, 0, 31, 63, 127, 0, 511] [0, 1, 2, 3, 4, 5, 6, 7, 8, 9]) (.cond aL aL)))) aL)))))) aL)))
def W109 (a0 : Option Addr) (a1 : Int) (w : World) (K : Value → World → Prop) : Prop :=
  qA w #[qI a1] 2 fun w1 => qn w1 (qP w 0) fun n2 => qC 59 #[.pointer a0, qI n2] w1 fun v3 w4 => ∃ p5 : Option Addr, v3 = .pointer p5 ∧ ∃ p6 : Addr, (p5 : Option Addr) = some p6 ∧ ∃ n7, w4.cell? (p6.add 4) = some (qI n7) ∧ ∃ p8 : Addr, (a0 : Option Addr) = some p8 ∧ ∃ l9, w4.cell? (p8.add 2) = some (qS l9) ∧ LoopW [.int .i64] (fun J11 => fun (n10 : Int) w12 => BIf (decide (n10 < ((l9.len : Nat) : Int))) (∃ p13 : Addr, (a0 : Option Addr) = some p13 ∧ ∃ l14, w12.drew.cell? (p13.add 2) = some (qS l14) ∧ 0 ≤ n10 ∧ n10 < ((l14.len : Nat) : Int) ∧ ∃ q15 : Addr, (l14.a : Option Addr) = some q15 ∧ ∃ n16, w12.drew.cell? ((q15.add (Int.toNat n10 * 5)).add 4) = some (qI n16) ∧ qn w12.drew (qP w 0) fun n17 => BIf (n16 == n17) (∃ p18 : Addr, (a0 : Option Addr) = some p18 ∧ ∃ l19, w12.drew.cell? (p18.add 2) = some (qS l19) ∧ 0 ≤ n10 ∧ n10 < ((l19.len : Nat) : Int) ∧ ∃ q20 : Addr, (l19.a : Option Addr) = some q20 ∧ May w12.drew ((q20.add (Int.toNat n10 * 5)).add 4) ∧ LetW (w12.drew.setCell ((q20.add (Int.toNat n10 * 5)).add 4) (qI n7)) fun w21 => J11 (qR (n10 + 1)) w21) (J11 (qR (n10 + 1)) w12.drew)) (qC 107 #[.pointer a0, .func (.func 120) #[] #[.pointer (some (qP w 0))]] w12 fun v22 w23 => v22 = .tuple #[] ∧ K (.tuple #[]) w23)) ((0 : Int), ()) w4
theorem eq109 (a0 : Option Addr) (a1 : Int) (w : World) (K : Value → World → Prop) : denFn Try.prog tt Try.f109 an109 [.pointer a0, .int .i64 a1] w K = W109 a0 a1 w K := by kernel_rfl
theorem ok109 : OkFn Try.prog 109 := ⟨Try.f109, Try.func109, by kernel_rfl, by kernel_rfl⟩
theorem go109 {a0 : Option Addr} {a1 : Int} {w : World} {K : Value → World → Prop} (h : W109 a0 a1 w K) : CallW Try.prog 109 #[.pointer a0, .int .i64 a1] w K :=
  .inl ⟨ok109, denFn_sound tt_ok mix Try.func109 (by kernel_rfl) (eq109 a0 a1 w K ▸ h)⟩

def an110 : Ann := (aq (aS (.reg [(5, none), (5, some (0, [(14, .bool)])), (1, none)]) aL))
def W110 (a0 a1 : Int) (w : World) (K : Value → World → Prop) : Prop :=
  JoinW [.bool] (fun J2 => BIf (decide ((a1 : Int) < (qR (0 - a0)))) (J2 true w) (J2 (decide ((a1 : Int) > (qR (64 - a0)))) w)) (fun (b1 : Bool) w3 => K (.bool b1) w3)
theorem eq110 (a0 a1 : Int) (w : World) (K : Value → World → Prop) : denFn Try.prog tt Try.f110 an110 [.int .i64 a0, .int .i64 a1] w K = W110 a0 a1 w K := by kernel_rfl
theorem ok110 : OkFn Try.prog 110 := ⟨Try.f110, Try.func110, by kernel_rfl, by kernel_rfl⟩
theorem go110 {a0 a1 : Int} {w : World} {K : Value → World → Prop} (h : W110 a0 a1 w K) : CallW Try.prog 110 #[.int .i64 a0, .int .i64 a1] w K :=
  .inl ⟨ok110, denFn_sound tt_ok mix Try.func110 (by kernel_rfl) (eq110 a0 a1 w K ▸ h)⟩

def an111 : Ann := (aq (aS (aq (.in_ (.loop 1 [(1, .int .i64), (5, .int .i64)] (aS (aq (.cond aL aL)) (aS (.in_ (aS (aq (.cond (aq aL) aL)) (aq (aq (aS (aq (.cond (aq aL) aL)) (aS (aq (.cond (aq aL) aL)) aL)))))) aL))))) (aq aL)))
def W111 (a0 : Sl) (a1 : Int) (w : World) (K : Value → World → Prop) : Prop :=
  LoopW [.int .i64, .int .i64] (fun J3 => fun (n1 : Int) (n2 : Int) w4 => BIf (decide (n2 < ((a0.len : Nat) : Int))) (0 ≤ n2 ∧ n2 < ((a0.len : Nat) : Int) ∧ ∃ q5 : Addr, (a0.a : Option Addr) = some q5 ∧ ∃ n6, w4.cell? ((q5.add (Int.toNat n2 * 3)).add 0) = some (qI n6) ∧ BIf (n6 != n1) (K (qI (-1)) w4) (0 ≤ n2 ∧ n2 < ((a0.len : Nat) : Int) ∧ ∃ q7 : Addr, (a0.a : Option Addr) = some q7 ∧ ∃ l8, w4.cell? ((q7.add (Int.toNat n2 * 3)).add 1) = some (qS l8) ∧ qi 69 #[qS l8, qI (qR (n1 + 1))] w4 fun n11 w10 => BIf (decide (n11 < 0)) (K (qI (-1)) w10) (0 ≤ n2 ∧ n2 < ((a0.len : Nat) : Int) ∧ ∃ q12 : Addr, (a0.a : Option Addr) = some q12 ∧ ∃ n13, w10.cell? ((q12.add (Int.toNat n2 * 3)).add 2) = some (qI n13) ∧ BIf (n13 != n11) (K (qI (-1)) w10) (J3 (qR (n11 + 1)) (qR (n2 + 1)) w10)))) (K (qI n1) w4)) ((a1 : Int), ((0 : Int), ())) w
theorem eq111 (a0 : Sl) (a1 : Int) (w : World) (K : Value → World → Prop) : denFn Try.prog tt Try.f111 an111 [.slice a0.a a0.len a0.cap, .int .i64 a1] w K = W111 a0 a1 w K := by kernel_rfl
theorem ok111 : OkFn Try.prog 111 := ⟨Try.f111, Try.func111, by kernel_rfl, by kernel_rfl⟩
theorem go111 {a0 : Sl} {a1 : Int} {w : World} {K : Value → World → Prop} (h : W111 a0 a1 w K) : CallW Try.prog 111 #[.slice a0.a a0.len a0.cap, .int .i64 a1] w K :=
  .inl ⟨ok111, denFn_sound tt_ok mix Try.func111 (by kernel_rfl) (eq111 a0 a1 w K ▸ h)⟩

def an112 : Ann := (aq (aq (aS (aq (.cond (aq aL) aL)) (aS (aq (.in_ (.loop 1 [(1, .int .i64), (5, .int .i64)] (aS (aq (.cond aL aL)) (aS (.in_ (aq (aq (.cond (aq aL) aL)))) aL))))) (aq aL)))))
def W112 (a0 : Sl) (a1 : Int) (w : World) (K : Value → World → Prop) : Prop :=
  BIf (decide ((qR (a1 - ((a0.len : Nat) : Int)) : Int) < 0)) (K (qI (-1)) w) (LoopW [.int .i64, .int .i64] (fun J3 => fun (n1 : Int) (n2 : Int) w4 => BIf (decide (n2 < ((a0.len : Nat) : Int))) (0 ≤ n2 ∧ n2 < ((a0.len : Nat) : Int) ∧ ∃ q5 : Addr, (a0.a : Option Addr) = some q5 ∧ ∃ n6, w4.cell? ((q5.add (Int.toNat n2 * 3)).add 0) = some (qI n6) ∧ ∃ l7, w4.cell? ((q5.add (Int.toNat n2 * 3)).add 1) = some (qS l7) ∧ ∃ n8, w4.cell? ((q5.add (Int.toNat n2 * 3)).add 2) = some (qI n8) ∧ qi 121 #[.agg #[qI n6, qS l7, qI n8], qI n1] w4 fun n11 w10 => BIf (decide (n11 < 0)) (K (qI (-1)) w10) (J3 n11 (qR (n2 + 1)) w10)) (K (qI n1) w4)) ((qR (a1 - ((a0.len : Nat) : Int)) : Int), ((0 : Int), ())) w)
theorem eq112 (a0 : Sl) (a1 : Int) (w : World) (K : Value → World → Prop) : denFn Try.prog tt Try.f112 an112 [.slice a0.a a0.len a0.cap, .int .i64 a1] w K = W112 a0 a1 w K := by kernel_rfl
theorem ok112 : OkFn Try.prog 112 := ⟨Try.f112, Try.func112, by kernel_rfl, by kernel_rfl⟩
theorem go112 {a0 : Sl} {a1 : Int} {w : World} {K : Value → World → Prop} (h : W112 a0 a1 w K) : CallW Try.prog 112 #[.slice a0.a a0.len a0.cap, .int .i64 a1] w K :=
  .inl ⟨ok112, denFn_sound tt_ok mix Try.func112 (by kernel_rfl) (eq112 a0 a1 w K ▸ h)⟩

def an113 : Ann := (aq (aq (aS (aq (.in_ (.loop 9 [(4, .int .i64)] (aS (aq (.cond aL aL)) (aS (.in_ aL) aL))))) (aq aL))))
def W113 (a0 : Sl) (w : World) (K : Value → World → Prop) : Prop :=
  0 ≤ ((a0.len : Nat) : Int) ∧ ((a0.len : Nat) : Int) ≤ ((a0.len : Nat) : Int) ∧ ((a0.len : Nat) : Int) * 40 ≤ (140737488355328 : Int) ∧ 0 < 40 ∧ LetW (w.alloc (.cells ⟨zerosOf ti95.zero (Int.toNat ((a0.len : Nat) : Int))⟩ 95)) fun w1 => LoopW [.int .i64] (fun J3 => fun (n2 : Int) w4 => BIf (decide (n2 < ((a0.len : Nat) : Int))) (0 ≤ n2 ∧ n2 < ((a0.len : Nat) : Int) ∧ ∃ q5 : Addr, (a0.a : Option Addr) = some q5 ∧ ∃ n6, w4.cell? ((q5.add (Int.toNat n2 * 3)).add 0) = some (qI n6) ∧ ∃ l7, w4.cell? ((q5.add (Int.toNat n2 * 3)).add 1) = some (qS l7) ∧ ∃ n8, w4.cell? ((q5.add (Int.toNat n2 * 3)).add 2) = some (qI n8) ∧ qC 122 #[.agg #[qI n6, qS l7, qI n8]] w4 fun v9 w10 => ∃ n11 l12 n13, v9 = .agg #[qI n11, qS l12, qI n13] ∧ 0 ≤ n2 ∧ n2 < ((Int.toNat ((a0.len : Nat) : Int) : Nat) : Int) ∧ ∃ q14 : Addr, (some (qP w 0) : Option Addr) = some q14 ∧ MayN w10 (q14.add (Int.toNat n2 * 3)) 3 ∧ LetW (puts w10 (q14.add (Int.toNat n2 * 3)) 0 [qI n11, qS l12, qI n13]) fun w15 => J3 (qR (n2 + 1)) w15) (K (.slice (some (qP w 0)) (Int.toNat ((a0.len : Nat) : Int)) (Int.toNat ((a0.len : Nat) : Int))) w4)) ((0 : Int), ()) w1
theorem eq113 (a0 : Sl) (w : World) (K : Value → World → Prop) : denFn Try.prog tt Try.f113 an113 [.slice a0.a a0.len a0.cap] w K = W113 a0 w K := by kernel_rfl
theorem ok113 : OkFn Try.prog 113 := ⟨Try.f113, Try.func113, by kernel_rfl, by kernel_rfl⟩
theorem go113 {a0 : Sl} {w : World} {K : Value → World → Prop} (h : W113 a0 w K) : CallW Try.prog 113 #[.slice a0.a a0.len a0.cap] w K :=
  .inl ⟨ok113, denFn_sound tt_ok mix Try.func113 (by kernel_rfl) (eq113 a0 w K ▸ h)⟩

def an114 : Ann := (aq (aS (aq (.cond (aq aL) aL)) (aS (aq (.in_ (.loop 3 [(5, .int .i64)] (aS (aq (.cond aL aL)) (aS (.in_ (aS (.draw [0, 0, 3, 7, 0, 0, 48, 112, 255, 511] [0, 1, 2, 3, 4, 5, 6, 7, 8, 9]) (.cond (aq aL) aL))) aL))))) (aq aL))))
def W114 (a0 a1 : Sl) (w : World) (K : Value → World → Prop) : Prop :=
  BIf ((((a0.len : Nat) : Int) : Int) != ((a1.len : Nat) : Int)) (K (.bool false) w) (LoopW [.int .i64] (fun J2 => fun (n1 : Int) w3 => BIf (decide (n1 < ((a0.len : Nat) : Int))) (0 ≤ n1 ∧ n1 < ((a0.len : Nat) : Int) ∧ ∃ q4 : Addr, (a0.a : Option Addr) = some q4 ∧ ∃ n5, w3.drew.cell? ((q4.add (Int.toNat n1 * 3)).add 0) = some (qI n5) ∧ ∃ l6, w3.drew.cell? ((q4.add (Int.toNat n1 * 3)).add 1) = some (qS l6) ∧ ∃ n7, w3.drew.cell? ((q4.add (Int.toNat n1 * 3)).add 2) = some (qI n7) ∧ 0 ≤ n1 ∧ n1 < ((a1.len : Nat) : Int) ∧ ∃ q8 : Addr, (a1.a : Option Addr) = some q8 ∧ ∃ n9, w3.drew.cell? ((q8.add (Int.toNat n1 * 3)).add 0) = some (qI n9) ∧ ∃ l10, w3.drew.cell? ((q8.add (Int.toNat n1 * 3)).add 1) = some (qS l10) ∧ ∃ n11, w3.drew.cell? ((q8.add (Int.toNat n1 * 3)).add 2) = some (qI n11) ∧ qb 123 #[.agg #[qI n5, qS l6, qI n7], .agg #[qI n9, qS l10, qI n11]] w3.drew fun b14 w13 => BIf (!b14) (K (.bool false) w13) (J2 (qR (n1 + 1)) w13)) (K (.bool true) w3)) ((0 : Int), ()) w)
theorem eq114 (a0 a1 : Sl) (w : World) (K : Value → World → Prop) : denFn Try.prog tt Try.f114 an114 [.slice a0.a a0.len a0.cap, .slice a1.a a1.len a1.cap] w K = W114 a0 a1 w K := by kernel_rfl
theorem ok114 : OkFn Try.prog 114 := ⟨Try.f114, Try.func114, by kernel_rfl, by kernel_rfl⟩
theorem go114 {a0 a1 : Sl} {w : World} {K : Value → World → Prop} (h : W114 a0 a1 w K) : CallW Try.prog 114 #[.slice a0.a a0.len a0.cap, .slice a1.a a1.len a1.cap] w K :=
  .inl ⟨ok114, denFn_sound tt_ok mix Try.func114 (by kernel_rfl) (eq114 a0 a1 w K ▸ h)⟩

def an115 : Ann := (aq (aS (aS (.reg [(5, none), (4, some (248, [(16, .bool)])), (1, none), (4, some (248, [(21, .bool)]))]) (.cond (aq aL) aL)) (aS (aS (.reg [(5, none), (7, some (248, [(37, .bool)]))]) (.cond (aq aL) aL)) (aS (aq (.cond (aq aL) aL)) (aq (aS (.draw [0, 0, 2, 6, 1, 31] [0, 1, 2, 3, 4, 5]) aL))))))
def H115_1 (w31 : World) (y1 y2 : Nat) (K : Value → World → Prop) : Prop :=
  qn w31 (qQ y1 0) fun n32 => ql w31 (qQ y1 1) fun l33 => ql w31 (qQ y1 2) fun l34 => ql w31 (qQ y1 3) fun l35 => qn w31 (qQ y2 0) fun n36 => qn w31 (qQ y2 1) fun n37 => ql w31 (qQ y2 2) fun l38 => qn w31 (qQ y2 3) fun n39 => K (.tuple #[.agg #[qI n32, qS l33, qS l34, qS l35], .agg #[qI n36, qI n37, qS l38, qI n39]]) w31
def H115_0 (v20 : Value) (w21 : World) (y2 y3 : Nat) (K : Value → World → Prop) : Prop :=
  ∃ n22 l23 l24 l25 n26 n27 l28 n29, v20 = .tuple #[.agg #[qI n22, qS l23, qS l24, qS l25], .agg #[qI n26, qI n27, qS l28, qI n29]] ∧ qU w21 (qQ y2 0) 4 [qI n22, qS l23, qS l24, qS l25] fun w30 => qU w30 (qQ y3 0) 4 [qI n26, qI n27, qS l28, qI n29] fun w31 => H115_1 w31 y2 y3 K
def W115 (a0_0 : Int) (a0_1 a0_2 a0_3 : Sl) (a1_0 a1_1 a1_2 a1_3 a1_4 a1_5 a1_6 : Int) (a1_7 : Sl) (a2_0 a2_1 a2_2 a2_3 a2_4 : Int) (w : World) (K : Value → World → Prop) : Prop :=
  qA w #[qI a0_0, qS a0_1, qS a0_2, qS a0_3] 33 fun w1 => qA w1 #[qI a1_0, qI a1_1, qI a1_2, qI a1_3, qI a1_4, qI a1_5, qI a1_6, qS a1_7] 61 fun w2 => qA w2 #[qI a2_0, qI a2_1, qI a2_2, qI a2_3, qI a2_4] 67 fun w3 => qA w3 #[qI 0, .slice none 0 0, .slice none 0 0, .slice none 0 0] 33 fun w4 => qA w4 #[qI 0, qI 0, .slice none 0 0, qI 0] 63 fun w5 => qn w5 (qP w1 3) fun n6 => qb 84 #[qI n6] w5 fun b9 w8 => JoinW [.bool] (fun J11 => BIf (!b9) (J11 true w8) (qn w8 (qP w1 4) fun n133 => J11 (decide (n133 < 1)) w8)) (fun (b10 : Bool) w12 => JoinW [.bool] (fun J14 => BIf b10 (J14 true w12) (qn w12 (qP w1 4) fun n132 => J14 (decide (n132 > 7)) w12)) (fun (b13 : Bool) w15 => BIf b13 (qn w15 (qP w 0) fun n16 => ql w15 (qP w 1) fun l17 => ql w15 (qP w 2) fun l18 => ql w15 (qP w 3) fun l19 => qC 95 #[.agg #[qI n16, qS l17, qS l18, qS l19], qI 1] w15 fun v20 w21 => H115_0 v20 w21 w3.heap.size w4.heap.size K) (qn w15 (qP w2 3) fun n40 => qb 87 #[qI 4, qI n40] w15 fun b43 w42 => JoinW [.bool] (fun J45 => BIf (!b43) (J45 true w42) (qn w42 (qP w1 4) fun n127 => qn w42 (qP w2 3) fun n128 => qb 87 #[qI n127, qI n128] w42 fun b131 w130 => J45 (!b131) w130)) (fun (b44 : Bool) w46 => BIf b44 (qn w46 (qP w 0) fun n47 => ql w46 (qP w 1) fun l48 => ql w46 (qP w 2) fun l49 => ql w46 (qP w 3) fun l50 => qC 95 #[.agg #[qI n47, qS l48, qS l49, qS l50], qI 2] w46 fun v51 w52 => H115_0 v51 w52 w3.heap.size w4.heap.size K) (ql w46 (qP w 2) fun l71 => BIf (decide ((((l71.len : Nat) : Int) : Int) ≥ 128)) (qn w46 (qP w 0) fun n72 => ql w46 (qP w 1) fun l73 => ql w46 (qP w 2) fun l74 => ql w46 (qP w 3) fun l75 => qC 95 #[.agg #[qI n72, qS l73, qS l74, qS l75], qI 18] w46 fun v76 w77 => H115_0 v76 w77 w3.heap.size w4.heap.size K) (qn w46 (qP w 0) fun n96 => ql w46 (qP w 1) fun l97 => ql w46 (qP w 2) fun l98 => ql w46 (qP w 3) fun l99 => qn w46 (qP w1 3) fun n100 => qn w46 (qP w2 2) fun n101 => qn w46 (qP w1 4) fun n102 => qn w46 (qP w2 0) fun n103 => qC 96 #[.agg #[qI n96, qS l97, qS l98, qS l99], qI n100, qI n101, qI n102, qI n103] w46 fun v104 w105 => ∃ n106 l107 l108 l109, v104 = .agg #[qI n106, qS l107, qS l108, qS l109] ∧ qU w105 (qP w 0) 4 [qI n106, qS l107, qS l108, qS l109] fun w110 => qn w110.drew (qP w 0) fun n111 => ql w110.drew (qP w 1) fun l112 => ql w110.drew (qP w 2) fun l113 => ql w110.drew (qP w 3) fun l114 => qn w110.drew (qP w 0) fun n115 => qU w110.drew (qP w3 0) 4 [qI n111, qS l112, qS l113, qS l114] fun w116 => (qn w116 (qP w 0) fun n117 => (qI n117 : Value) = (qI n115 : Value)) ∧ qU w116 (qP w4 0) 4 [qI 0, qI n115, .slice none 0 0, qI 0] fun w118 => H115_1 w118 w3.heap.size w4.heap.size K))))))
theorem eq115 (a0_0 : Int) (a0_1 a0_2 a0_3 : Sl) (a1_0 a1_1 a1_2 a1_3 a1_4 a1_5 a1_6 : Int) (a1_7 : Sl) (a2_0 a2_1 a2_2 a2_3 a2_4 : Int) (w : World) (K : Value → World → Prop) : denFn Try.prog tt Try.f115 an115 [.agg #[.int .i64 a0_0, .slice a0_1.a a0_1.len a0_1.cap, .slice a0_2.a a0_2.len a0_2.cap, .slice a0_3.a a0_3.len a0_3.cap], .agg #[.int .i64 a1_0, .int .i64 a1_1, .int .i64 a1_2, .int .i64 a1_3, .int .i64 a1_4, .int .i64 a1_5, .int .i64 a1_6, .slice a1_7.a a1_7.len a1_7.cap], .agg #[.int .i64 a2_0, .int .i64 a2_1, .int .i64 a2_2, .int .i64 a2_3, .int .i64 a2_4]] w K = W115 a0_0 a0_1 a0_2 a0_3 a1_0 a1_1 a1_2 a1_3 a1_4 a1_5 a1_6 a1_7 a2_0 a2_1 a2_2 a2_3 a2_4 w K := by kernel_rfl
theorem ok115 : OkFn Try.prog 115 := ⟨Try.f115, Try.func115, by kernel_rfl, by kernel_rfl⟩
theorem go115 {a0_0 : Int} {a0_1 a0_2 a0_3 : Sl} {a1_0 a1_1 a1_2 a1_3 a1_4 a1_5 a1_6 : Int} {a1_7 : Sl} {a2_0 a2_1 a2_2 a2_3 a2_4 : Int} {w : World} {K : Value → World → Prop} (h : W115 a0_0 a0_1 a0_2 a0_3 a1_0 a1_1 a1_2 a1_3 a1_4 a1_5 a1_6 a1_7 a2_0 a2_1 a2_2 a2_3 a2_4 w K) : CallW Try.prog 115 #[.agg #[.int .i64 a0_0, .slice a0_1.a a0_1.len a0_1.cap, .slice a0_2.a a0_2.len a0_2.cap, .slice a0_3.a a0_3.len a0_3.cap], .agg #[.int .i64 a1_0, .int .i64 a1_1, .int .i64 a1_2, .int .i64 a1_3, .int .i64 a1_4, .int .i64 a1_5, .int .i64 a1_6, .slice a1_7.a a1_7.len a1_7.cap], .agg #[.int .i64 a2_0, .int .i64 a2_1, .int .i64 a2_2, .int .i64 a2_3, .int .i64 a2_4]] w K :=
  .inl ⟨ok115, denFn_sound tt_ok mix Try.func115 (by kernel_rfl) (eq115 a0_0 a0_1 a0_2 a0_3 a1_0 a1_1 a1_2 a1_3 a1_4 a1_5 a1_6 a1_7 a2_0 a2_1 a2_2 a2_3 a2_4 w K ▸ h)⟩

def an116 : Ann := (aq (aq (aS (aq (.in_ (.loop 54 [(6, .slice), (7, .int .i64)] (aS (aq (.cond aL aL)) (aS (.in_ (aS (.draw [0, 0, 2, 0, 14, 30, 62, 0, 255, 511] [0, 1, 2, 3, 4, 5, 6, 7, 8, 9]) (.cond aL aL))) aL))))) (aq (aq (aq aL))))))
def W116 (a0_0 : Int) (a0_1 a0_2 a0_3 : Sl) (a1 : Int) (w : World) (K : Value → World → Prop) : Prop :=
  qA w #[qI a0_0, qS a0_1, qS a0_2, qS a0_3] 33 fun w1 => qA w1 #[qI 0, .slice none 0 0, .slice none 0 0, .slice none 0 0] 33 fun w2 => qA w2 #[qI 0, qI 0, .slice none 0 0, qI 0] 63 fun w3 => qA w3 #[] 67 fun w4 => LoopW [.slice, .int .i64] (fun J7 => fun (l5 : Sl) (n6 : Int) w8 => ql w8 (qP w 2) fun l9 => BIf (decide (n6 < ((l9.len : Nat) : Int))) (qn w8.drew (qP w 0) fun n10 => ql w8.drew (qP w 1) fun l11 => ql w8.drew (qP w 2) fun l12 => ql w8.drew (qP w 3) fun l13 => ql w8.drew (qP w 2) fun l14 => 0 ≤ n6 ∧ n6 < ((l14.len : Nat) : Int) ∧ ∃ q15 : Addr, (l14.a : Option Addr) = some q15 ∧ ∃ n16, w8.drew.cell? ((q15.add (Int.toNat n6 * 5)).add 0) = some (qI n16) ∧ qb 65 #[.agg #[qI n10, qS l11, qS l12, qS l13], qI n16, qI a1] w8.drew fun b19 w18 => BIf (!b19) (ql w18 (qP w 2) fun l20 => 0 ≤ n6 ∧ n6 < ((l20.len : Nat) : Int) ∧ ∃ q21 : Addr, (l20.a : Option Addr) = some q21 ∧ ∃ n22, w18.cell? ((q21.add (Int.toNat n6 * 5)).add 0) = some (qI n22) ∧ ∃ n23, w18.cell? ((q21.add (Int.toNat n6 * 5)).add 1) = some (qI n23) ∧ ∃ n24, w18.cell? ((q21.add (Int.toNat n6 * 5)).add 2) = some (qI n24) ∧ ∃ n25, w18.cell? ((q21.add (Int.toNat n6 * 5)).add 3) = some (qI n25) ∧ ∃ n26, w18.cell? ((q21.add (Int.toNat n6 * 5)).add 4) = some (qI n26) ∧ qA w18 #[qI n22, qI n23, qI n24, qI n25, qI n26] 67 fun w27 => AppendW 67 ti67 l5 ⟨some (qP w18 0), 1, 1⟩ w27 fun l28 w29 => J7 l28 (qR (n6 + 1)) w29) (J7 l5 (qR (n6 + 1)) w18)) (ql w8 (qP w 2) fun l30 => May w8 (qP w 2) ∧ LetW (w8.setCell (qP w 2) (qS l5)) fun w31 => qn w31 (qP w 0) fun n32 => ql w31 (qP w 1) fun l33 => ql w31 (qP w 2) fun l34 => ql w31 (qP w 3) fun l35 => qU w31 (qP w1 0) 4 [qI n32, qS l33, qS l34, qS l35] fun w36 => qU w36 (qP w2 0) 4 [qI 0, qI (qR (((l30.len : Nat) : Int) - ((l5.len : Nat) : Int))), .slice none 0 0, qI 0] fun w37 => qn w37 (qP w1 0) fun n38 => ql w37 (qP w1 1) fun l39 => ql w37 (qP w1 2) fun l40 => ql w37 (qP w1 3) fun l41 => qn w37 (qP w2 0) fun n42 => qn w37 (qP w2 1) fun n43 => ql w37 (qP w2 2) fun l44 => qn w37 (qP w2 3) fun n45 => K (.tuple #[.agg #[qI n38, qS l39, qS l40, qS l41], .agg #[qI n42, qI n43, qS l44, qI n45]]) w37)) ((⟨some (qP w3 0), 0, 0⟩ : Sl), ((0 : Int), ())) w4
theorem eq116 (a0_0 : Int) (a0_1 a0_2 a0_3 : Sl) (a1 : Int) (w : World) (K : Value → World → Prop) : denFn Try.prog tt Try.f116 an116 [.agg #[.int .i64 a0_0, .slice a0_1.a a0_1.len a0_1.cap, .slice a0_2.a a0_2.len a0_2.cap, .slice a0_3.a a0_3.len a0_3.cap], .int .i64 a1] w K = W116 a0_0 a0_1 a0_2 a0_3 a1 w K := by kernel_rfl
theorem ok116 : OkFn Try.prog 116 := ⟨Try.f116, Try.func116, by kernel_rfl, by kernel_rfl⟩
theorem go116 {a0_0 : Int} {a0_1 a0_2 a0_3 : Sl} {a1 : Int} {w : World} {K : Value → World → Prop} (h : W116 a0_0 a0_1 a0_2 a0_3 a1 w K) : CallW Try.prog 116 #[.agg #[.int .i64 a0_0, .slice a0_1.a a0_1.len a0_1.cap, .slice a0_2.a a0_2.len a0_2.cap, .slice a0_3.a a0_3.len a0_3.cap], .int .i64 a1] w K :=
  .inl ⟨ok116, denFn_sound tt_ok mix Try.func116 (by kernel_rfl) (eq116 a0_0 a0_1 a0_2 a0_3 a1 w K ▸ h)⟩

def an117 : Ann := (aq (aS (aq (.cond (aq aL) aL)) (aS (aq (.cond (aq aL) aL)) (.join 248 [] (aq (.cond (aq (aS (.join 504 [(47, .bool)] (.draw [0, 1, 3, 7, 15, 7, 63, 127, 255, 7, 519, 2047, 4095] [0, 1, 2, 3, 4, 5, 6, 7, 8, 9, 10, 11, 12]) (.cond (aq aL) aL)) (aq (.cond (aq aL) aL)))) aL)) (aq (aS (aq (.in_ (.loop 248 [(9, .bool), (10, .int .i64)] (aS (aq (.cond aL aL)) (aS (.in_ (.draw [0, 1, 3, 7, 3, 31, 63, 127, 3, 259, 1023, 2047, 4095, 8191, 4095, 32767, 65535, 131071, 262143, 524287, 1048575, 2097151] [0, 1, 2, 3, 4, 5, 6, 7, 8, 9, 10, 11, 12, 13, 14, 15, 16, 17, 18, 19, 20, 21])) aL))))) (aS (aq (.cond (aq aL) aL)) (aq (aS (aq (.cond (aq aL) aL)) (aS (.draw [0, 1, 0, 0, 8, 0, 56, 120, 248, 0, 512, 0, 0, 4096, 14336, 0, 32768, 130560, 261632, 524280, 1048575, 2097151, 4194303] [0, 1, 2, 3, 4, 5, 6, 7, 8, 9, 10, 12, 13, 15, 16, 11, 14, 17, 18, 19, 20, 21, 22]) (aq aL)))))))))))
def H117_2 (w25 : World) (y1 y2 : Nat) (K : Value → World → Prop) : Prop :=
  qn w25 (qQ y1 0) fun n26 => ql w25 (qQ y1 1) fun l27 => ql w25 (qQ y1 2) fun l28 => ql w25 (qQ y1 3) fun l29 => qn w25 (qQ y2 0) fun n30 => qn w25 (qQ y2 1) fun n31 => ql w25 (qQ y2 2) fun l32 => qn w25 (qQ y2 3) fun n33 => K (.tuple #[.agg #[qI n26, qS l27, qS l28, qS l29], .agg #[qI n30, qI n31, qS l32, qI n33]]) w25
def H117_1 (v14 : Value) (w15 : World) (y2 y3 : Nat) (K : Value → World → Prop) : Prop :=
  ∃ n16 l17 l18 l19 n20 n21 l22 n23, v14 = .tuple #[.agg #[qI n16, qS l17, qS l18, qS l19], .agg #[qI n20, qI n21, qS l22, qI n23]] ∧ qU w15 (qQ y2 0) 4 [qI n16, qS l17, qS l18, qS l19] fun w24 => qU w24 (qQ y3 0) 4 [qI n20, qI n21, qS l22, qI n23] fun w25 => H117_2 w25 y2 y3 K
def H117_0 (w8 : World) (y1 : Nat) (f95 : FuncId) (y3 y4 : Nat) (K : Value → World → Prop) : Prop :=
  qn w8 (qQ y1 0) fun n10 => ql w8 (qQ y1 1) fun l11 => ql w8 (qQ y1 2) fun l12 => ql w8 (qQ y1 3) fun l13 => qC f95 #[.agg #[qI n10, qS l11, qS l12, qS l13], qI 2] w8 fun v14 w15 => H117_1 v14 w15 y3 y4 K
def H117_3 (w142 : World) (q137 : Addr) (n107 : Int) (l138 : Sl) : Prop :=
  ∃ l146, w142.cell? ((q137.add (Int.toNat n107 * 2)).add 1) = some (qS l146) ∧ (qS l146 : Value) = (qS l138 : Value)
def H117_4 (w142 : World) (y1 : Nat) (l136 : Sl) : Prop :=
  ql w142 (qQ y1 1) fun l147 => (qS l147 : Value) = (qS l136 : Value)
def W117 (a0_0 : Int) (a0_1 a0_2 a0_3 : Sl) (a1_0 a1_1 a1_2 a1_3 a1_4 a1_5 a1_6 : Int) (a1_7 : Sl) (a2_0 a2_1 a2_2 a2_3 a2_4 : Int) (w : World) (K : Value → World → Prop) : Prop :=
  qA w #[qI a0_0, qS a0_1, qS a0_2, qS a0_3] 33 fun w1 => qA w1 #[qI a1_0, qI a1_1, qI a1_2, qI a1_3, qI a1_4, qI a1_5, qI a1_6, qS a1_7] 61 fun w2 => qA w2 #[qI a2_0, qI a2_1, qI a2_2, qI a2_3, qI a2_4] 67 fun w3 => qA w3 #[qI 0, .slice none 0 0, .slice none 0 0, .slice none 0 0] 33 fun w4 => qA w4 #[qI 0, qI 0, .slice none 0 0, qI 0] 63 fun w5 => qn w5 (qP w2 3) fun n6 => qb 87 #[qI 1, qI n6] w5 fun b9 w8 => BIf (!b9) (H117_0 w8 w.heap.size 95 w3.heap.size w4.heap.size K) (ql w8 (qP w1 7) fun l34 => BIf (decide ((((l34.len : Nat) : Int) : Int) > 64)) (qn w8 (qP w 0) fun n35 => ql w8 (qP w 1) fun l36 => ql w8 (qP w 2) fun l37 => ql w8 (qP w 3) fun l38 => qC 95 #[.agg #[qI n35, qS l36, qS l37, qS l38], qI 16] w8 fun v39 w40 => H117_1 v39 w40 w3.heap.size w4.heap.size K) (JoinW [] (fun J59 => qn w8 (qP w1 5) fun n179 => BIf (n179 != 0) (qn w8 (qP w 0) fun n180 => ql w8 (qP w 1) fun l181 => ql w8 (qP w 2) fun l182 => ql w8 (qP w 3) fun l183 => qn w8 (qP w1 5) fun n184 => qi 86 #[.agg #[qI n180, qS l181, qS l182, qS l183], qI n184] w8 fun n187 w186 => JoinW [.bool] (fun J189 => BIf (decide (n187 < 0)) (J189 true w186.drew) (ql w186.drew (qP w 2) fun l245 => 0 ≤ n187 ∧ n187 < ((l245.len : Nat) : Int) ∧ ∃ q246 : Addr, (l245.a : Option Addr) = some q246 ∧ ∃ n247, w186.drew.cell? ((q246.add (Int.toNat n187 * 5)).add 1) = some (qI n247) ∧ qn w186.drew (qP w1 1) fun n248 => J189 (n247 != n248) w186.drew)) (fun (b188 : Bool) w190 => BIf b188 (qn w190 (qP w 0) fun n191 => ql w190 (qP w 1) fun l192 => ql w190 (qP w 2) fun l193 => ql w190 (qP w 3) fun l194 => qC 95 #[.agg #[qI n191, qS l192, qS l193, qS l194], qI 5] w190 fun v195 w196 => H117_1 v195 w196 w3.heap.size w4.heap.size K) (ql w190 (qP w 2) fun l215 => 0 ≤ n187 ∧ n187 < ((l215.len : Nat) : Int) ∧ ∃ q216 : Addr, (l215.a : Option Addr) = some q216 ∧ ∃ n217, w190.cell? ((q216.add (Int.toNat n187 * 5)).add 3) = some (qI n217) ∧ qb 87 #[qI 4, qI n217] w190 fun b220 w219 => BIf (!b220) (H117_0 w219 w.heap.size 95 w3.heap.size w4.heap.size K) (J59 w219)))) (J59 w8)) (fun w60 => LoopW [.bool, .int .i64] (fun J63 => fun (b61 : Bool) (n62 : Int) w64 => ql w64 (qP w 2) fun l65 => BIf (decide (n62 < ((l65.len : Nat) : Int))) (BIf b61 (J63 true (qR (n62 + 1)) w64.drew) (ql w64.drew (qP w 2) fun l66 => 0 ≤ n62 ∧ n62 < ((l66.len : Nat) : Int) ∧ ∃ q67 : Addr, (l66.a : Option Addr) = some q67 ∧ ∃ n68, w64.drew.cell? ((q67.add (Int.toNat n62 * 5)).add 2) = some (qI n68) ∧ qn w64.drew (qP w2 2) fun n69 => BIf (n68 == n69) (ql w64.drew (qP w 2) fun l70 => 0 ≤ n62 ∧ n62 < ((l70.len : Nat) : Int) ∧ ∃ q71 : Addr, (l70.a : Option Addr) = some q71 ∧ ∃ n72, w64.drew.cell? ((q71.add (Int.toNat n62 * 5)).add 3) = some (qI n72) ∧ qb 87 #[qI 2, qI n72] w64.drew fun b75 w74 => J63 b75 (qR (n62 + 1)) w74) (J63 false (qR (n62 + 1)) w64.drew))) (BIf (!b61) (qn w64 (qP w 0) fun n76 => ql w64 (qP w 1) fun l77 => ql w64 (qP w 2) fun l78 => ql w64 (qP w 3) fun l79 => qC 95 #[.agg #[qI n76, qS l77, qS l78, qS l79], qI 10] w64 fun v80 w81 => H117_1 v80 w81 w3.heap.size w4.heap.size K) (qn w64 (qP w 0) fun n100 => ql w64 (qP w 1) fun l101 => ql w64 (qP w 2) fun l102 => ql w64 (qP w 3) fun l103 => qn w64 (qP w2 2) fun n104 => qi 85 #[.agg #[qI n100, qS l101, qS l102, qS l103], qI n104] w64 fun n107 w106 => ql w106 (qP w 1) fun l108 => 0 ≤ n107 ∧ n107 < ((l108.len : Nat) : Int) ∧ ∃ q109 : Addr, (l108.a : Option Addr) = some q109 ∧ ∃ l110, w106.cell? ((q109.add (Int.toNat n107 * 2)).add 1) = some (qS l110) ∧ BIf (decide ((((l110.len : Nat) : Int) : Int) ≥ 8)) (qn w106 (qP w 0) fun n111 => ql w106 (qP w 1) fun l112 => ql w106 (qP w 2) fun l113 => ql w106 (qP w 3) fun l114 => qC 95 #[.agg #[qI n111, qS l112, qS l113, qS l114], qI 9] w106 fun v115 w116 => H117_1 v115 w116 w3.heap.size w4.heap.size K) (ql w106.drew (qP w 1) fun l135 => ql w106.drew (qP w 1) fun l136 => 0 ≤ n107 ∧ n107 < ((l136.len : Nat) : Int) ∧ ∃ q137 : Addr, (l136.a : Option Addr) = some q137 ∧ ∃ l138, w106.drew.cell? ((q137.add (Int.toNat n107 * 2)).add 1) = some (qS l138) ∧ qn w106.drew (qP w1 1) fun n139 => ql w106.drew (qP w1 7) fun l140 => qn w106.drew (qP w1 5) fun n141 => qA w106.drew #[] 5 fun w142 => (qn w142 (qP w1 5) fun n143 => (qI n143 : Value) = (qI n141 : Value)) ∧ (ql w142 (qP w1 7) fun l144 => (qS l144 : Value) = (qS l140 : Value)) ∧ (qn w142 (qP w1 1) fun n145 => (qI n145 : Value) = (qI n139 : Value)) ∧ (H117_3 w142 q137 n107 l138) ∧ (H117_4 w142 w.heap.size l136) ∧ (H117_4 w142 w.heap.size l135) ∧ AppendW 5 ti5 ⟨some (qP w106.drew 0), 0, 0⟩ l140 w142 fun l149 w150 => (qn w150 (qP w1 5) fun n151 => (qI n151 : Value) = (qI n141 : Value)) ∧ (qn w150 (qP w1 1) fun n152 => (qI n152 : Value) = (qI n139 : Value)) ∧ (H117_3 w150 q137 n107 l138) ∧ (H117_4 w150 w.heap.size l136) ∧ (H117_4 w150 w.heap.size l135) ∧ qA w150 #[qI n139, qS l149, qI n141] 95 fun w156 => (H117_3 w156 q137 n107 l138) ∧ (H117_4 w156 w.heap.size l136) ∧ (H117_4 w156 w.heap.size l135) ∧ AppendW 95 ti95 l138 ⟨some (qP w150 0), 1, 1⟩ w156 fun l160 w161 => (H117_4 w161 w.heap.size l135) ∧ 0 ≤ n107 ∧ n107 < ((l135.len : Nat) : Int) ∧ ∃ q163 : Addr, (l135.a : Option Addr) = some q163 ∧ May w161 ((q163.add (Int.toNat n107 * 2)).add 1) ∧ LetW (w161.setCell ((q163.add (Int.toNat n107 * 2)).add 1) (qS l160)) fun w164 => qn w164 (qP w 0) fun n165 => ql w164 (qP w 1) fun l166 => ql w164 (qP w 2) fun l167 => ql w164 (qP w 3) fun l168 => qU w164 (qP w3 0) 4 [qI n165, qS l166, qS l167, qS l168] fun w169 => qU w169 (qP w4 0) 4 [qI 0, qI 0, .slice none 0 0, qI 0] fun w170 => H117_2 w170 w3.heap.size w4.heap.size K)))) ((false : Bool), ((0 : Int), ())) w60)))
theorem eq117 (a0_0 : Int) (a0_1 a0_2 a0_3 : Sl) (a1_0 a1_1 a1_2 a1_3 a1_4 a1_5 a1_6 : Int) (a1_7 : Sl) (a2_0 a2_1 a2_2 a2_3 a2_4 : Int) (w : World) (K : Value → World → Prop) : denFn Try.prog tt Try.f117 an117 [.agg #[.int .i64 a0_0, .slice a0_1.a a0_1.len a0_1.cap, .slice a0_2.a a0_2.len a0_2.cap, .slice a0_3.a a0_3.len a0_3.cap], .agg #[.int .i64 a1_0, .int .i64 a1_1, .int .i64 a1_2, .int .i64 a1_3, .int .i64 a1_4, .int .i64 a1_5, .int .i64 a1_6, .slice a1_7.a a1_7.len a1_7.cap], .agg #[.int .i64 a2_0, .int .i64 a2_1, .int .i64 a2_2, .int .i64 a2_3, .int .i64 a2_4]] w K = W117 a0_0 a0_1 a0_2 a0_3 a1_0 a1_1 a1_2 a1_3 a1_4 a1_5 a1_6 a1_7 a2_0 a2_1 a2_2 a2_3 a2_4 w K := by kernel_rfl
theorem ok117 : OkFn Try.prog 117 := ⟨Try.f117, Try.func117, by kernel_rfl, by kernel_rfl⟩
theorem go117 {a0_0 : Int} {a0_1 a0_2 a0_3 : Sl} {a1_0 a1_1 a1_2 a1_3 a1_4 a1_5 a1_6 : Int} {a1_7 : Sl} {a2_0 a2_1 a2_2 a2_3 a2_4 : Int} {w : World} {K : Value → World → Prop} (h : W117 a0_0 a0_1 a0_2 a0_3 a1_0 a1_1 a1_2 a1_3 a1_4 a1_5 a1_6 a1_7 a2_0 a2_1 a2_2 a2_3 a2_4 w K) : CallW Try.prog 117 #[.agg #[.int .i64 a0_0, .slice a0_1.a a0_1.len a0_1.cap, .slice a0_2.a a0_2.len a0_2.cap, .slice a0_3.a a0_3.len a0_3.cap], .agg #[.int .i64 a1_0, .int .i64 a1_1, .int .i64 a1_2, .int .i64 a1_3, .int .i64 a1_4, .int .i64 a1_5, .int .i64 a1_6, .slice a1_7.a a1_7.len a1_7.cap], .agg #[.int .i64 a2_0, .int .i64 a2_1, .int .i64 a2_2, .int .i64 a2_3, .int .i64 a2_4]] w K :=
  .inl ⟨ok117, denFn_sound tt_ok mix Try.func117 (by kernel_rfl) (eq117 a0_0 a0_1 a0_2 a0_3 a1_0 a1_1 a1_2 a1_3 a1_4 a1_5 a1_6 a1_7 a2_0 a2_1 a2_2 a2_3 a2_4 w K ▸ h)⟩

def an118 : Ann := (.seq .leaf (.seq (.seq .leaf (.cond (.seq .leaf .leaf) .leaf)) (.seq .leaf (.seq (.seq .leaf (.cond (.seq .leaf .leaf) .leaf)) (.seq .leaf (.seq (.draw [0, 1, 0, 0, 0, 16, 0, 112, 240, 496, 1008, 2040, 4095, 8191, 16383] [0, 1, 2, 4, 5, 6, 7, 8, 9, 10, 3, 11, 12, 13, 14]) (.join 728 [(10, .ptr)] (.drawT [0, 0, 2, 7, 0, 16, 63, 0, 255] [1, 2, 4, 5] (.alt [0] (.alt [3, 6] (.alt [7] (.alt [8] .leaf .stop) .stop) (.alt [7] (.alt [3, 6] (.alt [8] .leaf .stop) .stop) .stop)) (.alt [7] (.alt [0] (.alt [3, 6] (.alt [8] .leaf .stop) .stop) .stop) .stop))) (.seq .leaf (.join 1224 [] (.seq (.reg [(4, none), (3, some (3800, [(75, .bool)])), (1, none), (5, some (3800, [(81, .bool)]))]) (.cond (.seq (.draw [0, 0, 2, 0, 8, 0, 56, 120, 248, 0, 512, 0, 3584, 7680, 15872, 0, 32768, 131071, 262143] [0, 1, 2, 3, 4, 5, 6, 7, 8, 9, 10, 11, 12, 13, 14, 15, 16, 17, 18]) .leaf) .leaf)) (.seq (.draw [0, 0, 1, 7] [0, 1, 2, 3]) .leaf))))))))))
def H118_1 (w24 : World) (y1 : Nat) (n20 n21 : Int) (l22 : Sl) (n23 : Int) (y6 : Nat) (K : Value → World → Prop) : Prop :=
  qU w24 (qQ y1 0) 4 [qI n20, qI n21, qS l22, qI n23] fun w25 => qn w25 (qQ y6 0) fun n26 => ql w25 (qQ y6 1) fun l27 => ql w25 (qQ y6 2) fun l28 => ql w25 (qQ y6 3) fun l29 => qn w25 (qQ y1 0) fun n30 => qn w25 (qQ y1 1) fun n31 => ql w25 (qQ y1 2) fun l32 => qn w25 (qQ y1 3) fun n33 => K (.tuple #[.agg #[qI n26, qS l27, qS l28, qS l29], .agg #[qI n30, qI n31, qS l32, qI n33]]) w25
def H118_0 (v14 : Value) (w15 : World) (y2 y3 : Nat) (K : Value → World → Prop) : Prop :=
  ∃ n16 l17 l18 l19 n20 n21 l22 n23, v14 = .tuple #[.agg #[qI n16, qS l17, qS l18, qS l19], .agg #[qI n20, qI n21, qS l22, qI n23]] ∧ qU w15 (qQ y2 0) 4 [qI n16, qS l17, qS l18, qS l19] fun w24 => H118_1 w24 y3 n20 n21 l22 n23 y2 K
def H118_2 (w82 : World) (y1 : Nat) (l79 : Sl) : Prop :=
  ql w82 (qQ y1 1) fun l84 => (qS l84 : Value) = (qS l79 : Value)
def H118_3 (w170 : World) (y1 : Nat) (n159 : Int) : Prop :=
  qn w170 (qQ y1 0) fun n171 => (qI n171 : Value) = (qI n159 : Value)
def H118_4 (w173 : World) (y1 : Nat) (n159 : Int) (l158 : Sl) (y4 y5 : Nat) (J92 : Option Addr → World → Prop) : Prop :=
  (H118_3 w173 y1 n159) ∧ (H118_2 w173 y1 l158) ∧ (AppendW 5 ti5 ⟨some (qQ y4 0), 0, 0⟩ l158 w173 fun l176 w177 => (H118_3 w177 y1 n159) ∧ (qU w177 (qQ y5 0) 4 [qI 0, qI 0, qS l176, qI n159] fun w179 => J92 (some (qQ y5 0)) w179) ∧ (True)) ∧ (True)
def W118 (a0_0 : Int) (a0_1 a0_2 a0_3 : Sl) (a1_0 a1_1 a1_2 a1_3 a1_4 a1_5 a1_6 : Int) (a1_7 : Sl) (a2_0 a2_1 a2_2 a2_3 a2_4 : Int) (w : World) (K : Value → World → Prop) : Prop :=
  qA w #[qI a0_0, qS a0_1, qS a0_2, qS a0_3] 33 fun w1 => qA w1 #[qI a1_0, qI a1_1, qI a1_2, qI a1_3, qI a1_4, qI a1_5, qI a1_6, qS a1_7] 61 fun w2 => qA w2 #[qI a2_0, qI a2_1, qI a2_2, qI a2_3, qI a2_4] 67 fun w3 => qA w3 #[qI 0, .slice none 0 0, .slice none 0 0, .slice none 0 0] 33 fun w4 => qA w4 #[qI 0, qI 0, .slice none 0 0, qI 0] 63 fun w5 => qn w5 (qP w2 3) fun n6 => qb 87 #[qI 2, qI n6] w5 fun b9 w8 => BIf (!b9) (qn w8 (qP w 0) fun n10 => ql w8 (qP w 1) fun l11 => ql w8 (qP w 2) fun l12 => ql w8 (qP w 3) fun l13 => qC 95 #[.agg #[qI n10, qS l11, qS l12, qS l13], qI 2] w8 fun v14 w15 => H118_0 v14 w15 w3.heap.size w4.heap.size K) (qn w8 (qP w 0) fun n34 => ql w8 (qP w 1) fun l35 => ql w8 (qP w 2) fun l36 => ql w8 (qP w 3) fun l37 => qn w8 (qP w2 2) fun n38 => qi 85 #[.agg #[qI n34, qS l35, qS l36, qS l37], qI n38] w8 fun n41 w40 => ql w40 (qP w 1) fun l42 => 0 ≤ n41 ∧ n41 < ((l42.len : Nat) : Int) ∧ ∃ q43 : Addr, (l42.a : Option Addr) = some q43 ∧ ∃ l44, w40.cell? ((q43.add (Int.toNat n41 * 2)).add 1) = some (qS l44) ∧ BIf ((((l44.len : Nat) : Int) : Int) == 0) (qn w40 (qP w 0) fun n45 => ql w40 (qP w 1) fun l46 => ql w40 (qP w 2) fun l47 => ql w40 (qP w 3) fun l48 => qC 95 #[.agg #[qI n45, qS l46, qS l47, qS l48], qI 9] w40 fun v49 w50 => H118_0 v49 w50 w3.heap.size w4.heap.size K) (ql w40 (qP w 1) fun l69 => 0 ≤ n41 ∧ n41 < ((l69.len : Nat) : Int) ∧ ∃ q70 : Addr, (l69.a : Option Addr) = some q70 ∧ ∃ l71, w40.cell? ((q70.add (Int.toNat n41 * 2)).add 1) = some (qS l71) ∧ 0 ≤ (0 : Int) ∧ (0 : Int) < ((l71.len : Nat) : Int) ∧ ∃ q72 : Addr, (l71.a : Option Addr) = some q72 ∧ ∃ n73, w40.cell? ((q72.add (Int.toNat 0 * 3)).add 0) = some (qI n73) ∧ ∃ l74, w40.cell? ((q72.add (Int.toNat 0 * 3)).add 1) = some (qS l74) ∧ ∃ n75, w40.cell? ((q72.add (Int.toNat 0 * 3)).add 2) = some (qI n75) ∧ qA w40 #[qI 0, .slice none 0 0, qI 0] 95 fun w76 => qU w76 (qP w40 0) 3 [qI n73, qS l74, qI n75] fun w77 => ql w77.drew (qP w 1) fun l78 => ql w77.drew (qP w 1) fun l79 => 0 ≤ n41 ∧ n41 < ((l79.len : Nat) : Int) ∧ ∃ q80 : Addr, (l79.a : Option Addr) = some q80 ∧ ∃ l81, w77.drew.cell? ((q80.add (Int.toNat n41 * 2)).add 1) = some (qS l81) ∧ 0 ≤ (1 : Int) ∧ (1 : Int) ≤ ((l81.len : Nat) : Int) ∧ qA w77.drew #[] 95 fun w82 => (∃ l83, w82.cell? ((q80.add (Int.toNat n41 * 2)).add 1) = some (qS l83) ∧ (qS l83 : Value) = (qS l81 : Value)) ∧ (H118_2 w82 w.heap.size l79) ∧ (H118_2 w82 w.heap.size l78) ∧ AppendW 95 ti95 ⟨some (qP w77.drew 0), 0, 0⟩ ⟨cutA l81.a l81.cap (Int.toNat 1) 3, Int.toNat ((l81.len : Nat) : Int) - Int.toNat 1, l81.cap - Int.toNat 1⟩ w82 fun l86 w87 => (H118_2 w87 w.heap.size l78) ∧ 0 ≤ n41 ∧ n41 < ((l78.len : Nat) : Int) ∧ ∃ q89 : Addr, (l78.a : Option Addr) = some q89 ∧ May w87 ((q89.add (Int.toNat n41 * 2)).add 1) ∧ LetW (w87.setCell ((q89.add (Int.toNat n41 * 2)).add 1) (qS l86)) fun w90 => JoinW [.ptr] (fun J92 => ql w90.drew (qP w40 1) fun l158 => qn w90.drew (qP w40 0) fun n159 => (qA w90.drew #[] 5 fun w170 => (H118_3 w170 w40.heap.size n159) ∧ (H118_2 w170 w40.heap.size l158) ∧ (AppendW 5 ti5 ⟨some (qP w90.drew 0), 0, 0⟩ l158 w170 fun l180 w181 => (H118_3 w181 w40.heap.size n159) ∧ (qA w181 #[qI 0, qI 0, .slice none 0 0, qI 0] 63 fun w183 => (H118_3 w183 w40.heap.size n159) ∧ (H118_2 w183 w40.heap.size l158) ∧ (qU w183 (qP w181 0) 4 [qI 0, qI 0, qS l180, qI n159] fun w186 => J92 (some (qP w181 0)) w186) ∧ (True)) ∧ (True)) ∧ ((qA w170 #[qI 0, qI 0, .slice none 0 0, qI 0] 63 fun w173 => H118_4 w173 w40.heap.size n159 l158 w90.drew.heap.size w170.heap.size J92) ∧ (True))) ∧ ((qA w90.drew #[qI 0, qI 0, .slice none 0 0, qI 0] 63 fun w160 => (H118_3 w160 w40.heap.size n159) ∧ (H118_2 w160 w40.heap.size l158) ∧ (qA w160 #[] 5 fun w163 => H118_4 w163 w40.heap.size n159 l158 w160.heap.size w90.drew.heap.size J92) ∧ (True)) ∧ (True))) (fun (p91 : Option Addr) w93 => qn w93 (qP w 0) fun n94 => ql w93 (qP w 1) fun l95 => ql w93 (qP w 2) fun l96 => ql w93 (qP w 3) fun l97 => qn w93 (qP w40 2) fun n98 => qi 86 #[.agg #[qI n94, qS l95, qS l96, qS l97], qI n98] w93 fun n101 w100 => JoinW [] (fun J102 => qn w100 (qP w40 2) fun n128 => JoinW [.bool] (fun J130 => BIf (decide (n128 > 0)) (J130 (decide (n101 ≥ 0)) w100) (J130 false w100)) (fun (b129 : Bool) w131 => JoinW [.bool] (fun J133 => BIf b129 (ql w131 (qP w 2) fun l157 => J133 (decide ((((l157.len : Nat) : Int) : Int) < 128)) w131) (J133 false w131)) (fun (b132 : Bool) w134 => BIf b132 (qn w134.drew (qP w 0) fun n135 => ql w134.drew (qP w 1) fun l136 => ql w134.drew (qP w 2) fun l137 => ql w134.drew (qP w 3) fun l138 => qn w134.drew (qP w1 1) fun n139 => ql w134.drew (qP w 2) fun l140 => 0 ≤ n101 ∧ n101 < ((l140.len : Nat) : Int) ∧ ∃ q141 : Addr, (l140.a : Option Addr) = some q141 ∧ ∃ n142, w134.drew.cell? ((q141.add (Int.toNat n101 * 5)).add 2) = some (qI n142) ∧ ql w134.drew (qP w 2) fun l143 => 0 ≤ n101 ∧ n101 < ((l143.len : Nat) : Int) ∧ ∃ q144 : Addr, (l143.a : Option Addr) = some q144 ∧ ∃ n145, w134.drew.cell? ((q144.add (Int.toNat n101 * 5)).add 3) = some (qI n145) ∧ qn w134.drew (qP w40 2) fun n146 => qC 96 #[.agg #[qI n135, qS l136, qS l137, qS l138], qI n139, qI n142, qI n145, qI n146] w134.drew fun v147 w148 => ∃ n149 l150 l151 l152, v147 = .agg #[qI n149, qS l150, qS l151, qS l152] ∧ qU w148 (qP w 0) 4 [qI n149, qS l150, qS l151, qS l152] fun w153 => qn w153 (qP w 0) fun n154 => addrOf (some (.pointer p91)) fun p155 => May w153 (p155.add 1) ∧ LetW (w153.setCell (p155.add 1) (qI n154)) fun w156 => J102 w156) (J102 w134)))) (fun w103 => qn w103.drew (qP w 0) fun n104 => ql w103.drew (qP w 1) fun l105 => ql w103.drew (qP w 2) fun l106 => ql w103.drew (qP w 3) fun l107 => addrOf (some (.pointer p91)) fun p108 => ∃ n109, w103.drew.cell? (p108.add 0) = some (qI n109) ∧ ∃ n110, w103.drew.cell? (p108.add 1) = some (qI n110) ∧ ∃ l111, w103.drew.cell? (p108.add 2) = some (qS l111) ∧ ∃ n112, w103.drew.cell? (p108.add 3) = some (qI n112) ∧ qU w103.drew (qP w3 0) 4 [qI n104, qS l105, qS l106, qS l107] fun w113 => (addrOf (some (.pointer p91)) fun p114 => ∃ n115, w113.cell? (p114.add 0) = some (qI n115) ∧ ∃ n116, w113.cell? (p114.add 1) = some (qI n116) ∧ ∃ l117, w113.cell? (p114.add 2) = some (qS l117) ∧ ∃ n118, w113.cell? (p114.add 3) = some (qI n118) ∧ (.agg #[qI n115, qI n116, qS l117, qI n118] : Value) = (.agg #[qI n109, qI n110, qS l111, qI n112] : Value)) ∧ H118_1 w113 w4.heap.size n109 n110 l111 n112 w3.heap.size K))))
theorem eq118 (a0_0 : Int) (a0_1 a0_2 a0_3 : Sl) (a1_0 a1_1 a1_2 a1_3 a1_4 a1_5 a1_6 : Int) (a1_7 : Sl) (a2_0 a2_1 a2_2 a2_3 a2_4 : Int) (w : World) (K : Value → World → Prop) : denFn Try.prog tt Try.f118 an118 [.agg #[.int .i64 a0_0, .slice a0_1.a a0_1.len a0_1.cap, .slice a0_2.a a0_2.len a0_2.cap, .slice a0_3.a a0_3.len a0_3.cap], .agg #[.int .i64 a1_0, .int .i64 a1_1, .int .i64 a1_2, .int .i64 a1_3, .int .i64 a1_4, .int .i64 a1_5, .int .i64 a1_6, .slice a1_7.a a1_7.len a1_7.cap], .agg #[.int .i64 a2_0, .int .i64 a2_1, .int .i64 a2_2, .int .i64 a2_3, .int .i64 a2_4]] w K = W118 a0_0 a0_1 a0_2 a0_3 a1_0 a1_1 a1_2 a1_3 a1_4 a1_5 a1_6 a1_7 a2_0 a2_1 a2_2 a2_3 a2_4 w K := by kernel_rfl
theorem ok118 : OkFn Try.prog 118 := ⟨Try.f118, Try.func118, by kernel_rfl, by kernel_rfl⟩
theorem go118 {a0_0 : Int} {a0_1 a0_2 a0_3 : Sl} {a1_0 a1_1 a1_2 a1_3 a1_4 a1_5 a1_6 : Int} {a1_7 : Sl} {a2_0 a2_1 a2_2 a2_3 a2_4 : Int} {w : World} {K : Value → World → Prop} (h : W118 a0_0 a0_1 a0_2 a0_3 a1_0 a1_1 a1_2 a1_3 a1_4 a1_5 a1_6 a1_7 a2_0 a2_1 a2_2 a2_3 a2_4 w K) : CallW Try.prog 118 #[.agg #[.int .i64 a0_0, .slice a0_1.a a0_1.len a0_1.cap, .slice a0_2.a a0_2.len a0_2.cap, .slice a0_3.a a0_3.len a0_3.cap], .agg #[.int .i64 a1_0, .int .i64 a1_1, .int .i64 a1_2, .int .i64 a1_3, .int .i64 a1_4, .int .i64 a1_5, .int .i64 a1_6, .slice a1_7.a a1_7.len a1_7.cap], .agg #[.int .i64 a2_0, .int .i64 a2_1, .int .i64 a2_2, .int .i64 a2_3, .int .i64 a2_4]] w K :=
  .inl ⟨ok118, denFn_sound tt_ok mix Try.func118 (by kernel_rfl) (eq118 a0_0 a0_1 a0_2 a0_3 a1_0 a1_1 a1_2 a1_3 a1_4 a1_5 a1_6 a1_7 a2_0 a2_1 a2_2 a2_3 a2_4 w K ▸ h)⟩

def an120 : Ann := (aq (aq aL))
def W120 (a0_0 a0_1 a0_2 a0_3 a0_4 : Int) (c0 : Addr) (w : World) (K : Value → World → Prop) : Prop :=
  qA w #[qI a0_0, qI a0_1, qI a0_2, qI a0_3, qI a0_4] 67 fun w1 => qn w1 (qP w 0) fun n2 => ∃ n3, w1.cell? c0 = some (qI n3) ∧ K (.bool (n2 != n3)) w1
theorem eq120 (a0_0 a0_1 a0_2 a0_3 a0_4 : Int) (c0 : Addr) (w : World) (K : Value → World → Prop) : denFn Try.prog tt Try.f120 an120 [.agg #[.int .i64 a0_0, .int .i64 a0_1, .int .i64 a0_2, .int .i64 a0_3, .int .i64 a0_4], .pointer (some c0)] w K = W120 a0_0 a0_1 a0_2 a0_3 a0_4 c0 w K := by kernel_rfl
theorem ok120 : OkFn Try.prog 120 := ⟨Try.f120, Try.func120, by kernel_rfl, by kernel_rfl⟩
theorem go120 {a0_0 a0_1 a0_2 a0_3 a0_4 : Int} {c0 : Addr} {w : World} {K : Value → World → Prop} (h : W120 a0_0 a0_1 a0_2 a0_3 a0_4 c0 w K) : CallW Try.prog 120 #[.agg #[.int .i64 a0_0, .int .i64 a0_1, .int .i64 a0_2, .int .i64 a0_3, .int .i64 a0_4], .pointer (some c0)] w K :=
  .inl ⟨ok120, denFn_sound tt_ok mix Try.func120 (by kernel_rfl) (eq120 a0_0 a0_1 a0_2 a0_3 a0_4 c0 w K ▸ h)⟩

def an121 : Ann := (aq (aq (aS (aq (.cond (aq aL) aL)) (aq aL))))
def W121 (a0_0 : Int) (a0_1 : Sl) (a0_2 a1 : Int) (w : World) (K : Value → World → Prop) : Prop :=
  qA w #[qI a0_0, qS a0_1, qI a0_2] 154 fun w1 => ql w1 (qP w 1) fun l2 => qi 77 #[qS l2, qI a1] w1 fun n5 w4 => BIf (decide (n5 < 0)) (K (qI (-1)) w4) (K (qI n5) w4)
theorem eq121 (a0_0 : Int) (a0_1 : Sl) (a0_2 a1 : Int) (w : World) (K : Value → World → Prop) : denFn Try.prog tt Try.f121 an121 [.agg #[.int .i64 a0_0, .slice a0_1.a a0_1.len a0_1.cap, .int .i64 a0_2], .int .i64 a1] w K = W121 a0_0 a0_1 a0_2 a1 w K := by kernel_rfl
theorem ok121 : OkFn Try.prog 121 := ⟨Try.f121, Try.func121, by kernel_rfl, by kernel_rfl⟩
theorem go121 {a0_0 : Int} {a0_1 : Sl} {a0_2 a1 : Int} {w : World} {K : Value → World → Prop} (h : W121 a0_0 a0_1 a0_2 a1 w K) : CallW Try.prog 121 #[.agg #[.int .i64 a0_0, .slice a0_1.a a0_1.len a0_1.cap, .int .i64 a0_2], .int .i64 a1] w K :=
  .inl ⟨ok121, denFn_sound tt_ok mix Try.func121 (by kernel_rfl) (eq121 a0_0 a0_1 a0_2 a1 w K ▸ h)⟩

def an122 : Ann := (aq (aq (aq (aq (aq (aq aL))))))
def W122 (a0_0 : Int) (a0_1 : Sl) (a0_2 : Int) (w : World) (K : Value → World → Prop) : Prop :=
  qA w #[qI a0_0, qS a0_1, qI a0_2] 154 fun w1 => qA w1 #[qI 0, .slice none 0 0, qI 0] 95 fun w2 => qA w2 #[qI 0, .slice none 0 0, qI 0] 95 fun w3 => qn w3 (qP w 0) fun n4 => May w3 (qP w2 0) ∧ LetW (w3.setCell (qP w2 0) (qI n4)) fun w5 => ql w5 (qP w 1) fun l6 => qC 78 #[qS l6] w5 fun v7 w8 => ∃ l9, v7 = qS l9 ∧ May w8 (qP w2 1) ∧ LetW (w8.setCell (qP w2 1) (qS l9)) fun w10 => qn w10 (qP w 2) fun n11 => May w10 (qP w2 2) ∧ LetW (w10.setCell (qP w2 2) (qI n11)) fun w12 => qn w12 (qP w2 0) fun n13 => ql w12 (qP w2 1) fun l14 => qn w12 (qP w2 2) fun n15 => qU w12 (qP w1 0) 3 [qI n13, qS l14, qI n15] fun w16 => qn w16 (qP w1 0) fun n17 => ql w16 (qP w1 1) fun l18 => qn w16 (qP w1 2) fun n19 => K (.agg #[qI n17, qS l18, qI n19]) w16
theorem eq122 (a0_0 : Int) (a0_1 : Sl) (a0_2 : Int) (w : World) (K : Value → World → Prop) : denFn Try.prog tt Try.f122 an122 [.agg #[.int .i64 a0_0, .slice a0_1.a a0_1.len a0_1.cap, .int .i64 a0_2]] w K = W122 a0_0 a0_1 a0_2 w K := by kernel_rfl
theorem ok122 : OkFn Try.prog 122 := ⟨Try.f122, Try.func122, by kernel_rfl, by kernel_rfl⟩
theorem go122 {a0_0 : Int} {a0_1 : Sl} {a0_2 : Int} {w : World} {K : Value → World → Prop} (h : W122 a0_0 a0_1 a0_2 w K) : CallW Try.prog 122 #[.agg #[.int .i64 a0_0, .slice a0_1.a a0_1.len a0_1.cap, .int .i64 a0_2]] w K :=
  .inl ⟨ok122, denFn_sound tt_ok mix Try.func122 (by kernel_rfl) (eq122 a0_0 a0_1 a0_2 w K ▸ h)⟩

def an123 : Ann := (aq (aS (aq (.cond (aq aL) aL)) (aS (aq (.cond (aq aL) aL)) (aS (aq (.cond (aq aL) aL)) (aq aL)))))
def W123 (a0_0 : Int) (a0_1 : Sl) (a0_2 a1_0 : Int) (a1_1 : Sl) (a1_2 : Int) (w : World) (K : Value → World → Prop) : Prop :=
  qA w #[qI a0_0, qS a0_1, qI a0_2] 95 fun w1 => qA w1 #[qI a1_0, qS a1_1, qI a1_2] 95 fun w2 => qn w2 (qP w 0) fun n3 => qn w2 (qP w1 0) fun n4 => BIf (n3 != n4) (K (.bool false) w2) (ql w2 (qP w 1) fun l5 => ql w2 (qP w1 1) fun l6 => qb 79 #[qS l5, qS l6] w2 fun b9 w8 => BIf (!b9) (K (.bool false) w8) (qn w8 (qP w 2) fun n10 => qn w8 (qP w1 2) fun n11 => BIf (n10 != n11) (K (.bool false) w8) (K (.bool true) w8)))
theorem eq123 (a0_0 : Int) (a0_1 : Sl) (a0_2 a1_0 : Int) (a1_1 : Sl) (a1_2 : Int) (w : World) (K : Value → World → Prop) : denFn Try.prog tt Try.f123 an123 [.agg #[.int .i64 a0_0, .slice a0_1.a a0_1.len a0_1.cap, .int .i64 a0_2], .agg #[.int .i64 a1_0, .slice a1_1.a a1_1.len a1_1.cap, .int .i64 a1_2]] w K = W123 a0_0 a0_1 a0_2 a1_0 a1_1 a1_2 w K := by kernel_rfl
theorem ok123 : OkFn Try.prog 123 := ⟨Try.f123, Try.func123, by kernel_rfl, by kernel_rfl⟩
theorem go123 {a0_0 : Int} {a0_1 : Sl} {a0_2 a1_0 : Int} {a1_1 : Sl} {a1_2 : Int} {w : World} {K : Value → World → Prop} (h : W123 a0_0 a0_1 a0_2 a1_0 a1_1 a1_2 w K) : CallW Try.prog 123 #[.agg #[.int .i64 a0_0, .slice a0_1.a a0_1.len a0_1.cap, .int .i64 a0_2], .agg #[.int .i64 a1_0, .slice a1_1.a a1_1.len a1_1.cap, .int .i64 a1_2]] w K :=
  .inl ⟨ok123, denFn_sound tt_ok mix Try.func123 (by kernel_rfl) (eq123 a0_0 a0_1 a0_2 a1_0 a1_1 a1_2 w K ▸ h)⟩

end Go.Proofs.Ytbimoajgofcmbaa

set_option maxRecDepth 100000
namespace Go.Proofs.Ytbimoajgofcmbaa
open Go Go.Den
theorem o2 : Opens Try.prog 2 (cInt .i64) := opens_int Try.underlying2
theorem o5 : Opens Try.prog 5 (cInt .u8) := opens_int Try.underlying5
theorem o57 : Opens Try.prog 57 (cSlice (cInt .u8)) := opens_slice Try.underlying57 (by kernel_rfl) o5
structure DMsg where
  From : Int
  Data : List Int
  Cap : Int
def cDMsg : Cod DMsg := cMap (cPair (cInt .i64) (cPair (cSlice (cInt .u8)) (cPair (cInt .i64) cUnit))) (fun x => ⟨x.1, x.2.1, x.2.2.1⟩)
abbrev TyMsg : Ty := .st [(.int .i64), (.sl 1 (.int .u8)), (.int .i64)]
def DMsg.dat (x : DMsg) : Dat := .st [.int .i64 x.From, .sl 1 (x.Data.map (Dat.int .u8)), .int .i64 x.Cap]
theorem cDMsg_dat {w : World} {cs : List Value} {x : DMsg} (h : cDMsg.is w cs x) : IsD w x.dat cs := by
  obtain ⟨y, rfl, ⟨a0, b0, rfl, _, h0, ⟨a1, b1, rfl, _, h1, ⟨a2, b2, rfl, _, h2, z⟩⟩⟩⟩ := h
  exact isD_mkSt (isF_mk (isD_mkInt h0) (isF_mk (isD_mkSl (f := Dat.int .u8) h1 (fun es x hx => isD_mkInt hx)) (isF_mk (isD_mkInt h2) (isF_mk0 z))))
theorem DMsg.has (x : DMsg) : Has TyMsg x.dat := mk_st (mkF_cons (mk_int) (mkF_cons (mk_sl (fun e he => by obtain ⟨y, _, rfl⟩ := List.mem_map.1 he; exact mk_int)) (mkF_cons (mk_int) (mkF_nil))))
theorem o154 : Opens Try.prog 154 cDMsg := opens_map _ (opens_struct Try.underlying154 (by kernel_rfl) (opensF_cons rfl (by kernel_rfl) o2 (opensF_cons rfl (by kernel_rfl) o57 (opensF_cons rfl (by kernel_rfl) o2 opensF_nil))))
theorem o117 : Opens Try.prog 117 (cSlice cDMsg) := opens_slice Try.underlying117 (by kernel_rfl) o154
structure DPort where
  Id : Int
  Queue : List DMsg
def cDPort : Cod DPort := cMap (cPair (cInt .i64) (cPair (cSlice cDMsg) cUnit)) (fun x => ⟨x.1, x.2.1⟩)
abbrev TyPort : Ty := .st [(.int .i64), (.sl 3 TyMsg)]
def DPort.dat (x : DPort) : Dat := .st [.int .i64 x.Id, .sl 3 (x.Queue.map (DMsg.dat))]
theorem cDPort_dat {w : World} {cs : List Value} {x : DPort} (h : cDPort.is w cs x) : IsD w x.dat cs := by
  obtain ⟨y, rfl, ⟨a0, b0, rfl, _, h0, ⟨a1, b1, rfl, _, h1, z⟩⟩⟩ := h
  exact isD_mkSt (isF_mk (isD_mkInt h0) (isF_mk (isD_mkSl (f := DMsg.dat) h1 (fun es x hx => cDMsg_dat hx)) (isF_mk0 z)))
theorem DPort.has (x : DPort) : Has TyPort x.dat := mk_st (mkF_cons (mk_int) (mkF_cons (mk_sl (fun e he => by obtain ⟨y, _, rfl⟩ := List.mem_map.1 he; exact DMsg.has _)) (mkF_nil)))
theorem o119 : Opens Try.prog 119 cDPort := opens_map _ (opens_struct Try.underlying119 (by kernel_rfl) (opensF_cons rfl (by kernel_rfl) o2 (opensF_cons rfl (by kernel_rfl) o117 opensF_nil)))
theorem o22 : Opens Try.prog 22 (cSlice cDPort) := opens_slice Try.underlying22 (by kernel_rfl) o119
structure DCap where
  Id : Int
  Holder : Int
  Port : Int
  Rights : Int
  Parent : Int
def cDCap : Cod DCap := cMap (cPair (cInt .i64) (cPair (cInt .i64) (cPair (cInt .i64) (cPair (cInt .i64) (cPair (cInt .i64) cUnit))))) (fun x => ⟨x.1, x.2.1, x.2.2.1, x.2.2.2.1, x.2.2.2.2.1⟩)
abbrev TyCap : Ty := .st [(.int .i64), (.int .i64), (.int .i64), (.int .i64), (.int .i64)]
def DCap.dat (x : DCap) : Dat := .st [.int .i64 x.Id, .int .i64 x.Holder, .int .i64 x.Port, .int .i64 x.Rights, .int .i64 x.Parent]
theorem cDCap_dat {w : World} {cs : List Value} {x : DCap} (h : cDCap.is w cs x) : IsD w x.dat cs := by
  obtain ⟨y, rfl, ⟨a0, b0, rfl, _, h0, ⟨a1, b1, rfl, _, h1, ⟨a2, b2, rfl, _, h2, ⟨a3, b3, rfl, _, h3, ⟨a4, b4, rfl, _, h4, z⟩⟩⟩⟩⟩⟩ := h
  exact isD_mkSt (isF_mk (isD_mkInt h0) (isF_mk (isD_mkInt h1) (isF_mk (isD_mkInt h2) (isF_mk (isD_mkInt h3) (isF_mk (isD_mkInt h4) (isF_mk0 z))))))
theorem DCap.has (x : DCap) : Has TyCap x.dat := mk_st (mkF_cons (mk_int) (mkF_cons (mk_int) (mkF_cons (mk_int) (mkF_cons (mk_int) (mkF_cons (mk_int) (mkF_nil))))))
theorem DCap.is_cells {w : World} {cs : List Value} {x : DCap} (h : IsD w x.dat cs) : cs = [.int .i64 x.Id, .int .i64 x.Holder, .int .i64 x.Port, .int .i64 x.Rights, .int .i64 x.Parent] := by
  have q := isD_st h
  obtain ⟨_, _, rfl, i0, q⟩ := isF_cons q
  obtain ⟨_, _, rfl, i1, q⟩ := isF_cons q
  obtain ⟨_, _, rfl, i2, q⟩ := isF_cons q
  obtain ⟨_, _, rfl, i3, q⟩ := isF_cons q
  obtain ⟨_, _, rfl, i4, q⟩ := isF_cons q
  obtain rfl := isF_nil q
  obtain ⟨rfl, _⟩ := isD_int i0
  obtain ⟨rfl, _⟩ := isD_int i1
  obtain ⟨rfl, _⟩ := isD_int i2
  obtain ⟨rfl, _⟩ := isD_int i3
  obtain ⟨rfl, _⟩ := isD_int i4
  rfl
def DCap.cells (x : DCap) : List Value := [.int .i64 x.Id, .int .i64 x.Holder, .int .i64 x.Port, .int .i64 x.Rights, .int .i64 x.Parent]
def DCap.wf (x : DCap) : Prop := (Lit.int .i64 x.Id).wf = true ∧ (Lit.int .i64 x.Holder).wf = true ∧ (Lit.int .i64 x.Port).wf = true ∧ (Lit.int .i64 x.Rights).wf = true ∧ (Lit.int .i64 x.Parent).wf = true
theorem o126 : Opens Try.prog 126 cDCap := opens_map _ (opens_struct Try.underlying126 (by kernel_rfl) (opensF_cons rfl (by kernel_rfl) o2 (opensF_cons rfl (by kernel_rfl) o2 (opensF_cons rfl (by kernel_rfl) o2 (opensF_cons rfl (by kernel_rfl) o2 (opensF_cons rfl (by kernel_rfl) o2 opensF_nil))))))
theorem o23 : Opens Try.prog 23 (cSlice cDCap) := opens_slice Try.underlying23 (by kernel_rfl) o126
structure DPipe where
  Id : Int
  Readers : Int
  Writers : Int
  Data : List Int
def cDPipe : Cod DPipe := cMap (cPair (cInt .i64) (cPair (cInt .i64) (cPair (cInt .i64) (cPair (cSlice (cInt .u8)) cUnit)))) (fun x => ⟨x.1, x.2.1, x.2.2.1, x.2.2.2.1⟩)
abbrev TyPipe : Ty := .st [(.int .i64), (.int .i64), (.int .i64), (.sl 1 (.int .u8))]
def DPipe.dat (x : DPipe) : Dat := .st [.int .i64 x.Id, .int .i64 x.Readers, .int .i64 x.Writers, .sl 1 (x.Data.map (Dat.int .u8))]
theorem cDPipe_dat {w : World} {cs : List Value} {x : DPipe} (h : cDPipe.is w cs x) : IsD w x.dat cs := by
  obtain ⟨y, rfl, ⟨a0, b0, rfl, _, h0, ⟨a1, b1, rfl, _, h1, ⟨a2, b2, rfl, _, h2, ⟨a3, b3, rfl, _, h3, z⟩⟩⟩⟩⟩ := h
  exact isD_mkSt (isF_mk (isD_mkInt h0) (isF_mk (isD_mkInt h1) (isF_mk (isD_mkInt h2) (isF_mk (isD_mkSl (f := Dat.int .u8) h3 (fun es x hx => isD_mkInt hx)) (isF_mk0 z)))))
theorem DPipe.has (x : DPipe) : Has TyPipe x.dat := mk_st (mkF_cons (mk_int) (mkF_cons (mk_int) (mkF_cons (mk_int) (mkF_cons (mk_sl (fun e he => by obtain ⟨y, _, rfl⟩ := List.mem_map.1 he; exact mk_int)) (mkF_nil)))))
theorem o121 : Opens Try.prog 121 cDPipe := opens_map _ (opens_struct Try.underlying121 (by kernel_rfl) (opensF_cons rfl (by kernel_rfl) o2 (opensF_cons rfl (by kernel_rfl) o2 (opensF_cons rfl (by kernel_rfl) o2 (opensF_cons rfl (by kernel_rfl) o57 opensF_nil)))))
theorem o24 : Opens Try.prog 24 (cSlice cDPipe) := opens_slice Try.underlying24 (by kernel_rfl) o121
structure DIpc where
  Next : Int
  Ports : List DPort
  Caps : List DCap
  Pipes : List DPipe
def cDIpc : Cod DIpc := cMap (cPair (cInt .i64) (cPair (cSlice cDPort) (cPair (cSlice cDCap) (cPair (cSlice cDPipe) cUnit)))) (fun x => ⟨x.1, x.2.1, x.2.2.1, x.2.2.2.1⟩)
abbrev TyIpc : Ty := .st [(.int .i64), (.sl 2 TyPort), (.sl 5 TyCap), (.sl 4 TyPipe)]
def DIpc.dat (x : DIpc) : Dat := .st [.int .i64 x.Next, .sl 2 (x.Ports.map (DPort.dat)), .sl 5 (x.Caps.map (DCap.dat)), .sl 4 (x.Pipes.map (DPipe.dat))]
theorem cDIpc_dat {w : World} {cs : List Value} {x : DIpc} (h : cDIpc.is w cs x) : IsD w x.dat cs := by
  obtain ⟨y, rfl, ⟨a0, b0, rfl, _, h0, ⟨a1, b1, rfl, _, h1, ⟨a2, b2, rfl, _, h2, ⟨a3, b3, rfl, _, h3, z⟩⟩⟩⟩⟩ := h
  exact isD_mkSt (isF_mk (isD_mkInt h0) (isF_mk (isD_mkSl (f := DPort.dat) h1 (fun es x hx => cDPort_dat hx)) (isF_mk (isD_mkSl (f := DCap.dat) h2 (fun es x hx => cDCap_dat hx)) (isF_mk (isD_mkSl (f := DPipe.dat) h3 (fun es x hx => cDPipe_dat hx)) (isF_mk0 z)))))
theorem DIpc.has (x : DIpc) : Has TyIpc x.dat := mk_st (mkF_cons (mk_int) (mkF_cons (mk_sl (fun e he => by obtain ⟨y, _, rfl⟩ := List.mem_map.1 he; exact DPort.has _)) (mkF_cons (mk_sl (fun e he => by obtain ⟨y, _, rfl⟩ := List.mem_map.1 he; exact DCap.has _)) (mkF_cons (mk_sl (fun e he => by obtain ⟨y, _, rfl⟩ := List.mem_map.1 he; exact DPipe.has _)) (mkF_nil)))))
theorem o26 : Opens Try.prog 26 cDIpc := opens_map _ (opens_struct Try.underlying26 (by kernel_rfl) (opensF_cons rfl (by kernel_rfl) o2 (opensF_cons rfl (by kernel_rfl) o22 (opensF_cons rfl (by kernel_rfl) o23 (opensF_cons rfl (by kernel_rfl) o24 opensF_nil)))))
structure DIpcOp where
  Kind : Int
  Holder : Int
  Id : Int
  To : Int
  Rights : Int
  Cap : Int
  N : Int
  Data : List Int
def cDIpcOp : Cod DIpcOp := cMap (cPair (cInt .i64) (cPair (cInt .i64) (cPair (cInt .i64) (cPair (cInt .i64) (cPair (cInt .i64) (cPair (cInt .i64) (cPair (cInt .i64) (cPair (cSlice (cInt .u8)) cUnit)))))))) (fun x => ⟨x.1, x.2.1, x.2.2.1, x.2.2.2.1, x.2.2.2.2.1, x.2.2.2.2.2.1, x.2.2.2.2.2.2.1, x.2.2.2.2.2.2.2.1⟩)
abbrev TyIpcOp : Ty := .st [(.int .i64), (.int .i64), (.int .i64), (.int .i64), (.int .i64), (.int .i64), (.int .i64), (.sl 1 (.int .u8))]
def DIpcOp.dat (x : DIpcOp) : Dat := .st [.int .i64 x.Kind, .int .i64 x.Holder, .int .i64 x.Id, .int .i64 x.To, .int .i64 x.Rights, .int .i64 x.Cap, .int .i64 x.N, .sl 1 (x.Data.map (Dat.int .u8))]
theorem cDIpcOp_dat {w : World} {cs : List Value} {x : DIpcOp} (h : cDIpcOp.is w cs x) : IsD w x.dat cs := by
  obtain ⟨y, rfl, ⟨a0, b0, rfl, _, h0, ⟨a1, b1, rfl, _, h1, ⟨a2, b2, rfl, _, h2, ⟨a3, b3, rfl, _, h3, ⟨a4, b4, rfl, _, h4, ⟨a5, b5, rfl, _, h5, ⟨a6, b6, rfl, _, h6, ⟨a7, b7, rfl, _, h7, z⟩⟩⟩⟩⟩⟩⟩⟩⟩ := h
  exact isD_mkSt (isF_mk (isD_mkInt h0) (isF_mk (isD_mkInt h1) (isF_mk (isD_mkInt h2) (isF_mk (isD_mkInt h3) (isF_mk (isD_mkInt h4) (isF_mk (isD_mkInt h5) (isF_mk (isD_mkInt h6) (isF_mk (isD_mkSl (f := Dat.int .u8) h7 (fun es x hx => isD_mkInt hx)) (isF_mk0 z)))))))))
theorem DIpcOp.has (x : DIpcOp) : Has TyIpcOp x.dat := mk_st (mkF_cons (mk_int) (mkF_cons (mk_int) (mkF_cons (mk_int) (mkF_cons (mk_int) (mkF_cons (mk_int) (mkF_cons (mk_int) (mkF_cons (mk_int) (mkF_cons (mk_sl (fun e he => by obtain ⟨y, _, rfl⟩ := List.mem_map.1 he; exact mk_int)) (mkF_nil)))))))))
theorem o68 : Opens Try.prog 68 cDIpcOp := opens_map _ (opens_struct Try.underlying68 (by kernel_rfl) (opensF_cons rfl (by kernel_rfl) o2 (opensF_cons rfl (by kernel_rfl) o2 (opensF_cons rfl (by kernel_rfl) o2 (opensF_cons rfl (by kernel_rfl) o2 (opensF_cons rfl (by kernel_rfl) o2 (opensF_cons rfl (by kernel_rfl) o2 (opensF_cons rfl (by kernel_rfl) o2 (opensF_cons rfl (by kernel_rfl) o57 opensF_nil)))))))))
structure DIpcRes where
  Code : Int
  N : Int
  Data : List Int
  From : Int
abbrev TyIpcRes : Ty := .st [(.int .i64), (.int .i64), (.sl 1 (.int .u8)), (.int .i64)]
def DIpcRes.dat (x : DIpcRes) : Dat := .st [.int .i64 x.Code, .int .i64 x.N, .sl 1 (x.Data.map (Dat.int .u8)), .int .i64 x.From]
theorem DIpcRes.has (x : DIpcRes) : Has TyIpcRes x.dat := mk_st (mkF_cons (mk_int) (mkF_cons (mk_int) (mkF_cons (mk_sl (fun e he => by obtain ⟨y, _, rfl⟩ := List.mem_map.1 he; exact mk_int)) (mkF_cons (mk_int) (mkF_nil)))))
end Go.Proofs.Ytbimoajgofcmbaa

set_option maxRecDepth 4000
namespace Go.Proofs.Ytbimoajgofcmbaa
open Go Go.Den
theorem has_Msg {d : Dat} (h : Has TyMsg d) : ∃ x_0 : Int, ∃ l_1 : List Dat, ∃ x_2 : Int, d = .st [.int .i64 x_0, .sl 1 l_1, .int .i64 x_2] ∧ (∀ e, e ∈ l_1 → Has (.int .u8) e) := by
  obtain ⟨_, rfl, g⟩ := has_st h
  obtain ⟨_, _, rfl, h_0, g⟩ := hasF_cons g
  obtain ⟨_, _, rfl, h_1, g⟩ := hasF_cons g
  obtain ⟨_, _, rfl, h_2, g⟩ := hasF_cons g
  obtain rfl := hasF_nil g
  obtain ⟨x_0, rfl⟩ := has_int h_0
  obtain ⟨l_1, rfl, t_1⟩ := has_sl h_1
  obtain ⟨x_2, rfl⟩ := has_int h_2
  exact ⟨x_0, l_1, x_2, rfl, t_1⟩
theorem cells_Msg {w : World} {x_0 : Int} {l_1 : List Dat} {x_2 : Int} {cs : List Value} (h : IsD w (.st [.int .i64 x_0, .sl 1 l_1, .int .i64 x_2]) cs) : ∃ s_1 : Sl, cs = [.int .i64 x_0, .slice s_1.a s_1.len s_1.cap, .int .i64 x_2] ∧ ((Lit.int .i64 x_0).wf = true) ∧ (IsD w (.sl 1 l_1) [.slice s_1.a s_1.len s_1.cap]) ∧ ((Lit.int .i64 x_2).wf = true) := by
  have q := isD_st h
  obtain ⟨_, _, rfl, i_0, q⟩ := isF_cons q
  obtain ⟨_, _, rfl, i_1, q⟩ := isF_cons q
  obtain ⟨_, _, rfl, i_2, q⟩ := isF_cons q
  obtain rfl := isF_nil q
  obtain ⟨rfl, ws_0⟩ := isD_int i_0
  obtain ⟨s_1, rfl⟩ := isD_sl_s i_1
  have is_1 := i_1
  obtain ⟨rfl, ws_2⟩ := isD_int i_2
  exact ⟨s_1, rfl, ws_0, is_1, ws_2⟩
theorem has_Port {d : Dat} (h : Has TyPort d) : ∃ x_0 : Int, ∃ l_1 : List Dat, d = .st [.int .i64 x_0, .sl 3 l_1] ∧ (∀ e, e ∈ l_1 → Has TyMsg e) := by
  obtain ⟨_, rfl, g⟩ := has_st h
  obtain ⟨_, _, rfl, h_0, g⟩ := hasF_cons g
  obtain ⟨_, _, rfl, h_1, g⟩ := hasF_cons g
  obtain rfl := hasF_nil g
  obtain ⟨x_0, rfl⟩ := has_int h_0
  obtain ⟨l_1, rfl, t_1⟩ := has_sl h_1
  exact ⟨x_0, l_1, rfl, t_1⟩
theorem cells_Port {w : World} {x_0 : Int} {l_1 : List Dat} {cs : List Value} (h : IsD w (.st [.int .i64 x_0, .sl 3 l_1]) cs) : ∃ s_1 : Sl, cs = [.int .i64 x_0, .slice s_1.a s_1.len s_1.cap] ∧ ((Lit.int .i64 x_0).wf = true) ∧ (IsD w (.sl 3 l_1) [.slice s_1.a s_1.len s_1.cap]) := by
  have q := isD_st h
  obtain ⟨_, _, rfl, i_0, q⟩ := isF_cons q
  obtain ⟨_, _, rfl, i_1, q⟩ := isF_cons q
  obtain rfl := isF_nil q
  obtain ⟨rfl, ws_0⟩ := isD_int i_0
  obtain ⟨s_1, rfl⟩ := isD_sl_s i_1
  have is_1 := i_1
  exact ⟨s_1, rfl, ws_0, is_1⟩
theorem has_Cap {d : Dat} (h : Has TyCap d) : ∃ x_0 : Int, ∃ x_1 : Int, ∃ x_2 : Int, ∃ x_3 : Int, ∃ x_4 : Int, d = .st [.int .i64 x_0, .int .i64 x_1, .int .i64 x_2, .int .i64 x_3, .int .i64 x_4] := by
  obtain ⟨_, rfl, g⟩ := has_st h
  obtain ⟨_, _, rfl, h_0, g⟩ := hasF_cons g
  obtain ⟨_, _, rfl, h_1, g⟩ := hasF_cons g
  obtain ⟨_, _, rfl, h_2, g⟩ := hasF_cons g
  obtain ⟨_, _, rfl, h_3, g⟩ := hasF_cons g
  obtain ⟨_, _, rfl, h_4, g⟩ := hasF_cons g
  obtain rfl := hasF_nil g
  obtain ⟨x_0, rfl⟩ := has_int h_0
  obtain ⟨x_1, rfl⟩ := has_int h_1
  obtain ⟨x_2, rfl⟩ := has_int h_2
  obtain ⟨x_3, rfl⟩ := has_int h_3
  obtain ⟨x_4, rfl⟩ := has_int h_4
  exact ⟨x_0, x_1, x_2, x_3, x_4, rfl⟩
theorem cells_Cap {w : World} {x_0 : Int} {x_1 : Int} {x_2 : Int} {x_3 : Int} {x_4 : Int} {cs : List Value} (h : IsD w (.st [.int .i64 x_0, .int .i64 x_1, .int .i64 x_2, .int .i64 x_3, .int .i64 x_4]) cs) : cs = [.int .i64 x_0, .int .i64 x_1, .int .i64 x_2, .int .i64 x_3, .int .i64 x_4] ∧ ((Lit.int .i64 x_0).wf = true) ∧ ((Lit.int .i64 x_1).wf = true) ∧ ((Lit.int .i64 x_2).wf = true) ∧ ((Lit.int .i64 x_3).wf = true) ∧ ((Lit.int .i64 x_4).wf = true) := by
  have q := isD_st h
  obtain ⟨_, _, rfl, i_0, q⟩ := isF_cons q
  obtain ⟨_, _, rfl, i_1, q⟩ := isF_cons q
  obtain ⟨_, _, rfl, i_2, q⟩ := isF_cons q
  obtain ⟨_, _, rfl, i_3, q⟩ := isF_cons q
  obtain ⟨_, _, rfl, i_4, q⟩ := isF_cons q
  obtain rfl := isF_nil q
  obtain ⟨rfl, ws_0⟩ := isD_int i_0
  obtain ⟨rfl, ws_1⟩ := isD_int i_1
  obtain ⟨rfl, ws_2⟩ := isD_int i_2
  obtain ⟨rfl, ws_3⟩ := isD_int i_3
  obtain ⟨rfl, ws_4⟩ := isD_int i_4
  exact ⟨rfl, ws_0, ws_1, ws_2, ws_3, ws_4⟩
theorem has_Pipe {d : Dat} (h : Has TyPipe d) : ∃ x_0 : Int, ∃ x_1 : Int, ∃ x_2 : Int, ∃ l_3 : List Dat, d = .st [.int .i64 x_0, .int .i64 x_1, .int .i64 x_2, .sl 1 l_3] ∧ (∀ e, e ∈ l_3 → Has (.int .u8) e) := by
  obtain ⟨_, rfl, g⟩ := has_st h
  obtain ⟨_, _, rfl, h_0, g⟩ := hasF_cons g
  obtain ⟨_, _, rfl, h_1, g⟩ := hasF_cons g
  obtain ⟨_, _, rfl, h_2, g⟩ := hasF_cons g
  obtain ⟨_, _, rfl, h_3, g⟩ := hasF_cons g
  obtain rfl := hasF_nil g
  obtain ⟨x_0, rfl⟩ := has_int h_0
  obtain ⟨x_1, rfl⟩ := has_int h_1
  obtain ⟨x_2, rfl⟩ := has_int h_2
  obtain ⟨l_3, rfl, t_3⟩ := has_sl h_3
  exact ⟨x_0, x_1, x_2, l_3, rfl, t_3⟩
theorem cells_Pipe {w : World} {x_0 : Int} {x_1 : Int} {x_2 : Int} {l_3 : List Dat} {cs : List Value} (h : IsD w (.st [.int .i64 x_0, .int .i64 x_1, .int .i64 x_2, .sl 1 l_3]) cs) : ∃ s_3 : Sl, cs = [.int .i64 x_0, .int .i64 x_1, .int .i64 x_2, .slice s_3.a s_3.len s_3.cap] ∧ ((Lit.int .i64 x_0).wf = true) ∧ ((Lit.int .i64 x_1).wf = true) ∧ ((Lit.int .i64 x_2).wf = true) ∧ (IsD w (.sl 1 l_3) [.slice s_3.a s_3.len s_3.cap]) := by
  have q := isD_st h
  obtain ⟨_, _, rfl, i_0, q⟩ := isF_cons q
  obtain ⟨_, _, rfl, i_1, q⟩ := isF_cons q
  obtain ⟨_, _, rfl, i_2, q⟩ := isF_cons q
  obtain ⟨_, _, rfl, i_3, q⟩ := isF_cons q
  obtain rfl := isF_nil q
  obtain ⟨rfl, ws_0⟩ := isD_int i_0
  obtain ⟨rfl, ws_1⟩ := isD_int i_1
  obtain ⟨rfl, ws_2⟩ := isD_int i_2
  obtain ⟨s_3, rfl⟩ := isD_sl_s i_3
  have is_3 := i_3
  exact ⟨s_3, rfl, ws_0, ws_1, ws_2, is_3⟩
theorem has_Ipc {d : Dat} (h : Has TyIpc d) : ∃ x_0 : Int, ∃ l_1 : List Dat, ∃ l_2 : List Dat, ∃ l_3 : List Dat, d = .st [.int .i64 x_0, .sl 2 l_1, .sl 5 l_2, .sl 4 l_3] ∧ (∀ e, e ∈ l_1 → Has TyPort e) ∧ (∀ e, e ∈ l_2 → Has TyCap e) ∧ (∀ e, e ∈ l_3 → Has TyPipe e) := by
  obtain ⟨_, rfl, g⟩ := has_st h
  obtain ⟨_, _, rfl, h_0, g⟩ := hasF_cons g
  obtain ⟨_, _, rfl, h_1, g⟩ := hasF_cons g
  obtain ⟨_, _, rfl, h_2, g⟩ := hasF_cons g
  obtain ⟨_, _, rfl, h_3, g⟩ := hasF_cons g
  obtain rfl := hasF_nil g
  obtain ⟨x_0, rfl⟩ := has_int h_0
  obtain ⟨l_1, rfl, t_1⟩ := has_sl h_1
  obtain ⟨l_2, rfl, t_2⟩ := has_sl h_2
  obtain ⟨l_3, rfl, t_3⟩ := has_sl h_3
  exact ⟨x_0, l_1, l_2, l_3, rfl, t_1, t_2, t_3⟩
theorem cells_Ipc {w : World} {x_0 : Int} {l_1 : List Dat} {l_2 : List Dat} {l_3 : List Dat} {cs : List Value} (h : IsD w (.st [.int .i64 x_0, .sl 2 l_1, .sl 5 l_2, .sl 4 l_3]) cs) : ∃ s_1 : Sl, ∃ s_2 : Sl, ∃ s_3 : Sl, cs = [.int .i64 x_0, .slice s_1.a s_1.len s_1.cap, .slice s_2.a s_2.len s_2.cap, .slice s_3.a s_3.len s_3.cap] ∧ ((Lit.int .i64 x_0).wf = true) ∧ (IsD w (.sl 2 l_1) [.slice s_1.a s_1.len s_1.cap]) ∧ (IsD w (.sl 5 l_2) [.slice s_2.a s_2.len s_2.cap]) ∧ (IsD w (.sl 4 l_3) [.slice s_3.a s_3.len s_3.cap]) := by
  have q := isD_st h
  obtain ⟨_, _, rfl, i_0, q⟩ := isF_cons q
  obtain ⟨_, _, rfl, i_1, q⟩ := isF_cons q
  obtain ⟨_, _, rfl, i_2, q⟩ := isF_cons q
  obtain ⟨_, _, rfl, i_3, q⟩ := isF_cons q
  obtain rfl := isF_nil q
  obtain ⟨rfl, ws_0⟩ := isD_int i_0
  obtain ⟨s_1, rfl⟩ := isD_sl_s i_1
  have is_1 := i_1
  obtain ⟨s_2, rfl⟩ := isD_sl_s i_2
  have is_2 := i_2
  obtain ⟨s_3, rfl⟩ := isD_sl_s i_3
  have is_3 := i_3
  exact ⟨s_1, s_2, s_3, rfl, ws_0, is_1, is_2, is_3⟩
theorem c77 {l : List Dat} {a0 : Sl} {left : Int} {w : World} (ht : ∀ e, e ∈ l → Has (.int .u8) e) (h : IsD w (.sl 1 l) [.slice a0.a a0.len a0.cap]) (h0 : 0 ≤ left) (hl : left ≤ 4611686018427387904) : CallW Try.prog 77 #[.slice a0.a a0.len a0.cap, .int .i64 left] w (fun v w' => SzPost (Dat.sl 1 l).sz left v ∧ Ext w w') := by
  refine go77 ?_
  unfold W77; (try delta qn ql qb qi qS qI qP qQ qR qU qA qC)
  obtain ⟨hlen, hmax, hel⟩ := isD_sl h
  have hmx : maxLen = 9223372036854775807 := rfl
  rw [hlen, w64 (by omega) (by omega)]
  have hz : Dat.szs l = 0 := by
    refine szs_zero (fun d hd => ?_)
    have ht0 := ht d hd
    obtain ⟨x, rfl⟩ := has_int ht0
    rfl
  refine BIf.dec (fun hn => ⟨⟨_, rfl, .inr ⟨by omega, by simp only [Dat.sz]; omega⟩⟩, Only.refl _ _⟩) (fun hp => ⟨⟨_, rfl, .inl ⟨by simp only [Dat.sz]; omega, by omega⟩⟩, Only.refl _ _⟩)

theorem c121 {d : Dat} {cs : List Value} {left : Int} {w : World} (ht : Has TyMsg d) (h : IsD w d cs) (h0 : 0 ≤ left) (hl : left ≤ 4611686018427387904) : CallW Try.prog 121 #[.agg ⟨cs⟩, .int .i64 left] w (fun v w' => SzPost d.sz left v ∧ Ext w w') := by
  obtain ⟨x_0, l_1, x_2, rfl, t_1⟩ := has_Msg ht
  obtain ⟨s_1, rfl, ws_0, is_1, ws_2⟩ := cells_Msg h
  show CallW Try.prog 121 #[.agg #[.int .i64 x_0, .slice s_1.a s_1.len s_1.cap, .int .i64 x_2], .int .i64 left] w _
  refine go121 ?_
  unfold W121; (try delta qn ql qb qi qS qI qP qQ qR qU qA qC)
  refine alloc_step (fun w1 e ha n1 => ?_)
  have hmx : maxLen = 9223372036854775807 := rfl
  have hx : (0 : Int) ≤ left ∧ left ≤ left := ⟨h0, Int.le_refl _⟩
  have hd := Int.sub_zero left
  refine ⟨s_1, ha.cell 1, (c77 t_1 (IsD.ext e _ _ is_1) (by omega) (by omega)).mono ?_⟩
  rintro _ w2 ⟨⟨r2, rfl, hr2⟩, e2⟩
  have ha := ha.ext e2
  have e := Only.trans e e2
  refine ⟨r2, rfl, BIf.dec (fun hn => ⟨⟨_, rfl, .inr ⟨by omega, by simp only [Dat.sz, Dat.szs] at *; omega⟩⟩, e⟩) (fun hp2 => ?_)⟩
  exact ⟨⟨_, rfl, .inl ⟨by simp only [Dat.sz, Dat.szs] at *; omega, by omega⟩⟩, e⟩

theorem c112 {l : List Dat} {a0 : Sl} {left : Int} {w : World} (ht : ∀ e, e ∈ l → Has TyMsg e) (h : IsD w (.sl 3 l) [.slice a0.a a0.len a0.cap]) (h0 : 0 ≤ left) (hl : left ≤ 4611686018427387904) : CallW Try.prog 112 #[.slice a0.a a0.len a0.cap, .int .i64 left] w (fun v w' => SzPost (Dat.sl 3 l).sz left v ∧ Ext w w') := by
  refine go112 ?_
  unfold W112; (try delta qn ql qb qi qS qI qP qQ qR qU qA qC)
  obtain ⟨hlen, hmax, hel⟩ := isD_sl h
  have hmx : maxLen = 9223372036854775807 := rfl
  rw [hlen, w64 (by omega) (by omega)]
  refine BIf.dec (fun hn => ⟨⟨_, rfl, .inr ⟨by omega, by simp only [Dat.sz]; omega⟩⟩, Only.refl _ _⟩) (fun hp => ?_)
  refine LoopW.m2 (fun (x i : Int) w' => ∃ k : Nat, i = k ∧ k ≤ l.length ∧ Ext w w' ∧ x = left - l.length - Dat.szs (l.take k) ∧ 0 ≤ x) (fun _ (i : Int) _ => (l.length - i).toNat) ⟨0, rfl, by omega, Only.refl _ _, by simp [Dat.szs], by omega⟩ ?_
  rintro (x : Int) (i : Int) w4 ⟨k, rfl, hk, e4, hx, hx0⟩ J hJ
  refine BIf.dec (fun hlt => ?_) (fun hge => ?_)
  · obtain ⟨d, hd⟩ : ∃ d, l[k]? = some d := ⟨_, List.getElem?_eq_getElem (by omega)⟩
    have hsz := szs_get hd
    have hst := szs_take hd
    obtain ⟨p, es, hp, he, hc, his⟩ := isD_at (IsD.ext e4 _ _ h) hd
    have ht0 := ht d (mem_get hd)
    have ht1 := ht0
    obtain ⟨x_0, l_1, x_2, rfl, t_1⟩ := has_Msg ht1
    have his0 := his
    obtain ⟨s_1, rfl, ws_0, is_1, ws_2⟩ := cells_Msg his
    refine ⟨by omega, by omega, p, hp, _, hc 0 _ rfl, s_1, hc 1 _ rfl, _, hc 2 _ rfl, (c121 (cs := [.int .i64 x_0, .slice s_1.a s_1.len s_1.cap, .int .i64 x_2]) ht0 his0 hx0 (by omega)).mono ?_⟩
    rintro _ w9 ⟨⟨r, rfl, hr⟩, e9⟩
    refine ⟨r, rfl, BIf.dec (fun hn => ⟨⟨_, rfl, .inr ⟨by omega, by simp only [Dat.sz] at *; omega⟩⟩, Only.trans e4 e9⟩) (fun hp => ?_)⟩
    rw [w64 (by omega) (by omega)]
    refine hJ _ _ _ ⟨k + 1, by omega, by omega, Only.trans e4 e9, by rw [hst]; omega, by omega⟩ (by omega)
  · rw [List.take_of_length_le (by omega)] at hx
    exact ⟨⟨_, rfl, .inl ⟨by simp only [Dat.sz]; omega, hx0⟩⟩, e4⟩

theorem c82 {d : Dat} {cs : List Value} {left : Int} {w : World} (ht : Has TyPort d) (h : IsD w d cs) (h0 : 0 ≤ left) (hl : left ≤ 4611686018427387904) : CallW Try.prog 82 #[.agg ⟨cs⟩, .int .i64 left] w (fun v w' => SzPost d.sz left v ∧ Ext w w') := by
  obtain ⟨x_0, l_1, rfl, t_1⟩ := has_Port ht
  obtain ⟨s_1, rfl, ws_0, is_1⟩ := cells_Port h
  show CallW Try.prog 82 #[.agg #[.int .i64 x_0, .slice s_1.a s_1.len s_1.cap], .int .i64 left] w _
  refine go82 ?_
  unfold W82; (try delta qn ql qb qi qS qI qP qQ qR qU qA qC)
  refine alloc_step (fun w1 e ha n1 => ?_)
  have hmx : maxLen = 9223372036854775807 := rfl
  have hx : (0 : Int) ≤ left ∧ left ≤ left := ⟨h0, Int.le_refl _⟩
  have hd := Int.sub_zero left
  refine ⟨s_1, ha.cell 1, (c112 t_1 (IsD.ext e _ _ is_1) (by omega) (by omega)).mono ?_⟩
  rintro _ w2 ⟨⟨r2, rfl, hr2⟩, e2⟩
  have ha := ha.ext e2
  have e := Only.trans e e2
  refine ⟨r2, rfl, BIf.dec (fun hn => ⟨⟨_, rfl, .inr ⟨by omega, by simp only [Dat.sz, Dat.szs] at *; omega⟩⟩, e⟩) (fun hp2 => ?_)⟩
  exact ⟨⟨_, rfl, .inl ⟨by simp only [Dat.sz, Dat.szs] at *; omega, by omega⟩⟩, e⟩

theorem c46 {l : List Dat} {a0 : Sl} {left : Int} {w : World} (ht : ∀ e, e ∈ l → Has TyPort e) (h : IsD w (.sl 2 l) [.slice a0.a a0.len a0.cap]) (h0 : 0 ≤ left) (hl : left ≤ 4611686018427387904) : CallW Try.prog 46 #[.slice a0.a a0.len a0.cap, .int .i64 left] w (fun v w' => SzPost (Dat.sl 2 l).sz left v ∧ Ext w w') := by
  refine go46 ?_
  unfold W46; (try delta qn ql qb qi qS qI qP qQ qR qU qA qC)
  obtain ⟨hlen, hmax, hel⟩ := isD_sl h
  have hmx : maxLen = 9223372036854775807 := rfl
  rw [hlen, w64 (by omega) (by omega)]
  refine BIf.dec (fun hn => ⟨⟨_, rfl, .inr ⟨by omega, by simp only [Dat.sz]; omega⟩⟩, Only.refl _ _⟩) (fun hp => ?_)
  refine LoopW.m2 (fun (x i : Int) w' => ∃ k : Nat, i = k ∧ k ≤ l.length ∧ Ext w w' ∧ x = left - l.length - Dat.szs (l.take k) ∧ 0 ≤ x) (fun _ (i : Int) _ => (l.length - i).toNat) ⟨0, rfl, by omega, Only.refl _ _, by simp [Dat.szs], by omega⟩ ?_
  rintro (x : Int) (i : Int) w4 ⟨k, rfl, hk, e4, hx, hx0⟩ J hJ
  refine BIf.dec (fun hlt => ?_) (fun hge => ?_)
  · obtain ⟨d, hd⟩ : ∃ d, l[k]? = some d := ⟨_, List.getElem?_eq_getElem (by omega)⟩
    have hsz := szs_get hd
    have hst := szs_take hd
    obtain ⟨p, es, hp, he, hc, his⟩ := isD_at (IsD.ext e4 _ _ h) hd
    have ht0 := ht d (mem_get hd)
    have ht1 := ht0
    obtain ⟨x_0, l_1, rfl, t_1⟩ := has_Port ht1
    have his0 := his
    obtain ⟨s_1, rfl, ws_0, is_1⟩ := cells_Port his
    refine ⟨by omega, by omega, p, hp, _, hc 0 _ rfl, s_1, hc 1 _ rfl, (c82 (cs := [.int .i64 x_0, .slice s_1.a s_1.len s_1.cap]) ht0 his0 hx0 (by omega)).mono ?_⟩
    rintro _ w9 ⟨⟨r, rfl, hr⟩, e9⟩
    refine ⟨r, rfl, BIf.dec (fun hn => ⟨⟨_, rfl, .inr ⟨by omega, by simp only [Dat.sz] at *; omega⟩⟩, Only.trans e4 e9⟩) (fun hp => ?_)⟩
    rw [w64 (by omega) (by omega)]
    refine hJ _ _ _ ⟨k + 1, by omega, by omega, Only.trans e4 e9, by rw [hst]; omega, by omega⟩ (by omega)
  · rw [List.take_of_length_le (by omega)] at hx
    exact ⟨⟨_, rfl, .inl ⟨by simp only [Dat.sz]; omega, hx0⟩⟩, e4⟩

theorem c47 {l : List Dat} {a0 : Sl} {left : Int} {w : World} (ht : ∀ e, e ∈ l → Has TyCap e) (h : IsD w (.sl 5 l) [.slice a0.a a0.len a0.cap]) (h0 : 0 ≤ left) (hl : left ≤ 4611686018427387904) : CallW Try.prog 47 #[.slice a0.a a0.len a0.cap, .int .i64 left] w (fun v w' => SzPost (Dat.sl 5 l).sz left v ∧ Ext w w') := by
  refine go47 ?_
  unfold W47; (try delta qn ql qb qi qS qI qP qQ qR qU qA qC)
  obtain ⟨hlen, hmax, hel⟩ := isD_sl h
  have hmx : maxLen = 9223372036854775807 := rfl
  rw [hlen, w64 (by omega) (by omega)]
  have hz : Dat.szs l = 0 := by
    refine szs_zero (fun d hd => ?_)
    have ht0 := ht d hd
    obtain ⟨x_0, x_1, x_2, x_3, x_4, rfl⟩ := has_Cap ht0
    rfl
  refine BIf.dec (fun hn => ⟨⟨_, rfl, .inr ⟨by omega, by simp only [Dat.sz]; omega⟩⟩, Only.refl _ _⟩) (fun hp => ⟨⟨_, rfl, .inl ⟨by simp only [Dat.sz]; omega, by omega⟩⟩, Only.refl _ _⟩)

theorem c83 {d : Dat} {cs : List Value} {left : Int} {w : World} (ht : Has TyPipe d) (h : IsD w d cs) (h0 : 0 ≤ left) (hl : left ≤ 4611686018427387904) : CallW Try.prog 83 #[.agg ⟨cs⟩, .int .i64 left] w (fun v w' => SzPost d.sz left v ∧ Ext w w') := by
  obtain ⟨x_0, x_1, x_2, l_3, rfl, t_3⟩ := has_Pipe ht
  obtain ⟨s_3, rfl, ws_0, ws_1, ws_2, is_3⟩ := cells_Pipe h
  show CallW Try.prog 83 #[.agg #[.int .i64 x_0, .int .i64 x_1, .int .i64 x_2, .slice s_3.a s_3.len s_3.cap], .int .i64 left] w _
  refine go83 ?_
  unfold W83; (try delta qn ql qb qi qS qI qP qQ qR qU qA qC)
  refine alloc_step (fun w1 e ha n1 => ?_)
  have hmx : maxLen = 9223372036854775807 := rfl
  have hx : (0 : Int) ≤ left ∧ left ≤ left := ⟨h0, Int.le_refl _⟩
  have hd := Int.sub_zero left
  refine ⟨s_3, ha.cell 3, (c77 t_3 (IsD.ext e _ _ is_3) (by omega) (by omega)).mono ?_⟩
  rintro _ w2 ⟨⟨r2, rfl, hr2⟩, e2⟩
  have ha := ha.ext e2
  have e := Only.trans e e2
  refine ⟨r2, rfl, BIf.dec (fun hn => ⟨⟨_, rfl, .inr ⟨by omega, by simp only [Dat.sz, Dat.szs] at *; omega⟩⟩, e⟩) (fun hp2 => ?_)⟩
  exact ⟨⟨_, rfl, .inl ⟨by simp only [Dat.sz, Dat.szs] at *; omega, by omega⟩⟩, e⟩

theorem c48 {l : List Dat} {a0 : Sl} {left : Int} {w : World} (ht : ∀ e, e ∈ l → Has TyPipe e) (h : IsD w (.sl 4 l) [.slice a0.a a0.len a0.cap]) (h0 : 0 ≤ left) (hl : left ≤ 4611686018427387904) : CallW Try.prog 48 #[.slice a0.a a0.len a0.cap, .int .i64 left] w (fun v w' => SzPost (Dat.sl 4 l).sz left v ∧ Ext w w') := by
  refine go48 ?_
  unfold W48; (try delta qn ql qb qi qS qI qP qQ qR qU qA qC)
  obtain ⟨hlen, hmax, hel⟩ := isD_sl h
  have hmx : maxLen = 9223372036854775807 := rfl
  rw [hlen, w64 (by omega) (by omega)]
  refine BIf.dec (fun hn => ⟨⟨_, rfl, .inr ⟨by omega, by simp only [Dat.sz]; omega⟩⟩, Only.refl _ _⟩) (fun hp => ?_)
  refine LoopW.m2 (fun (x i : Int) w' => ∃ k : Nat, i = k ∧ k ≤ l.length ∧ Ext w w' ∧ x = left - l.length - Dat.szs (l.take k) ∧ 0 ≤ x) (fun _ (i : Int) _ => (l.length - i).toNat) ⟨0, rfl, by omega, Only.refl _ _, by simp [Dat.szs], by omega⟩ ?_
  rintro (x : Int) (i : Int) w4 ⟨k, rfl, hk, e4, hx, hx0⟩ J hJ
  refine BIf.dec (fun hlt => ?_) (fun hge => ?_)
  · obtain ⟨d, hd⟩ : ∃ d, l[k]? = some d := ⟨_, List.getElem?_eq_getElem (by omega)⟩
    have hsz := szs_get hd
    have hst := szs_take hd
    obtain ⟨p, es, hp, he, hc, his⟩ := isD_at (IsD.ext e4 _ _ h) hd
    have ht0 := ht d (mem_get hd)
    have ht1 := ht0
    obtain ⟨x_0, x_1, x_2, l_3, rfl, t_3⟩ := has_Pipe ht1
    have his0 := his
    obtain ⟨s_3, rfl, ws_0, ws_1, ws_2, is_3⟩ := cells_Pipe his
    refine ⟨by omega, by omega, p, hp, _, hc 0 _ rfl, _, hc 1 _ rfl, _, hc 2 _ rfl, s_3, hc 3 _ rfl, (c83 (cs := [.int .i64 x_0, .int .i64 x_1, .int .i64 x_2, .slice s_3.a s_3.len s_3.cap]) ht0 his0 hx0 (by omega)).mono ?_⟩
    rintro _ w9 ⟨⟨r, rfl, hr⟩, e9⟩
    refine ⟨r, rfl, BIf.dec (fun hn => ⟨⟨_, rfl, .inr ⟨by omega, by simp only [Dat.sz] at *; omega⟩⟩, Only.trans e4 e9⟩) (fun hp => ?_)⟩
    rw [w64 (by omega) (by omega)]
    refine hJ _ _ _ ⟨k + 1, by omega, by omega, Only.trans e4 e9, by rw [hst]; omega, by omega⟩ (by omega)
  · rw [List.take_of_length_le (by omega)] at hx
    exact ⟨⟨_, rfl, .inl ⟨by simp only [Dat.sz]; omega, hx0⟩⟩, e4⟩

theorem c9 {d : Dat} {cs : List Value} {left : Int} {w : World} (ht : Has TyIpc d) (h : IsD w d cs) (h0 : 0 ≤ left) (hl : left ≤ 4611686018427387904) : CallW Try.prog 9 #[.agg ⟨cs⟩, .int .i64 left] w (fun v w' => SzPost d.sz left v ∧ Ext w w') := by
  obtain ⟨x_0, l_1, l_2, l_3, rfl, t_1, t_2, t_3⟩ := has_Ipc ht
  obtain ⟨s_1, s_2, s_3, rfl, ws_0, is_1, is_2, is_3⟩ := cells_Ipc h
  show CallW Try.prog 9 #[.agg #[.int .i64 x_0, .slice s_1.a s_1.len s_1.cap, .slice s_2.a s_2.len s_2.cap, .slice s_3.a s_3.len s_3.cap], .int .i64 left] w _
  refine go9 ?_
  unfold W9; (try delta qn ql qb qi qS qI qP qQ qR qU qA qC)
  refine alloc_step (fun w1 e ha n1 => ?_)
  have hmx : maxLen = 9223372036854775807 := rfl
  have hx : (0 : Int) ≤ left ∧ left ≤ left := ⟨h0, Int.le_refl _⟩
  have hd := Int.sub_zero left
  refine ⟨s_1, ha.cell 1, (c46 t_1 (IsD.ext e _ _ is_1) (by omega) (by omega)).mono ?_⟩
  rintro _ w2 ⟨⟨r2, rfl, hr2⟩, e2⟩
  have ha := ha.ext e2
  have e := Only.trans e e2
  refine ⟨r2, rfl, BIf.dec (fun hn => ⟨⟨_, rfl, .inr ⟨by omega, by simp only [Dat.sz, Dat.szs] at *; omega⟩⟩, e⟩) (fun hp2 => ?_)⟩
  refine ⟨s_2, ha.cell 2, (c47 t_2 (IsD.ext e _ _ is_2) (by omega) (by omega)).mono ?_⟩
  rintro _ w3 ⟨⟨r3, rfl, hr3⟩, e3⟩
  have ha := ha.ext e3
  have e := Only.trans e e3
  refine ⟨r3, rfl, BIf.dec (fun hn => ⟨⟨_, rfl, .inr ⟨by omega, by simp only [Dat.sz, Dat.szs] at *; omega⟩⟩, e⟩) (fun hp3 => ?_)⟩
  refine ⟨s_3, ha.cell 3, (c48 t_3 (IsD.ext e _ _ is_3) (by omega) (by omega)).mono ?_⟩
  rintro _ w4 ⟨⟨r4, rfl, hr4⟩, e4⟩
  have ha := ha.ext e4
  have e := Only.trans e e4
  refine ⟨r4, rfl, BIf.dec (fun hn => ⟨⟨_, rfl, .inr ⟨by omega, by simp only [Dat.sz, Dat.szs] at *; omega⟩⟩, e⟩) (fun hp4 => ?_)⟩
  exact ⟨⟨_, rfl, .inl ⟨by simp only [Dat.sz, Dat.szs] at *; omega, by omega⟩⟩, e⟩

theorem c78 {l : List Dat} {a0 : Sl} {w : World} (ht : ∀ e, e ∈ l → Has (.int .u8) e) (h : IsD w (.sl 1 l) [.slice a0.a a0.len a0.cap]) (hs : (Dat.sl 1 l).sz ≤ 4194304) : CallW Try.prog 78 #[.slice a0.a a0.len a0.cap] w (fun v w' => ∃ s : Sl, v = .slice s.a s.len s.cap ∧ Fr w.heap.size w'.heap.size w' (.sl 1 l) [.slice s.a s.len s.cap] ∧ Ext w w') := by
  refine go78 ?_
  unfold W78; (try delta qn ql qb qi qS qI qP qQ qR qU qA qC)
  obtain ⟨hlen, hmax, hel⟩ := isD_sl h
  simp only [Dat.sz] at hs
  rw [hlen]; simp only [Int.toNat_natCast]
  refine ⟨by omega, by omega, by omega, by omega, LetW_iff.2 ?_⟩
  have hs0 := ToInv.start (w := w) (z := 1) (zero := ti5.zero) (e := 5) l rfl
  generalize w.alloc (.cells ⟨zerosOf ti5.zero l.length⟩ 5) = w1 at *
  refine LoopW.m1 (fun (i : Int) w' => ∃ (k : Nat) (bs : List Nat) (vs : List Value), i = k ∧ ToInv w w' w.heap.size 1 l k bs vs) (fun (i : Int) _ => (l.length - i).toNat) ⟨0, [], _, rfl, hs0⟩ ?_
  rintro (i : Int) w4 ⟨k, bs, vs, rfl, hi⟩ J hJ
  refine BIf.dec (fun hlt => ?_) (fun hge => ?_)
  · obtain ⟨d, hd⟩ : ∃ d, l[k]? = some d := ⟨_, List.getElem?_eq_getElem (by omega)⟩
    have hsz := szs_get hd
    obtain ⟨p, es, hp, he, hc, his⟩ := isD_at (IsD.ext hi.ext _ _ h) hd
    have ht0 := ht d (mem_get hd)
    obtain ⟨x, rfl⟩ := has_int ht0
    obtain ⟨rfl, ws⟩ := isD_int his
    obtain ⟨b1, ho, hn, hb⟩ := fr_int (lo := w4.heap.size) (hi := w4.heap.size) (w := w4) ws
    obtain ⟨hm, hi2⟩ := hi.step hd (Only.refl _ _) ho hn (fun c hc => (hb c hc).1) rfl
    rw [puts_one] at hi2
    refine ⟨by omega, by omega, p, hp, _, hc 0 _ rfl, by omega, by omega, _, rfl, mayN_one hm, LetW_iff.2 ?_⟩
    rw [w64 (by omega) (by omega)]
    exact hJ _ _ ⟨k + 1, _, _, by omega, hi2⟩ (by omega)
  · exact ⟨⟨some ⟨w.heap.size, 0, none⟩, l.length, l.length⟩, rfl, (hi.done (by omega) hmax).fr, hi.ext⟩

theorem c122 {d : Dat} {cs : List Value} {w : World} (ht : Has TyMsg d) (h : IsD w d cs) (hs : d.sz ≤ 4194304) : CallW Try.prog 122 #[.agg ⟨cs⟩] w (fun v w' => ∃ cs', v = .agg ⟨cs'⟩ ∧ Fr w.heap.size w'.heap.size w' d cs' ∧ Ext w w') := by
  obtain ⟨x_0, l_1, x_2, rfl, t_1⟩ := has_Msg ht
  obtain ⟨s_1, rfl, ws_0, is_1, ws_2⟩ := cells_Msg h
  show CallW Try.prog 122 #[.agg #[.int .i64 x_0, .slice s_1.a s_1.len s_1.cap, .int .i64 x_2]] w _
  refine go122 ?_
  unfold W122; (try delta qn ql qb qi qS qI qP qQ qR qU qA qC)
  refine alloc_step (fun w1 e1 ha n1 => ?_)
  refine alloc_step (fun w2 e2 hc n2 => ?_)
  have ha := ha.ext e2
  refine alloc_step (fun w3 e3 hb n3 => ?_)
  have ha := ha.ext e3
  have hc := hc.ext e3
  have e := Only.trans e1 (Only.trans e2 e3)
  refine ⟨_, ha.cell 0, ?_⟩
  refine set_step hb (by simp) (fun w4 o4 hb n4 => ?_)
  have ha := ha.only o4 (by omega)
  have hc := hc.only o4 (by omega)
  have e := Ext.own e o4 (fun k hk => by omega)
  refine ⟨s_1, ha.cell 1, ?_⟩
  refine (c78 t_1 (IsD.ext e _ _ is_1) (by simp only [Dat.sz, Dat.szs] at hs ⊢; omega)).mono ?_
  rintro _ w5 ⟨r_1, rfl, f_1, e5⟩
  refine ⟨r_1, rfl, ?_⟩
  have ha := ha.ext e5
  have hb := hb.ext e5
  have hc := hc.ext e5
  have e := Only.trans e e5
  have z5 := e5.size
  refine set_step hb (by simp) (fun w6 o6 hb n6 => ?_)
  have ha := ha.only o6 (by omega)
  have hc := hc.only o6 (by omega)
  have e := Ext.own e o6 (fun k hk => by omega)
  have f_1 := f_1.only o6 (fun k _ _ => by omega)
  refine ⟨_, ha.cell 2, ?_⟩
  refine set_step hb (by simp) (fun w7 o7 hb n7 => ?_)
  have ha := ha.only o7 (by omega)
  have hc := hc.only o7 (by omega)
  have e := Ext.own e o7 (fun k hk => by omega)
  have f_1 := f_1.only o7 (fun k _ _ => by omega)
  refine ⟨_, hb.cell 0, r_1, hb.cell 1, _, hb.cell 2, ?_⟩
  refine put_step hc rfl rfl (fun w8 o8 hc n8 => ?_)
  have e := Ext.own e o8 (fun k hk => by omega)
  have f_1 := f_1.only o8 (fun k _ _ => by omega)
  refine ⟨_, hc.cell 0, r_1, hc.cell 1, _, hc.cell 2, ?_⟩
  exact ⟨[.int .i64 x_0, .slice r_1.a r_1.len r_1.cap, .int .i64 x_2], rfl, frF_st (frF_cons (m := w.heap.size) (fr_int ws_0) (frF_cons (m := w5.heap.size) (f_1.mono (by omega) (Nat.le_refl _)) (frF_cons (m := w5.heap.size) (fr_int ws_2) (frF_nil) (by omega) (by omega)) (by omega) (by omega)) (by omega) (by omega)), e⟩

theorem c113 {l : List Dat} {a0 : Sl} {w : World} (ht : ∀ e, e ∈ l → Has TyMsg e) (h : IsD w (.sl 3 l) [.slice a0.a a0.len a0.cap]) (hs : (Dat.sl 3 l).sz ≤ 4194304) : CallW Try.prog 113 #[.slice a0.a a0.len a0.cap] w (fun v w' => ∃ s : Sl, v = .slice s.a s.len s.cap ∧ Fr w.heap.size w'.heap.size w' (.sl 3 l) [.slice s.a s.len s.cap] ∧ Ext w w') := by
  refine go113 ?_
  unfold W113; (try delta qn ql qb qi qS qI qP qQ qR qU qA qC)
  obtain ⟨hlen, hmax, hel⟩ := isD_sl h
  simp only [Dat.sz] at hs
  rw [hlen]; simp only [Int.toNat_natCast]
  refine ⟨by omega, by omega, by omega, by omega, LetW_iff.2 ?_⟩
  have hs0 := ToInv.start (w := w) (z := 3) (zero := ti95.zero) (e := 95) l rfl
  generalize w.alloc (.cells ⟨zerosOf ti95.zero l.length⟩ 95) = w1 at *
  refine LoopW.m1 (fun (i : Int) w' => ∃ (k : Nat) (bs : List Nat) (vs : List Value), i = k ∧ ToInv w w' w.heap.size 3 l k bs vs) (fun (i : Int) _ => (l.length - i).toNat) ⟨0, [], _, rfl, hs0⟩ ?_
  rintro (i : Int) w4 ⟨k, bs, vs, rfl, hi⟩ J hJ
  refine BIf.dec (fun hlt => ?_) (fun hge => ?_)
  · obtain ⟨d, hd⟩ : ∃ d, l[k]? = some d := ⟨_, List.getElem?_eq_getElem (by omega)⟩
    have hsz := szs_get hd
    obtain ⟨p, es, hp, he, hc, his⟩ := isD_at (IsD.ext hi.ext _ _ h) hd
    have ht0 := ht d (mem_get hd)
    obtain ⟨x_0, l_1, x_2, rfl, t_1⟩ := has_Msg ht0
    have his0 := his
    obtain ⟨s_1, rfl, ws_0, is_1, ws_2⟩ := cells_Msg his
    refine ⟨by omega, by omega, p, hp, _, hc 0 _ rfl, s_1, hc 1 _ rfl, _, hc 2 _ rfl, (c122 (cs := [.int .i64 x_0, .slice s_1.a s_1.len s_1.cap, .int .i64 x_2]) ht0 his0 (by omega)).mono ?_⟩
    rintro _ w9 ⟨r, rfl, f, e9⟩
    have hr := f.is
    obtain ⟨r_1, rfl, wr_0, ir_1, wr_2⟩ := cells_Msg hr
    obtain ⟨b1, ho, hn, hb⟩ := f
    obtain ⟨hm, hi2⟩ := hi.step hd e9 ho hn (fun c hc => (hb c hc).1) rfl
    refine ⟨_, r_1, _, rfl, by omega, by omega, _, rfl, hm, LetW_iff.2 ?_⟩
    rw [w64 (by omega) (by omega)]
    exact hJ _ _ ⟨k + 1, _, _, by omega, hi2⟩ (by omega)
  · exact ⟨⟨some ⟨w.heap.size, 0, none⟩, l.length, l.length⟩, rfl, (hi.done (by omega) hmax).fr, hi.ext⟩

theorem c89 {d : Dat} {cs : List Value} {w : World} (ht : Has TyPort d) (h : IsD w d cs) (hs : d.sz ≤ 4194304) : CallW Try.prog 89 #[.agg ⟨cs⟩] w (fun v w' => ∃ cs', v = .agg ⟨cs'⟩ ∧ Fr w.heap.size w'.heap.size w' d cs' ∧ Ext w w') := by
  obtain ⟨x_0, l_1, rfl, t_1⟩ := has_Port ht
  obtain ⟨s_1, rfl, ws_0, is_1⟩ := cells_Port h
  show CallW Try.prog 89 #[.agg #[.int .i64 x_0, .slice s_1.a s_1.len s_1.cap]] w _
  refine go89 ?_
  unfold W89; (try delta qn ql qb qi qS qI qP qQ qR qU qA qC)
  refine alloc_step (fun w1 e1 ha n1 => ?_)
  refine alloc_step (fun w2 e2 hc n2 => ?_)
  have ha := ha.ext e2
  refine alloc_step (fun w3 e3 hb n3 => ?_)
  have ha := ha.ext e3
  have hc := hc.ext e3
  have e := Only.trans e1 (Only.trans e2 e3)
  refine ⟨_, ha.cell 0, ?_⟩
  refine set_step hb (by simp) (fun w4 o4 hb n4 => ?_)
  have ha := ha.only o4 (by omega)
  have hc := hc.only o4 (by omega)
  have e := Ext.own e o4 (fun k hk => by omega)
  refine ⟨s_1, ha.cell 1, ?_⟩
  refine (c113 t_1 (IsD.ext e _ _ is_1) (by simp only [Dat.sz, Dat.szs] at hs ⊢; omega)).mono ?_
  rintro _ w5 ⟨r_1, rfl, f_1, e5⟩
  refine ⟨r_1, rfl, ?_⟩
  have ha := ha.ext e5
  have hb := hb.ext e5
  have hc := hc.ext e5
  have e := Only.trans e e5
  have z5 := e5.size
  refine set_step hb (by simp) (fun w6 o6 hb n6 => ?_)
  have ha := ha.only o6 (by omega)
  have hc := hc.only o6 (by omega)
  have e := Ext.own e o6 (fun k hk => by omega)
  have f_1 := f_1.only o6 (fun k _ _ => by omega)
  refine ⟨_, hb.cell 0, r_1, hb.cell 1, ?_⟩
  refine put_step hc rfl rfl (fun w7 o7 hc n7 => ?_)
  have e := Ext.own e o7 (fun k hk => by omega)
  have f_1 := f_1.only o7 (fun k _ _ => by omega)
  refine ⟨_, hc.cell 0, r_1, hc.cell 1, ?_⟩
  exact ⟨[.int .i64 x_0, .slice r_1.a r_1.len r_1.cap], rfl, frF_st (frF_cons (m := w.heap.size) (fr_int ws_0) (frF_cons (m := w5.heap.size) (f_1.mono (by omega) (Nat.le_refl _)) (frF_nil) (by omega) (by omega)) (by omega) (by omega)), e⟩

theorem c53 {l : List Dat} {a0 : Sl} {w : World} (ht : ∀ e, e ∈ l → Has TyPort e) (h : IsD w (.sl 2 l) [.slice a0.a a0.len a0.cap]) (hs : (Dat.sl 2 l).sz ≤ 4194304) : CallW Try.prog 53 #[.slice a0.a a0.len a0.cap] w (fun v w' => ∃ s : Sl, v = .slice s.a s.len s.cap ∧ Fr w.heap.size w'.heap.size w' (.sl 2 l) [.slice s.a s.len s.cap] ∧ Ext w w') := by
  refine go53 ?_
  unfold W53; (try delta qn ql qb qi qS qI qP qQ qR qU qA qC)
  obtain ⟨hlen, hmax, hel⟩ := isD_sl h
  simp only [Dat.sz] at hs
  rw [hlen]; simp only [Int.toNat_natCast]
  refine ⟨by omega, by omega, by omega, by omega, LetW_iff.2 ?_⟩
  have hs0 := ToInv.start (w := w) (z := 2) (zero := ti93.zero) (e := 93) l rfl
  generalize w.alloc (.cells ⟨zerosOf ti93.zero l.length⟩ 93) = w1 at *
  refine LoopW.m1 (fun (i : Int) w' => ∃ (k : Nat) (bs : List Nat) (vs : List Value), i = k ∧ ToInv w w' w.heap.size 2 l k bs vs) (fun (i : Int) _ => (l.length - i).toNat) ⟨0, [], _, rfl, hs0⟩ ?_
  rintro (i : Int) w4 ⟨k, bs, vs, rfl, hi⟩ J hJ
  refine BIf.dec (fun hlt => ?_) (fun hge => ?_)
  · obtain ⟨d, hd⟩ : ∃ d, l[k]? = some d := ⟨_, List.getElem?_eq_getElem (by omega)⟩
    have hsz := szs_get hd
    obtain ⟨p, es, hp, he, hc, his⟩ := isD_at (IsD.ext hi.ext _ _ h) hd
    have ht0 := ht d (mem_get hd)
    obtain ⟨x_0, l_1, rfl, t_1⟩ := has_Port ht0
    have his0 := his
    obtain ⟨s_1, rfl, ws_0, is_1⟩ := cells_Port his
    refine ⟨by omega, by omega, p, hp, _, hc 0 _ rfl, s_1, hc 1 _ rfl, (c89 (cs := [.int .i64 x_0, .slice s_1.a s_1.len s_1.cap]) ht0 his0 (by omega)).mono ?_⟩
    rintro _ w9 ⟨r, rfl, f, e9⟩
    have hr := f.is
    obtain ⟨r_1, rfl, wr_0, ir_1⟩ := cells_Port hr
    obtain ⟨b1, ho, hn, hb⟩ := f
    obtain ⟨hm, hi2⟩ := hi.step hd e9 ho hn (fun c hc => (hb c hc).1) rfl
    refine ⟨_, r_1, rfl, by omega, by omega, _, rfl, hm, LetW_iff.2 ?_⟩
    rw [w64 (by omega) (by omega)]
    exact hJ _ _ ⟨k + 1, _, _, by omega, hi2⟩ (by omega)
  · exact ⟨⟨some ⟨w.heap.size, 0, none⟩, l.length, l.length⟩, rfl, (hi.done (by omega) hmax).fr, hi.ext⟩

theorem c90 {d : Dat} {cs : List Value} {w : World} (ht : Has TyCap d) (h : IsD w d cs) (hs : d.sz ≤ 4194304) : CallW Try.prog 90 #[.agg ⟨cs⟩] w (fun v w' => ∃ cs', v = .agg ⟨cs'⟩ ∧ Fr w.heap.size w'.heap.size w' d cs' ∧ Ext w w') := by
  obtain ⟨x_0, x_1, x_2, x_3, x_4, rfl⟩ := has_Cap ht
  obtain ⟨rfl, ws_0, ws_1, ws_2, ws_3, ws_4⟩ := cells_Cap h
  show CallW Try.prog 90 #[.agg #[.int .i64 x_0, .int .i64 x_1, .int .i64 x_2, .int .i64 x_3, .int .i64 x_4]] w _
  refine go90 ?_
  unfold W90; (try delta qn ql qb qi qS qI qP qQ qR qU qA qC)
  refine alloc_step (fun w1 e1 ha n1 => ?_)
  refine alloc_step (fun w2 e2 hc n2 => ?_)
  have ha := ha.ext e2
  refine alloc_step (fun w3 e3 hb n3 => ?_)
  have ha := ha.ext e3
  have hc := hc.ext e3
  have e := Only.trans e1 (Only.trans e2 e3)
  refine ⟨_, ha.cell 0, ?_⟩
  refine set_step hb (by simp) (fun w4 o4 hb n4 => ?_)
  have ha := ha.only o4 (by omega)
  have hc := hc.only o4 (by omega)
  have e := Ext.own e o4 (fun k hk => by omega)
  refine ⟨_, ha.cell 1, ?_⟩
  refine set_step hb (by simp) (fun w5 o5 hb n5 => ?_)
  have ha := ha.only o5 (by omega)
  have hc := hc.only o5 (by omega)
  have e := Ext.own e o5 (fun k hk => by omega)
  refine ⟨_, ha.cell 2, ?_⟩
  refine set_step hb (by simp) (fun w6 o6 hb n6 => ?_)
  have ha := ha.only o6 (by omega)
  have hc := hc.only o6 (by omega)
  have e := Ext.own e o6 (fun k hk => by omega)
  refine ⟨_, ha.cell 3, ?_⟩
  refine set_step hb (by simp) (fun w7 o7 hb n7 => ?_)
  have ha := ha.only o7 (by omega)
  have hc := hc.only o7 (by omega)
  have e := Ext.own e o7 (fun k hk => by omega)
  refine ⟨_, ha.cell 4, ?_⟩
  refine set_step hb (by simp) (fun w8 o8 hb n8 => ?_)
  have ha := ha.only o8 (by omega)
  have hc := hc.only o8 (by omega)
  have e := Ext.own e o8 (fun k hk => by omega)
  refine ⟨_, hb.cell 0, _, hb.cell 1, _, hb.cell 2, _, hb.cell 3, _, hb.cell 4, ?_⟩
  refine put_step hc rfl rfl (fun w9 o9 hc n9 => ?_)
  have e := Ext.own e o9 (fun k hk => by omega)
  refine ⟨_, hc.cell 0, _, hc.cell 1, _, hc.cell 2, _, hc.cell 3, _, hc.cell 4, ?_⟩
  exact ⟨[.int .i64 x_0, .int .i64 x_1, .int .i64 x_2, .int .i64 x_3, .int .i64 x_4], rfl, frF_st (frF_cons (m := w.heap.size) (fr_int ws_0) (frF_cons (m := w.heap.size) (fr_int ws_1) (frF_cons (m := w.heap.size) (fr_int ws_2) (frF_cons (m := w.heap.size) (fr_int ws_3) (frF_cons (m := w.heap.size) (fr_int ws_4) (frF_nil) (by omega) (by omega)) (by omega) (by omega)) (by omega) (by omega)) (by omega) (by omega)) (by omega) (by omega)), e⟩

theorem c54 {l : List Dat} {a0 : Sl} {w : World} (ht : ∀ e, e ∈ l → Has TyCap e) (h : IsD w (.sl 5 l) [.slice a0.a a0.len a0.cap]) (hs : (Dat.sl 5 l).sz ≤ 4194304) : CallW Try.prog 54 #[.slice a0.a a0.len a0.cap] w (fun v w' => ∃ s : Sl, v = .slice s.a s.len s.cap ∧ Fr w.heap.size w'.heap.size w' (.sl 5 l) [.slice s.a s.len s.cap] ∧ Ext w w') := by
  refine go54 ?_
  unfold W54; (try delta qn ql qb qi qS qI qP qQ qR qU qA qC)
  obtain ⟨hlen, hmax, hel⟩ := isD_sl h
  simp only [Dat.sz] at hs
  rw [hlen]; simp only [Int.toNat_natCast]
  refine ⟨by omega, by omega, by omega, by omega, LetW_iff.2 ?_⟩
  have hs0 := ToInv.start (w := w) (z := 5) (zero := ti67.zero) (e := 67) l rfl
  generalize w.alloc (.cells ⟨zerosOf ti67.zero l.length⟩ 67) = w1 at *
  refine LoopW.m1 (fun (i : Int) w' => ∃ (k : Nat) (bs : List Nat) (vs : List Value), i = k ∧ ToInv w w' w.heap.size 5 l k bs vs) (fun (i : Int) _ => (l.length - i).toNat) ⟨0, [], _, rfl, hs0⟩ ?_
  rintro (i : Int) w4 ⟨k, bs, vs, rfl, hi⟩ J hJ
  refine BIf.dec (fun hlt => ?_) (fun hge => ?_)
  · obtain ⟨d, hd⟩ : ∃ d, l[k]? = some d := ⟨_, List.getElem?_eq_getElem (by omega)⟩
    have hsz := szs_get hd
    obtain ⟨p, es, hp, he, hc, his⟩ := isD_at (IsD.ext hi.ext _ _ h) hd
    have ht0 := ht d (mem_get hd)
    obtain ⟨x_0, x_1, x_2, x_3, x_4, rfl⟩ := has_Cap ht0
    have his0 := his
    obtain ⟨rfl, ws_0, ws_1, ws_2, ws_3, ws_4⟩ := cells_Cap his
    refine ⟨by omega, by omega, p, hp, _, hc 0 _ rfl, _, hc 1 _ rfl, _, hc 2 _ rfl, _, hc 3 _ rfl, _, hc 4 _ rfl, (c90 (cs := [.int .i64 x_0, .int .i64 x_1, .int .i64 x_2, .int .i64 x_3, .int .i64 x_4]) ht0 his0 (by omega)).mono ?_⟩
    rintro _ w9 ⟨r, rfl, f, e9⟩
    have hr := f.is
    obtain ⟨rfl, wr_0, wr_1, wr_2, wr_3, wr_4⟩ := cells_Cap hr
    obtain ⟨b1, ho, hn, hb⟩ := f
    obtain ⟨hm, hi2⟩ := hi.step hd e9 ho hn (fun c hc => (hb c hc).1) rfl
    refine ⟨_, _, _, _, _, rfl, by omega, by omega, _, rfl, hm, LetW_iff.2 ?_⟩
    rw [w64 (by omega) (by omega)]
    exact hJ _ _ ⟨k + 1, _, _, by omega, hi2⟩ (by omega)
  · exact ⟨⟨some ⟨w.heap.size, 0, none⟩, l.length, l.length⟩, rfl, (hi.done (by omega) hmax).fr, hi.ext⟩

theorem c91 {d : Dat} {cs : List Value} {w : World} (ht : Has TyPipe d) (h : IsD w d cs) (hs : d.sz ≤ 4194304) : CallW Try.prog 91 #[.agg ⟨cs⟩] w (fun v w' => ∃ cs', v = .agg ⟨cs'⟩ ∧ Fr w.heap.size w'.heap.size w' d cs' ∧ Ext w w') := by
  obtain ⟨x_0, x_1, x_2, l_3, rfl, t_3⟩ := has_Pipe ht
  obtain ⟨s_3, rfl, ws_0, ws_1, ws_2, is_3⟩ := cells_Pipe h
  show CallW Try.prog 91 #[.agg #[.int .i64 x_0, .int .i64 x_1, .int .i64 x_2, .slice s_3.a s_3.len s_3.cap]] w _
  refine go91 ?_
  unfold W91; (try delta qn ql qb qi qS qI qP qQ qR qU qA qC)
  refine alloc_step (fun w1 e1 ha n1 => ?_)
  refine alloc_step (fun w2 e2 hc n2 => ?_)
  have ha := ha.ext e2
  refine alloc_step (fun w3 e3 hb n3 => ?_)
  have ha := ha.ext e3
  have hc := hc.ext e3
  have e := Only.trans e1 (Only.trans e2 e3)
  refine ⟨_, ha.cell 0, ?_⟩
  refine set_step hb (by simp) (fun w4 o4 hb n4 => ?_)
  have ha := ha.only o4 (by omega)
  have hc := hc.only o4 (by omega)
  have e := Ext.own e o4 (fun k hk => by omega)
  refine ⟨_, ha.cell 1, ?_⟩
  refine set_step hb (by simp) (fun w5 o5 hb n5 => ?_)
  have ha := ha.only o5 (by omega)
  have hc := hc.only o5 (by omega)
  have e := Ext.own e o5 (fun k hk => by omega)
  refine ⟨_, ha.cell 2, ?_⟩
  refine set_step hb (by simp) (fun w6 o6 hb n6 => ?_)
  have ha := ha.only o6 (by omega)
  have hc := hc.only o6 (by omega)
  have e := Ext.own e o6 (fun k hk => by omega)
  refine ⟨s_3, ha.cell 3, ?_⟩
  refine (c78 t_3 (IsD.ext e _ _ is_3) (by simp only [Dat.sz, Dat.szs] at hs ⊢; omega)).mono ?_
  rintro _ w7 ⟨r_3, rfl, f_3, e7⟩
  refine ⟨r_3, rfl, ?_⟩
  have ha := ha.ext e7
  have hb := hb.ext e7
  have hc := hc.ext e7
  have e := Only.trans e e7
  have z7 := e7.size
  refine set_step hb (by simp) (fun w8 o8 hb n8 => ?_)
  have ha := ha.only o8 (by omega)
  have hc := hc.only o8 (by omega)
  have e := Ext.own e o8 (fun k hk => by omega)
  have f_3 := f_3.only o8 (fun k _ _ => by omega)
  refine ⟨_, hb.cell 0, _, hb.cell 1, _, hb.cell 2, r_3, hb.cell 3, ?_⟩
  refine put_step hc rfl rfl (fun w9 o9 hc n9 => ?_)
  have e := Ext.own e o9 (fun k hk => by omega)
  have f_3 := f_3.only o9 (fun k _ _ => by omega)
  refine ⟨_, hc.cell 0, _, hc.cell 1, _, hc.cell 2, r_3, hc.cell 3, ?_⟩
  exact ⟨[.int .i64 x_0, .int .i64 x_1, .int .i64 x_2, .slice r_3.a r_3.len r_3.cap], rfl, frF_st (frF_cons (m := w.heap.size) (fr_int ws_0) (frF_cons (m := w.heap.size) (fr_int ws_1) (frF_cons (m := w.heap.size) (fr_int ws_2) (frF_cons (m := w7.heap.size) (f_3.mono (by omega) (Nat.le_refl _)) (frF_nil) (by omega) (by omega)) (by omega) (by omega)) (by omega) (by omega)) (by omega) (by omega)), e⟩

theorem c55 {l : List Dat} {a0 : Sl} {w : World} (ht : ∀ e, e ∈ l → Has TyPipe e) (h : IsD w (.sl 4 l) [.slice a0.a a0.len a0.cap]) (hs : (Dat.sl 4 l).sz ≤ 4194304) : CallW Try.prog 55 #[.slice a0.a a0.len a0.cap] w (fun v w' => ∃ s : Sl, v = .slice s.a s.len s.cap ∧ Fr w.heap.size w'.heap.size w' (.sl 4 l) [.slice s.a s.len s.cap] ∧ Ext w w') := by
  refine go55 ?_
  unfold W55; (try delta qn ql qb qi qS qI qP qQ qR qU qA qC)
  obtain ⟨hlen, hmax, hel⟩ := isD_sl h
  simp only [Dat.sz] at hs
  rw [hlen]; simp only [Int.toNat_natCast]
  refine ⟨by omega, by omega, by omega, by omega, LetW_iff.2 ?_⟩
  have hs0 := ToInv.start (w := w) (z := 4) (zero := ti97.zero) (e := 97) l rfl
  generalize w.alloc (.cells ⟨zerosOf ti97.zero l.length⟩ 97) = w1 at *
  refine LoopW.m1 (fun (i : Int) w' => ∃ (k : Nat) (bs : List Nat) (vs : List Value), i = k ∧ ToInv w w' w.heap.size 4 l k bs vs) (fun (i : Int) _ => (l.length - i).toNat) ⟨0, [], _, rfl, hs0⟩ ?_
  rintro (i : Int) w4 ⟨k, bs, vs, rfl, hi⟩ J hJ
  refine BIf.dec (fun hlt => ?_) (fun hge => ?_)
  · obtain ⟨d, hd⟩ : ∃ d, l[k]? = some d := ⟨_, List.getElem?_eq_getElem (by omega)⟩
    have hsz := szs_get hd
    obtain ⟨p, es, hp, he, hc, his⟩ := isD_at (IsD.ext hi.ext _ _ h) hd
    have ht0 := ht d (mem_get hd)
    obtain ⟨x_0, x_1, x_2, l_3, rfl, t_3⟩ := has_Pipe ht0
    have his0 := his
    obtain ⟨s_3, rfl, ws_0, ws_1, ws_2, is_3⟩ := cells_Pipe his
    refine ⟨by omega, by omega, p, hp, _, hc 0 _ rfl, _, hc 1 _ rfl, _, hc 2 _ rfl, s_3, hc 3 _ rfl, (c91 (cs := [.int .i64 x_0, .int .i64 x_1, .int .i64 x_2, .slice s_3.a s_3.len s_3.cap]) ht0 his0 (by omega)).mono ?_⟩
    rintro _ w9 ⟨r, rfl, f, e9⟩
    have hr := f.is
    obtain ⟨r_3, rfl, wr_0, wr_1, wr_2, ir_3⟩ := cells_Pipe hr
    obtain ⟨b1, ho, hn, hb⟩ := f
    obtain ⟨hm, hi2⟩ := hi.step hd e9 ho hn (fun c hc => (hb c hc).1) rfl
    refine ⟨_, _, _, r_3, rfl, by omega, by omega, _, rfl, hm, LetW_iff.2 ?_⟩
    rw [w64 (by omega) (by omega)]
    exact hJ _ _ ⟨k + 1, _, _, by omega, hi2⟩ (by omega)
  · exact ⟨⟨some ⟨w.heap.size, 0, none⟩, l.length, l.length⟩, rfl, (hi.done (by omega) hmax).fr, hi.ext⟩

theorem c11 {d : Dat} {cs : List Value} {w : World} (ht : Has TyIpc d) (h : IsD w d cs) (hs : d.sz ≤ 4194304) : CallW Try.prog 11 #[.agg ⟨cs⟩] w (fun v w' => ∃ cs', v = .agg ⟨cs'⟩ ∧ Fr w.heap.size w'.heap.size w' d cs' ∧ Ext w w') := by
  obtain ⟨x_0, l_1, l_2, l_3, rfl, t_1, t_2, t_3⟩ := has_Ipc ht
  obtain ⟨s_1, s_2, s_3, rfl, ws_0, is_1, is_2, is_3⟩ := cells_Ipc h
  show CallW Try.prog 11 #[.agg #[.int .i64 x_0, .slice s_1.a s_1.len s_1.cap, .slice s_2.a s_2.len s_2.cap, .slice s_3.a s_3.len s_3.cap]] w _
  refine go11 ?_
  unfold W11; (try delta qn ql qb qi qS qI qP qQ qR qU qA qC)
  refine alloc_step (fun w1 e1 ha n1 => ?_)
  refine alloc_step (fun w2 e2 hc n2 => ?_)
  have ha := ha.ext e2
  refine alloc_step (fun w3 e3 hb n3 => ?_)
  have ha := ha.ext e3
  have hc := hc.ext e3
  have e := Only.trans e1 (Only.trans e2 e3)
  refine ⟨_, ha.cell 0, ?_⟩
  refine set_step hb (by simp) (fun w4 o4 hb n4 => ?_)
  have ha := ha.only o4 (by omega)
  have hc := hc.only o4 (by omega)
  have e := Ext.own e o4 (fun k hk => by omega)
  refine ⟨s_1, ha.cell 1, ?_⟩
  refine (c53 t_1 (IsD.ext e _ _ is_1) (by simp only [Dat.sz, Dat.szs] at hs ⊢; omega)).mono ?_
  rintro _ w5 ⟨r_1, rfl, f_1, e5⟩
  refine ⟨r_1, rfl, ?_⟩
  have ha := ha.ext e5
  have hb := hb.ext e5
  have hc := hc.ext e5
  have e := Only.trans e e5
  have z5 := e5.size
  refine set_step hb (by simp) (fun w6 o6 hb n6 => ?_)
  have ha := ha.only o6 (by omega)
  have hc := hc.only o6 (by omega)
  have e := Ext.own e o6 (fun k hk => by omega)
  have f_1 := f_1.only o6 (fun k _ _ => by omega)
  refine ⟨s_2, ha.cell 2, ?_⟩
  refine (c54 t_2 (IsD.ext e _ _ is_2) (by simp only [Dat.sz, Dat.szs] at hs ⊢; omega)).mono ?_
  rintro _ w7 ⟨r_2, rfl, f_2, e7⟩
  refine ⟨r_2, rfl, ?_⟩
  have ha := ha.ext e7
  have hb := hb.ext e7
  have hc := hc.ext e7
  have e := Only.trans e e7
  have z7 := e7.size
  have f_1 := f_1.ext e7
  refine set_step hb (by simp) (fun w8 o8 hb n8 => ?_)
  have ha := ha.only o8 (by omega)
  have hc := hc.only o8 (by omega)
  have e := Ext.own e o8 (fun k hk => by omega)
  have f_1 := f_1.only o8 (fun k _ _ => by omega)
  have f_2 := f_2.only o8 (fun k _ _ => by omega)
  refine ⟨s_3, ha.cell 3, ?_⟩
  refine (c55 t_3 (IsD.ext e _ _ is_3) (by simp only [Dat.sz, Dat.szs] at hs ⊢; omega)).mono ?_
  rintro _ w9 ⟨r_3, rfl, f_3, e9⟩
  refine ⟨r_3, rfl, ?_⟩
  have ha := ha.ext e9
  have hb := hb.ext e9
  have hc := hc.ext e9
  have e := Only.trans e e9
  have z9 := e9.size
  have f_1 := f_1.ext e9
  have f_2 := f_2.ext e9
  refine set_step hb (by simp) (fun w10 o10 hb n10 => ?_)
  have ha := ha.only o10 (by omega)
  have hc := hc.only o10 (by omega)
  have e := Ext.own e o10 (fun k hk => by omega)
  have f_1 := f_1.only o10 (fun k _ _ => by omega)
  have f_2 := f_2.only o10 (fun k _ _ => by omega)
  have f_3 := f_3.only o10 (fun k _ _ => by omega)
  refine ⟨_, hb.cell 0, r_1, hb.cell 1, r_2, hb.cell 2, r_3, hb.cell 3, ?_⟩
  refine put_step hc rfl rfl (fun w11 o11 hc n11 => ?_)
  have e := Ext.own e o11 (fun k hk => by omega)
  have f_1 := f_1.only o11 (fun k _ _ => by omega)
  have f_2 := f_2.only o11 (fun k _ _ => by omega)
  have f_3 := f_3.only o11 (fun k _ _ => by omega)
  refine ⟨_, hc.cell 0, r_1, hc.cell 1, r_2, hc.cell 2, r_3, hc.cell 3, ?_⟩
  exact ⟨[.int .i64 x_0, .slice r_1.a r_1.len r_1.cap, .slice r_2.a r_2.len r_2.cap, .slice r_3.a r_3.len r_3.cap], rfl, frF_st (frF_cons (m := w.heap.size) (fr_int ws_0) (frF_cons (m := w5.heap.size) (f_1.mono (by omega) (Nat.le_refl _)) (frF_cons (m := w7.heap.size) (f_2.mono (by omega) (Nat.le_refl _)) (frF_cons (m := w9.heap.size) (f_3.mono (by omega) (Nat.le_refl _)) (frF_nil) (by omega) (by omega)) (by omega) (by omega)) (by omega) (by omega)) (by omega) (by omega)), e⟩

theorem c62 {d : Dat} {cs1 cs2 : List Value} {w : World} (ht : Has TyCap d) (h : IsD w d cs1) (h2 : IsD w d cs2) : CallW Try.prog 62 #[.agg ⟨cs1⟩, .agg ⟨cs2⟩] w (fun v w' => v = .bool true ∧ Ext w w') := by
  obtain ⟨x_0, x_1, x_2, x_3, x_4, rfl⟩ := has_Cap ht
  obtain ⟨rfl, ws_0, ws_1, ws_2, ws_3, ws_4⟩ := cells_Cap h
  obtain ⟨rfl, wu_0, wu_1, wu_2, wu_3, wu_4⟩ := cells_Cap h2
  show CallW Try.prog 62 #[.agg #[.int .i64 x_0, .int .i64 x_1, .int .i64 x_2, .int .i64 x_3, .int .i64 x_4], .agg #[.int .i64 x_0, .int .i64 x_1, .int .i64 x_2, .int .i64 x_3, .int .i64 x_4]] w _
  refine go62 ?_
  unfold W62; (try delta qn ql qb qi qS qI qP qQ qR qU qA qC)
  refine alloc_step (fun w1 e1 ha n1 => ?_)
  refine alloc_step (fun w2 e2 hb n2 => ?_)
  have ha := ha.ext e2
  have e := Only.trans e1 e2
  refine ⟨_, ha.cell 0, _, hb.cell 0, BIf.f (by simp) ?_⟩
  refine ⟨_, ha.cell 1, _, hb.cell 1, BIf.f (by simp) ?_⟩
  refine ⟨_, ha.cell 2, _, hb.cell 2, BIf.f (by simp) ?_⟩
  refine ⟨_, ha.cell 3, _, hb.cell 3, BIf.f (by simp) ?_⟩
  refine ⟨_, ha.cell 4, _, hb.cell 4, BIf.f (by simp) ?_⟩
  exact ⟨rfl, e⟩

theorem c16 {l : List Dat} {a0 a1 : Sl} {w : World} (ht : ∀ e, e ∈ l → Has TyCap e) (h : IsD w (.sl 5 l) [.slice a0.a a0.len a0.cap]) (h2 : IsD w (.sl 5 l) [.slice a1.a a1.len a1.cap]) : CallW Try.prog 16 #[.slice a0.a a0.len a0.cap, .slice a1.a a1.len a1.cap] w (fun v w' => v = .bool true ∧ Ext w w') := by
  refine go16 ?_
  unfold W16; (try delta qn ql qb qi qS qI qP qQ qR qU qA qC)
  obtain ⟨hlen, hmax, hel⟩ := isD_sl h
  obtain ⟨hlen2, _, hel2⟩ := isD_sl h2
  have hmx : maxLen = 9223372036854775807 := rfl
  rw [hlen, hlen2]
  refine BIf.f (by simp) ?_
  refine LoopW.m1 (fun (i : Int) w' => ∃ k : Nat, i = k ∧ k ≤ l.length ∧ Ext w w') (fun (i : Int) _ => (l.length - i).toNat) ⟨0, rfl, by omega, Only.refl _ _⟩ ?_
  rintro (i : Int) w4 ⟨k, rfl, hk, e4⟩ J hJ
  refine BIf.dec (fun hlt => ?_) (fun hge => ⟨rfl, e4⟩)
  obtain ⟨d, hd⟩ : ∃ d, l[k]? = some d := ⟨_, List.getElem?_eq_getElem (by omega)⟩
  have e4 := Only.trans e4 (ext_drew w4)
  obtain ⟨p, es, hp, he, hc, his⟩ := isD_at (IsD.ext e4 _ _ h) hd
  obtain ⟨p2, es2, hp2, he2, hc2, his2⟩ := isD_at (IsD.ext e4 _ _ h2) hd
  have ht0 := ht d (mem_get hd)
  have ht1 := ht0
  obtain ⟨x_0, x_1, x_2, x_3, x_4, rfl⟩ := has_Cap ht1
  have his0 := his
  have his20 := his2
  obtain ⟨rfl, ws_0, ws_1, ws_2, ws_3, ws_4⟩ := cells_Cap his
  obtain ⟨rfl, wu_0, wu_1, wu_2, wu_3, wu_4⟩ := cells_Cap his2
  refine ⟨by omega, by omega, p, hp, _, hc 0 _ rfl, _, hc 1 _ rfl, _, hc 2 _ rfl, _, hc 3 _ rfl, _, hc 4 _ rfl, by omega, by omega, p2, hp2, _, hc2 0 _ rfl, _, hc2 1 _ rfl, _, hc2 2 _ rfl, _, hc2 3 _ rfl, _, hc2 4 _ rfl, (c62 (cs1 := [.int .i64 x_0, .int .i64 x_1, .int .i64 x_2, .int .i64 x_3, .int .i64 x_4]) (cs2 := [.int .i64 x_0, .int .i64 x_1, .int .i64 x_2, .int .i64 x_3, .int .i64 x_4]) ht0 his0 his20).mono ?_⟩
  rintro _ w9 ⟨rfl, e9⟩
  refine ⟨true, rfl, BIf.f rfl ?_⟩
  rw [w64 (by omega) (by omega)]
  exact hJ _ _ ⟨k + 1, by omega, by omega, Only.trans e4 e9⟩ (by omega)

theorem c79 {l : List Dat} {a0 a1 : Sl} {w : World} (ht : ∀ e, e ∈ l → Has (.int .u8) e) (h : IsD w (.sl 1 l) [.slice a0.a a0.len a0.cap]) (h2 : IsD w (.sl 1 l) [.slice a1.a a1.len a1.cap]) : CallW Try.prog 79 #[.slice a0.a a0.len a0.cap, .slice a1.a a1.len a1.cap] w (fun v w' => v = .bool true ∧ Ext w w') := by
  refine go79 ?_
  unfold W79; (try delta qn ql qb qi qS qI qP qQ qR qU qA qC)
  obtain ⟨hlen, hmax, hel⟩ := isD_sl h
  obtain ⟨hlen2, _, hel2⟩ := isD_sl h2
  have hmx : maxLen = 9223372036854775807 := rfl
  rw [hlen, hlen2]
  refine BIf.f (by simp) ?_
  refine LoopW.m1 (fun (i : Int) w' => ∃ k : Nat, i = k ∧ k ≤ l.length ∧ Ext w w') (fun (i : Int) _ => (l.length - i).toNat) ⟨0, rfl, by omega, Only.refl _ _⟩ ?_
  rintro (i : Int) w4 ⟨k, rfl, hk, e4⟩ J hJ
  refine BIf.dec (fun hlt => ?_) (fun hge => ⟨rfl, e4⟩)
  obtain ⟨d, hd⟩ : ∃ d, l[k]? = some d := ⟨_, List.getElem?_eq_getElem (by omega)⟩
  have e4 := Only.trans e4 (ext_drew w4)
  obtain ⟨p, es, hp, he, hc, his⟩ := isD_at (IsD.ext e4 _ _ h) hd
  obtain ⟨p2, es2, hp2, he2, hc2, his2⟩ := isD_at (IsD.ext e4 _ _ h2) hd
  have ht0 := ht d (mem_get hd)
  have ht1 := ht0
  obtain ⟨x, rfl⟩ := has_int ht1
  obtain ⟨rfl, ws⟩ := isD_int his
  obtain ⟨rfl, wu⟩ := isD_int his2
  refine ⟨by omega, by omega, p, hp, _, hc 0 _ rfl, by omega, by omega, p2, hp2, _, hc2 0 _ rfl, BIf.f (by simp) ?_⟩
  rw [w64 (by omega) (by omega)]
  exact hJ _ _ ⟨k + 1, by omega, by omega, e4⟩ (by omega)

theorem c123 {d : Dat} {cs1 cs2 : List Value} {w : World} (ht : Has TyMsg d) (h : IsD w d cs1) (h2 : IsD w d cs2) : CallW Try.prog 123 #[.agg ⟨cs1⟩, .agg ⟨cs2⟩] w (fun v w' => v = .bool true ∧ Ext w w') := by
  obtain ⟨x_0, l_1, x_2, rfl, t_1⟩ := has_Msg ht
  obtain ⟨s_1, rfl, ws_0, is_1, ws_2⟩ := cells_Msg h
  obtain ⟨u_1, rfl, wu_0, iu_1, wu_2⟩ := cells_Msg h2
  show CallW Try.prog 123 #[.agg #[.int .i64 x_0, .slice s_1.a s_1.len s_1.cap, .int .i64 x_2], .agg #[.int .i64 x_0, .slice u_1.a u_1.len u_1.cap, .int .i64 x_2]] w _
  refine go123 ?_
  unfold W123; (try delta qn ql qb qi qS qI qP qQ qR qU qA qC)
  refine alloc_step (fun w1 e1 ha n1 => ?_)
  refine alloc_step (fun w2 e2 hb n2 => ?_)
  have ha := ha.ext e2
  have e := Only.trans e1 e2
  refine ⟨_, ha.cell 0, _, hb.cell 0, BIf.f (by simp) ?_⟩
  refine ⟨s_1, ha.cell 1, u_1, hb.cell 1, (c79 t_1 (IsD.ext e _ _ is_1) (IsD.ext e _ _ iu_1)).mono ?_⟩
  rintro _ w3 ⟨rfl, e3⟩
  have ha := ha.ext e3
  have hb := hb.ext e3
  have e := Only.trans e e3
  refine ⟨true, rfl, BIf.f rfl ?_⟩
  refine ⟨_, ha.cell 2, _, hb.cell 2, BIf.f (by simp) ?_⟩
  exact ⟨rfl, e⟩

theorem c114 {l : List Dat} {a0 a1 : Sl} {w : World} (ht : ∀ e, e ∈ l → Has TyMsg e) (h : IsD w (.sl 3 l) [.slice a0.a a0.len a0.cap]) (h2 : IsD w (.sl 3 l) [.slice a1.a a1.len a1.cap]) : CallW Try.prog 114 #[.slice a0.a a0.len a0.cap, .slice a1.a a1.len a1.cap] w (fun v w' => v = .bool true ∧ Ext w w') := by
  refine go114 ?_
  unfold W114; (try delta qn ql qb qi qS qI qP qQ qR qU qA qC)
  obtain ⟨hlen, hmax, hel⟩ := isD_sl h
  obtain ⟨hlen2, _, hel2⟩ := isD_sl h2
  have hmx : maxLen = 9223372036854775807 := rfl
  rw [hlen, hlen2]
  refine BIf.f (by simp) ?_
  refine LoopW.m1 (fun (i : Int) w' => ∃ k : Nat, i = k ∧ k ≤ l.length ∧ Ext w w') (fun (i : Int) _ => (l.length - i).toNat) ⟨0, rfl, by omega, Only.refl _ _⟩ ?_
  rintro (i : Int) w4 ⟨k, rfl, hk, e4⟩ J hJ
  refine BIf.dec (fun hlt => ?_) (fun hge => ⟨rfl, e4⟩)
  obtain ⟨d, hd⟩ : ∃ d, l[k]? = some d := ⟨_, List.getElem?_eq_getElem (by omega)⟩
  have e4 := Only.trans e4 (ext_drew w4)
  obtain ⟨p, es, hp, he, hc, his⟩ := isD_at (IsD.ext e4 _ _ h) hd
  obtain ⟨p2, es2, hp2, he2, hc2, his2⟩ := isD_at (IsD.ext e4 _ _ h2) hd
  have ht0 := ht d (mem_get hd)
  have ht1 := ht0
  obtain ⟨x_0, l_1, x_2, rfl, t_1⟩ := has_Msg ht1
  have his0 := his
  have his20 := his2
  obtain ⟨s_1, rfl, ws_0, is_1, ws_2⟩ := cells_Msg his
  obtain ⟨u_1, rfl, wu_0, iu_1, wu_2⟩ := cells_Msg his2
  refine ⟨by omega, by omega, p, hp, _, hc 0 _ rfl, s_1, hc 1 _ rfl, _, hc 2 _ rfl, by omega, by omega, p2, hp2, _, hc2 0 _ rfl, u_1, hc2 1 _ rfl, _, hc2 2 _ rfl, (c123 (cs1 := [.int .i64 x_0, .slice s_1.a s_1.len s_1.cap, .int .i64 x_2]) (cs2 := [.int .i64 x_0, .slice u_1.a u_1.len u_1.cap, .int .i64 x_2]) ht0 his0 his20).mono ?_⟩
  rintro _ w9 ⟨rfl, e9⟩
  refine ⟨true, rfl, BIf.f rfl ?_⟩
  rw [w64 (by omega) (by omega)]
  exact hJ _ _ ⟨k + 1, by omega, by omega, Only.trans e4 e9⟩ (by omega)

theorem c92 {d : Dat} {cs1 cs2 : List Value} {w : World} (ht : Has TyPort d) (h : IsD w d cs1) (h2 : IsD w d cs2) : CallW Try.prog 92 #[.agg ⟨cs1⟩, .agg ⟨cs2⟩] w (fun v w' => v = .bool true ∧ Ext w w') := by
  obtain ⟨x_0, l_1, rfl, t_1⟩ := has_Port ht
  obtain ⟨s_1, rfl, ws_0, is_1⟩ := cells_Port h
  obtain ⟨u_1, rfl, wu_0, iu_1⟩ := cells_Port h2
  show CallW Try.prog 92 #[.agg #[.int .i64 x_0, .slice s_1.a s_1.len s_1.cap], .agg #[.int .i64 x_0, .slice u_1.a u_1.len u_1.cap]] w _
  refine go92 ?_
  unfold W92; (try delta qn ql qb qi qS qI qP qQ qR qU qA qC)
  refine alloc_step (fun w1 e1 ha n1 => ?_)
  refine alloc_step (fun w2 e2 hb n2 => ?_)
  have ha := ha.ext e2
  have e := Only.trans e1 e2
  refine ⟨_, ha.cell 0, _, hb.cell 0, BIf.f (by simp) ?_⟩
  refine ⟨s_1, ha.cell 1, u_1, hb.cell 1, (c114 t_1 (IsD.ext e _ _ is_1) (IsD.ext e _ _ iu_1)).mono ?_⟩
  rintro _ w3 ⟨rfl, e3⟩
  have ha := ha.ext e3
  have hb := hb.ext e3
  have e := Only.trans e e3
  refine ⟨true, rfl, BIf.f rfl ?_⟩
  exact ⟨rfl, e⟩

theorem c60 {l : List Dat} {a0 a1 : Sl} {w : World} (ht : ∀ e, e ∈ l → Has TyPort e) (h : IsD w (.sl 2 l) [.slice a0.a a0.len a0.cap]) (h2 : IsD w (.sl 2 l) [.slice a1.a a1.len a1.cap]) : CallW Try.prog 60 #[.slice a0.a a0.len a0.cap, .slice a1.a a1.len a1.cap] w (fun v w' => v = .bool true ∧ Ext w w') := by
  refine go60 ?_
  unfold W60; (try delta qn ql qb qi qS qI qP qQ qR qU qA qC)
  obtain ⟨hlen, hmax, hel⟩ := isD_sl h
  obtain ⟨hlen2, _, hel2⟩ := isD_sl h2
  have hmx : maxLen = 9223372036854775807 := rfl
  rw [hlen, hlen2]
  refine BIf.f (by simp) ?_
  refine LoopW.m1 (fun (i : Int) w' => ∃ k : Nat, i = k ∧ k ≤ l.length ∧ Ext w w') (fun (i : Int) _ => (l.length - i).toNat) ⟨0, rfl, by omega, Only.refl _ _⟩ ?_
  rintro (i : Int) w4 ⟨k, rfl, hk, e4⟩ J hJ
  refine BIf.dec (fun hlt => ?_) (fun hge => ⟨rfl, e4⟩)
  obtain ⟨d, hd⟩ : ∃ d, l[k]? = some d := ⟨_, List.getElem?_eq_getElem (by omega)⟩
  have e4 := Only.trans e4 (ext_drew w4)
  obtain ⟨p, es, hp, he, hc, his⟩ := isD_at (IsD.ext e4 _ _ h) hd
  obtain ⟨p2, es2, hp2, he2, hc2, his2⟩ := isD_at (IsD.ext e4 _ _ h2) hd
  have ht0 := ht d (mem_get hd)
  have ht1 := ht0
  obtain ⟨x_0, l_1, rfl, t_1⟩ := has_Port ht1
  have his0 := his
  have his20 := his2
  obtain ⟨s_1, rfl, ws_0, is_1⟩ := cells_Port his
  obtain ⟨u_1, rfl, wu_0, iu_1⟩ := cells_Port his2
  refine ⟨by omega, by omega, p, hp, _, hc 0 _ rfl, s_1, hc 1 _ rfl, by omega, by omega, p2, hp2, _, hc2 0 _ rfl, u_1, hc2 1 _ rfl, (c92 (cs1 := [.int .i64 x_0, .slice s_1.a s_1.len s_1.cap]) (cs2 := [.int .i64 x_0, .slice u_1.a u_1.len u_1.cap]) ht0 his0 his20).mono ?_⟩
  rintro _ w9 ⟨rfl, e9⟩
  refine ⟨true, rfl, BIf.f rfl ?_⟩
  rw [w64 (by omega) (by omega)]
  exact hJ _ _ ⟨k + 1, by omega, by omega, Only.trans e4 e9⟩ (by omega)

theorem c93 {d : Dat} {cs1 cs2 : List Value} {w : World} (ht : Has TyPipe d) (h : IsD w d cs1) (h2 : IsD w d cs2) : CallW Try.prog 93 #[.agg ⟨cs1⟩, .agg ⟨cs2⟩] w (fun v w' => v = .bool true ∧ Ext w w') := by
  obtain ⟨x_0, x_1, x_2, l_3, rfl, t_3⟩ := has_Pipe ht
  obtain ⟨s_3, rfl, ws_0, ws_1, ws_2, is_3⟩ := cells_Pipe h
  obtain ⟨u_3, rfl, wu_0, wu_1, wu_2, iu_3⟩ := cells_Pipe h2
  show CallW Try.prog 93 #[.agg #[.int .i64 x_0, .int .i64 x_1, .int .i64 x_2, .slice s_3.a s_3.len s_3.cap], .agg #[.int .i64 x_0, .int .i64 x_1, .int .i64 x_2, .slice u_3.a u_3.len u_3.cap]] w _
  refine go93 ?_
  unfold W93; (try delta qn ql qb qi qS qI qP qQ qR qU qA qC)
  refine alloc_step (fun w1 e1 ha n1 => ?_)
  refine alloc_step (fun w2 e2 hb n2 => ?_)
  have ha := ha.ext e2
  have e := Only.trans e1 e2
  refine ⟨_, ha.cell 0, _, hb.cell 0, BIf.f (by simp) ?_⟩
  refine ⟨_, ha.cell 1, _, hb.cell 1, BIf.f (by simp) ?_⟩
  refine ⟨_, ha.cell 2, _, hb.cell 2, BIf.f (by simp) ?_⟩
  refine ⟨s_3, ha.cell 3, u_3, hb.cell 3, (c79 t_3 (IsD.ext e _ _ is_3) (IsD.ext e _ _ iu_3)).mono ?_⟩
  rintro _ w3 ⟨rfl, e3⟩
  have ha := ha.ext e3
  have hb := hb.ext e3
  have e := Only.trans e e3
  refine ⟨true, rfl, BIf.f rfl ?_⟩
  exact ⟨rfl, e⟩

theorem c61 {l : List Dat} {a0 a1 : Sl} {w : World} (ht : ∀ e, e ∈ l → Has TyPipe e) (h : IsD w (.sl 4 l) [.slice a0.a a0.len a0.cap]) (h2 : IsD w (.sl 4 l) [.slice a1.a a1.len a1.cap]) : CallW Try.prog 61 #[.slice a0.a a0.len a0.cap, .slice a1.a a1.len a1.cap] w (fun v w' => v = .bool true ∧ Ext w w') := by
  refine go61 ?_
  unfold W61; (try delta qn ql qb qi qS qI qP qQ qR qU qA qC)
  obtain ⟨hlen, hmax, hel⟩ := isD_sl h
  obtain ⟨hlen2, _, hel2⟩ := isD_sl h2
  have hmx : maxLen = 9223372036854775807 := rfl
  rw [hlen, hlen2]
  refine BIf.f (by simp) ?_
  refine LoopW.m1 (fun (i : Int) w' => ∃ k : Nat, i = k ∧ k ≤ l.length ∧ Ext w w') (fun (i : Int) _ => (l.length - i).toNat) ⟨0, rfl, by omega, Only.refl _ _⟩ ?_
  rintro (i : Int) w4 ⟨k, rfl, hk, e4⟩ J hJ
  refine BIf.dec (fun hlt => ?_) (fun hge => ⟨rfl, e4⟩)
  obtain ⟨d, hd⟩ : ∃ d, l[k]? = some d := ⟨_, List.getElem?_eq_getElem (by omega)⟩
  have e4 := Only.trans e4 (ext_drew w4)
  obtain ⟨p, es, hp, he, hc, his⟩ := isD_at (IsD.ext e4 _ _ h) hd
  obtain ⟨p2, es2, hp2, he2, hc2, his2⟩ := isD_at (IsD.ext e4 _ _ h2) hd
  have ht0 := ht d (mem_get hd)
  have ht1 := ht0
  obtain ⟨x_0, x_1, x_2, l_3, rfl, t_3⟩ := has_Pipe ht1
  have his0 := his
  have his20 := his2
  obtain ⟨s_3, rfl, ws_0, ws_1, ws_2, is_3⟩ := cells_Pipe his
  obtain ⟨u_3, rfl, wu_0, wu_1, wu_2, iu_3⟩ := cells_Pipe his2
  refine ⟨by omega, by omega, p, hp, _, hc 0 _ rfl, _, hc 1 _ rfl, _, hc 2 _ rfl, s_3, hc 3 _ rfl, by omega, by omega, p2, hp2, _, hc2 0 _ rfl, _, hc2 1 _ rfl, _, hc2 2 _ rfl, u_3, hc2 3 _ rfl, (c93 (cs1 := [.int .i64 x_0, .int .i64 x_1, .int .i64 x_2, .slice s_3.a s_3.len s_3.cap]) (cs2 := [.int .i64 x_0, .int .i64 x_1, .int .i64 x_2, .slice u_3.a u_3.len u_3.cap]) ht0 his0 his20).mono ?_⟩
  rintro _ w9 ⟨rfl, e9⟩
  refine ⟨true, rfl, BIf.f rfl ?_⟩
  rw [w64 (by omega) (by omega)]
  exact hJ _ _ ⟨k + 1, by omega, by omega, Only.trans e4 e9⟩ (by omega)

theorem c13 {d : Dat} {cs1 cs2 : List Value} {w : World} (ht : Has TyIpc d) (h : IsD w d cs1) (h2 : IsD w d cs2) : CallW Try.prog 13 #[.agg ⟨cs1⟩, .agg ⟨cs2⟩] w (fun v w' => v = .bool true ∧ Ext w w') := by
  obtain ⟨x_0, l_1, l_2, l_3, rfl, t_1, t_2, t_3⟩ := has_Ipc ht
  obtain ⟨s_1, s_2, s_3, rfl, ws_0, is_1, is_2, is_3⟩ := cells_Ipc h
  obtain ⟨u_1, u_2, u_3, rfl, wu_0, iu_1, iu_2, iu_3⟩ := cells_Ipc h2
  show CallW Try.prog 13 #[.agg #[.int .i64 x_0, .slice s_1.a s_1.len s_1.cap, .slice s_2.a s_2.len s_2.cap, .slice s_3.a s_3.len s_3.cap], .agg #[.int .i64 x_0, .slice u_1.a u_1.len u_1.cap, .slice u_2.a u_2.len u_2.cap, .slice u_3.a u_3.len u_3.cap]] w _
  refine go13 ?_
  unfold W13; (try delta qn ql qb qi qS qI qP qQ qR qU qA qC)
  refine alloc_step (fun w1 e1 ha n1 => ?_)
  refine alloc_step (fun w2 e2 hb n2 => ?_)
  have ha := ha.ext e2
  have e := Only.trans e1 e2
  refine ⟨_, ha.cell 0, _, hb.cell 0, BIf.f (by simp) ?_⟩
  refine ⟨s_1, ha.cell 1, u_1, hb.cell 1, (c60 t_1 (IsD.ext e _ _ is_1) (IsD.ext e _ _ iu_1)).mono ?_⟩
  rintro _ w3 ⟨rfl, e3⟩
  have ha := ha.ext e3
  have hb := hb.ext e3
  have e := Only.trans e e3
  refine ⟨true, rfl, BIf.f rfl ?_⟩
  refine ⟨s_2, ha.cell 2, u_2, hb.cell 2, (c16 t_2 (IsD.ext e _ _ is_2) (IsD.ext e _ _ iu_2)).mono ?_⟩
  rintro _ w4 ⟨rfl, e4⟩
  have ha := ha.ext e4
  have hb := hb.ext e4
  have e := Only.trans e e4
  refine ⟨true, rfl, BIf.f rfl ?_⟩
  refine ⟨s_3, ha.cell 3, u_3, hb.cell 3, (c61 t_3 (IsD.ext e _ _ is_3) (IsD.ext e _ _ iu_3)).mono ?_⟩
  rintro _ w5 ⟨rfl, e5⟩
  have ha := ha.ext e5
  have hb := hb.ext e5
  have e := Only.trans e e5
  refine ⟨true, rfl, BIf.f rfl ?_⟩
  exact ⟨rfl, e⟩

theorem c18 {l : List Dat} {a0 : Sl} {bs : List Nat} {k0 : Int} {w : World} (ht : ∀ e, e ∈ l → Has TyCap e) (h : OwnD w (.sl 5 l) bs [.slice a0.a a0.len a0.cap]) (hn : bs.Nodup) (h0 : 1 ≤ k0) (hk : k0 + Dat.cnts l ≤ 1099511627776) : CallW Try.prog 18 #[.slice a0.a a0.len a0.cap, .int .i64 k0] w (fun v w' => v = .int .i64 (k0 + Dat.cnts l) ∧ ∃ l', l'.length = l.length ∧ Dat.cnts l' = Dat.cnts l ∧ (∀ e, e ∈ l' → Has TyCap e) ∧ MarkedF TXT l' k0 ∧ OwnD w' (.sl 5 l') bs [.slice a0.a a0.len a0.cap] ∧ Only (fun k => k ∈ bs) w w') := by
  refine go18 ?_
  unfold W18; (try delta qn ql qb qi qS qI qP qQ qR qU qA qC)
  obtain ⟨hlen, hmax⟩ := ownD_len h
  have hmx : maxLen = 9223372036854775807 := rfl
  rw [hlen]
  refine LoopW.m2 (fun (x i : Int) w' => ∃ (k : Nat) (l' : List Dat), i = k ∧ k ≤ l.length ∧ l'.length = k ∧ x = k0 + Dat.cnts l' ∧ Dat.cnts l' = Dat.cnts (l.take k) ∧ (∀ e, e ∈ l' → Has TyCap e) ∧ MarkedF TXT l' k0 ∧ OwnD w' (.sl 5 (l' ++ l.drop k)) bs [.slice a0.a a0.len a0.cap] ∧ Only (fun k => k ∈ bs) w w') (fun _ (i : Int) _ => (l.length - i).toNat) ⟨0, [], rfl, by omega, rfl, by simp [Dat.cnts], by simp [Dat.cnts], fun e he => (by cases he), markedF_nil, by simpa using h, Only.refl _ _⟩ ?_
  rintro (kx : Int) (i : Int) w4 ⟨k, l', rfl, hkl, hl', hx, hcn, hty, hmk, ho, o4⟩ J hJ
  refine BIf.dec (fun hlt => ?_) (fun hge => ?_)
  · obtain ⟨d, hd⟩ : ∃ d, l[k]? = some d := ⟨_, List.getElem?_eq_getElem (by omega)⟩
    have hcg := cnts_get hd
    have hct := cnts_take hd
    have ht0 := ht d (mem_get hd)
    obtain ⟨x_0, x_1, x_2, x_3, x_4, rfl⟩ := has_Cap ht0
    simp only [Dat.cnt, Dat.cnts] at hcg hct
    obtain ⟨b, bp, b1, bq, vp, v1, vq, ha, hbs, hvp, hod, hm, hvl, hlc, _⟩ := ownD_at ho (get_app hl' hd)
    rw [(take_app hl').1, (take_app hl').2] at hm
    have hv0 := hm.len
    have hbs0 := hbs
    rw [Int.toNat_natCast, ← hvp]
    simp (disch := omega) only [w64]
    have hbs : bs = b :: (bp ++ (([] ++ b1) ++ bq)) := hbs
    have me : ME w4 b 5 l' (l.drop (k + 1)) bp bq vp vq [] _ [] b1 [] v1 := ⟨hm, by unfold OwnF; exact ⟨rfl, rfl⟩, ownD_st hod, by rw [← hbs]; exact hn⟩
    refine ⟨by omega, by omega, _, ha, ?_⟩
    refine me.sc (d' := .int .i64 (kx)) sc_int (fun w => own_int (wf_i64 (by omega) (by omega))) rfl (fun w5 cr5 o5 me => ?_)
    have o4 := Only.trans o4 (o5.mono (fun c _ hc => by subst hc; rw [hbs]; simp))
    refine ⟨by omega, by omega, _, ha, ?_⟩
    refine me.sc (d' := .int .i64 (kx + 1)) sc_int (fun w => own_int (wf_i64 (by omega) (by omega))) rfl (fun w6 cr6 o6 me => ?_)
    have o4 := Only.trans o4 (o6.mono (fun c _ hc => by subst hc; rw [hbs]; simp))
    refine ⟨by omega, by omega, _, ha, ?_⟩
    refine me.sc (d' := .int .i64 (kx + 1 + 1)) sc_int (fun w => own_int (wf_i64 (by omega) (by omega))) rfl (fun w7 cr7 o7 me => ?_)
    have o4 := Only.trans o4 (o7.mono (fun c _ hc => by subst hc; rw [hbs]; simp))
    refine ⟨by omega, by omega, _, ha, ?_⟩
    refine me.sc (d' := .int .i64 (kx + 1 + 1 + 1)) sc_int (fun w => own_int (wf_i64 (by omega) (by omega))) rfl (fun w8 cr8 o8 me => ?_)
    have o4 := Only.trans o4 (o8.mono (fun c _ hc => by subst hc; rw [hbs]; simp))
    refine ⟨by omega, by omega, _, ha, ?_⟩
    refine me.sc (d' := .int .i64 (kx + 1 + 1 + 1 + 1)) sc_int (fun w => own_int (wf_i64 (by omega) (by omega))) rfl (fun w9 cr9 o9 me => ?_)
    have o4 := Only.trans o4 (o9.mono (fun c _ hc => by subst hc; rw [hbs]; simp))
    obtain ⟨hm2, hod2, hbr⟩ := me.fin
    subst hbr
    have hrow := row_close (bs := bs) (a0 := a0) hm2 hod2 hvp hl' (by omega) ha (by rw [hlen]) (by rw [hbs, List.append_nil]) (by have : (l' ++ l.drop k).length = l.length := (by simp; omega); omega) hmax hv0 hvl
    have hmkd : Marked TXT (.st [.int .i64 (kx), .int .i64 (kx + 1), .int .i64 (kx + 1 + 1), .int .i64 (kx + 1 + 1 + 1), .int .i64 (kx + 1 + 1 + 1 + 1)]) kx := marked_st (markedF_cons (k := kx) (k' := kx + 1) (marked_int (by rw [w64 (by omega) (by omega)])) (markedF_cons (k := kx + 1) (k' := kx + 1 + 1) (marked_int (by rw [w64 (by omega) (by omega)])) (markedF_cons (k := kx + 1 + 1) (k' := kx + 1 + 1 + 1) (marked_int (by rw [w64 (by omega) (by omega)])) (markedF_cons (k := kx + 1 + 1 + 1) (k' := kx + 1 + 1 + 1 + 1) (marked_int (by rw [w64 (by omega) (by omega)])) (markedF_cons (k := kx + 1 + 1 + 1 + 1) (k' := kx + 1 + 1 + 1 + 1 + 1) (marked_int (by rw [w64 (by omega) (by omega)])) (markedF_nil (k := kx + 1 + 1 + 1 + 1 + 1)) (by simp only [Dat.cnt]; omega)) (by simp only [Dat.cnt]; omega)) (by simp only [Dat.cnt]; omega)) (by simp only [Dat.cnt]; omega)) (by simp only [Dat.cnt]; omega))
    have hhas : Has TyCap (.st [.int .i64 (kx), .int .i64 (kx + 1), .int .i64 (kx + 1 + 1), .int .i64 (kx + 1 + 1 + 1), .int .i64 (kx + 1 + 1 + 1 + 1)]) := mk_st (mkF_cons mk_int (mkF_cons mk_int (mkF_cons mk_int (mkF_cons mk_int (mkF_cons mk_int (mkF_nil))))))
    refine hJ _ _ _ ⟨k + 1, l' ++ [_], by omega, by omega, by simp; omega, ?_, ?_, has_snoc hty hhas, markedF_snoc hmk hmkd hx, hrow, o4⟩ (by omega)
    · rw [cnts_snoc]; simp only [Dat.cnt, Dat.cnts]; omega
    · rw [cnts_snoc, hct]; simp only [Dat.cnt, Dat.cnts]; omega
  · have hkl2 : k = l.length := by omega
    subst hkl2
    rw [List.take_length] at hcn
    rw [List.drop_length, List.append_nil, hlen] at ho
    exact ⟨by rw [hx, hcn], l', hl', hcn, hty, hmk, ho, o4⟩

theorem c68 {l : List Dat} {a0 : Sl} {bs : List Nat} {k0 : Int} {w : World} (ht : ∀ e, e ∈ l → Has (.int .u8) e) (h : OwnD w (.sl 1 l) bs [.slice a0.a a0.len a0.cap]) (hn : bs.Nodup) (h0 : 1 ≤ k0) (hk : k0 + Dat.cnts l ≤ 1099511627776) : CallW Try.prog 68 #[.slice a0.a a0.len a0.cap, .int .i64 k0] w (fun v w' => v = .int .i64 (k0 + Dat.cnts l) ∧ ∃ l', l'.length = l.length ∧ Dat.cnts l' = Dat.cnts l ∧ (∀ e, e ∈ l' → Has (.int .u8) e) ∧ MarkedF TXT l' k0 ∧ OwnD w' (.sl 1 l') bs [.slice a0.a a0.len a0.cap] ∧ Only (fun k => k ∈ bs) w w') := by
  refine go68 ?_
  unfold W68; (try delta qn ql qb qi qS qI qP qQ qR qU qA qC)
  obtain ⟨hlen, hmax⟩ := ownD_len h
  have hmx : maxLen = 9223372036854775807 := rfl
  rw [hlen]
  refine LoopW.m2 (fun (x i : Int) w' => ∃ (k : Nat) (l' : List Dat), i = k ∧ k ≤ l.length ∧ l'.length = k ∧ x = k0 + Dat.cnts l' ∧ Dat.cnts l' = Dat.cnts (l.take k) ∧ (∀ e, e ∈ l' → Has (.int .u8) e) ∧ MarkedF TXT l' k0 ∧ OwnD w' (.sl 1 (l' ++ l.drop k)) bs [.slice a0.a a0.len a0.cap] ∧ Only (fun k => k ∈ bs) w w') (fun _ (i : Int) _ => (l.length - i).toNat) ⟨0, [], rfl, by omega, rfl, by simp [Dat.cnts], by simp [Dat.cnts], fun e he => (by cases he), markedF_nil, by simpa using h, Only.refl _ _⟩ ?_
  rintro (kx : Int) (i : Int) w4 ⟨k, l', rfl, hkl, hl', hx, hcn, hty, hmk, ho, o4⟩ J hJ
  refine BIf.dec (fun hlt => ?_) (fun hge => ?_)
  · obtain ⟨d, hd⟩ : ∃ d, l[k]? = some d := ⟨_, List.getElem?_eq_getElem (by omega)⟩
    have hcg := cnts_get hd
    have hct := cnts_take hd
    have ht0 := ht d (mem_get hd)
    obtain ⟨x, rfl⟩ := has_int ht0
    simp only [Dat.cnt, Dat.cnts] at hcg hct
    obtain ⟨b, bp, b1, bq, vp, v1, vq, ha, hbs, hvp, hod, hm, hvl, hlc, _⟩ := ownD_at ho (get_app hl' hd)
    rw [(take_app hl').1, (take_app hl').2] at hm
    have hv0 := hm.len
    have hbs0 := hbs
    rw [Int.toNat_natCast, ← hvp]
    simp (disch := omega) only [w64]
    refine ⟨by omega, by omega, _, ha, ?_⟩
    obtain ⟨hmay, hm2, o5⟩ := hm.set (fun c hc he => by rw [hbs] at hn; simp only [List.nodup_cons, List.mem_append, not_or] at hn; subst he; rcases hc with hc | hc; exact hn.1.1 hc; exact hn.1.2.2 hc) (j := 0) (by omega) (.int .u8 (IntKind.wrap .u8 (kx)))
    refine ⟨hmay, LetW_iff.2 ?_⟩
    have o4 := Only.trans o4 (o5.mono (fun c _ hc => by subst hc; rw [hbs]; simp))
    have hrow := row_close (bs := bs) (a0 := a0) (d' := .int .u8 (IntKind.wrap .u8 (kx))) hm2 (bd := b1) (by obtain ⟨hb1, hc1⟩ := sc_int _ _ hod; subst hb1; obtain ⟨y, rfl⟩ : ∃ y, v1 = [y] := by { match v1, hc1 with | [y], _ => exact ⟨y, rfl⟩ }; exact own_int wf_u8w) hvp hl' (by omega) ha (by rw [hlen]) hbs (by have : (l' ++ l.drop k).length = l.length := (by simp; omega); omega) hmax hv0 hvl
    refine hJ _ _ _ ⟨k + 1, l' ++ [_], by omega, by omega, by simp; omega, ?_, ?_, has_snoc hty mk_int, markedF_snoc hmk (marked_int rfl) hx, hrow, o4⟩ (by omega)
    · rw [cnts_snoc]; simp only [Dat.cnt, Dat.cnts]; omega
    · rw [cnts_snoc, hct]; simp only [Dat.cnt, Dat.cnts]; omega
  · have hkl2 : k = l.length := by omega
    subst hkl2
    rw [List.take_length] at hcn
    rw [List.drop_length, List.append_nil, hlen] at ho
    exact ⟨by rw [hx, hcn], l', hl', hcn, hty, hmk, ho, o4⟩

theorem c94 {l : List Dat} {a0 : Sl} {bs : List Nat} {k0 : Int} {w : World} (ht : ∀ e, e ∈ l → Has TyMsg e) (h : OwnD w (.sl 3 l) bs [.slice a0.a a0.len a0.cap]) (hn : bs.Nodup) (h0 : 1 ≤ k0) (hk : k0 + Dat.cnts l ≤ 1099511627776) : CallW Try.prog 94 #[.slice a0.a a0.len a0.cap, .int .i64 k0] w (fun v w' => v = .int .i64 (k0 + Dat.cnts l) ∧ ∃ l', l'.length = l.length ∧ Dat.cnts l' = Dat.cnts l ∧ (∀ e, e ∈ l' → Has TyMsg e) ∧ MarkedF TXT l' k0 ∧ OwnD w' (.sl 3 l') bs [.slice a0.a a0.len a0.cap] ∧ Only (fun k => k ∈ bs) w w') := by
  refine go94 ?_
  unfold W94; (try delta qn ql qb qi qS qI qP qQ qR qU qA qC)
  obtain ⟨hlen, hmax⟩ := ownD_len h
  have hmx : maxLen = 9223372036854775807 := rfl
  rw [hlen]
  refine LoopW.m2 (fun (x i : Int) w' => ∃ (k : Nat) (l' : List Dat), i = k ∧ k ≤ l.length ∧ l'.length = k ∧ x = k0 + Dat.cnts l' ∧ Dat.cnts l' = Dat.cnts (l.take k) ∧ (∀ e, e ∈ l' → Has TyMsg e) ∧ MarkedF TXT l' k0 ∧ OwnD w' (.sl 3 (l' ++ l.drop k)) bs [.slice a0.a a0.len a0.cap] ∧ Only (fun k => k ∈ bs) w w') (fun _ (i : Int) _ => (l.length - i).toNat) ⟨0, [], rfl, by omega, rfl, by simp [Dat.cnts], by simp [Dat.cnts], fun e he => (by cases he), markedF_nil, by simpa using h, Only.refl _ _⟩ ?_
  rintro (kx : Int) (i : Int) w4 ⟨k, l', rfl, hkl, hl', hx, hcn, hty, hmk, ho, o4⟩ J hJ
  refine BIf.dec (fun hlt => ?_) (fun hge => ?_)
  · obtain ⟨d, hd⟩ : ∃ d, l[k]? = some d := ⟨_, List.getElem?_eq_getElem (by omega)⟩
    have hcg := cnts_get hd
    have hct := cnts_take hd
    have ht0 := ht d (mem_get hd)
    obtain ⟨x_0, l_1, x_2, rfl, t_1⟩ := has_Msg ht0
    simp only [Dat.cnt, Dat.cnts] at hcg hct
    obtain ⟨b, bp, b1, bq, vp, v1, vq, ha, hbs, hvp, hod, hm, hvl, hlc, _⟩ := ownD_at ho (get_app hl' hd)
    rw [(take_app hl').1, (take_app hl').2] at hm
    have hv0 := hm.len
    have hbs0 := hbs
    rw [Int.toNat_natCast, ← hvp]
    simp (disch := omega) only [w64]
    have hbs : bs = b :: (bp ++ (([] ++ b1) ++ bq)) := hbs
    have me : ME w4 b 3 l' (l.drop (k + 1)) bp bq vp vq [] _ [] b1 [] v1 := ⟨hm, by unfold OwnF; exact ⟨rfl, rfl⟩, ownD_st hod, by rw [← hbs]; exact hn⟩
    refine ⟨by omega, by omega, _, ha, ?_⟩
    refine me.sc (d' := .int .i64 (kx)) sc_int (fun w => own_int (wf_i64 (by omega) (by omega))) rfl (fun w5 cr5 o5 me => ?_)
    have o4 := Only.trans o4 (o5.mono (fun c _ hc => by subst hc; rw [hbs]; simp))
    obtain ⟨b6, c6, hod6, hn6, hc6, hcl6⟩ := me.open
    obtain ⟨s6, rfl⟩ := ownD_sl_s hod6
    refine ⟨by omega, by omega, _, ha, s6, hc6 0 _ rfl, (c68 t_1 hod6 hn6 (by omega) (by omega)).mono ?_⟩
    rintro _ w6 ⟨rfl, m_1, g1_1, g2_1, g3_1, g4_1, g5_1, o6⟩
    obtain ⟨br6, cr6, me, hbs2⟩ := hcl6 w6 _ o6 g5_1
    have hbs := hbs.trans hbs2
    have o4 := Only.trans o4 (o6.mono (fun c _ hc => by rw [hbs]; simp [hc]))
    refine ⟨_, rfl, ?_⟩
    try simp (disch := omega) only [w64]
    refine ⟨by omega, by omega, _, ha, ?_⟩
    refine me.sc (d' := .int .i64 (kx + 1 + (Dat.cnts l_1 : Int))) sc_int (fun w => own_int (wf_i64 (by omega) (by omega))) rfl (fun w7 cr7 o7 me => ?_)
    have o4 := Only.trans o4 (o7.mono (fun c _ hc => by subst hc; rw [hbs]; simp))
    obtain ⟨hm2, hod2, hbr⟩ := me.fin
    subst hbr
    have hrow := row_close (bs := bs) (a0 := a0) hm2 hod2 hvp hl' (by omega) ha (by rw [hlen]) (by rw [hbs, List.append_nil]) (by have : (l' ++ l.drop k).length = l.length := (by simp; omega); omega) hmax hv0 hvl
    have hmkd : Marked TXT (.st [.int .i64 (kx), .sl 1 m_1, .int .i64 (kx + 1 + (Dat.cnts l_1 : Int))]) kx := marked_st (markedF_cons (k := kx) (k' := kx + 1) (marked_int (by rw [w64 (by omega) (by omega)])) (markedF_cons (k := kx + 1) (k' := kx + 1 + (Dat.cnts l_1 : Int)) (marked_sl g4_1) (markedF_cons (k := kx + 1 + (Dat.cnts l_1 : Int)) (k' := kx + 1 + (Dat.cnts l_1 : Int) + 1) (marked_int (by rw [w64 (by omega) (by omega)])) (markedF_nil (k := kx + 1 + (Dat.cnts l_1 : Int) + 1)) (by simp only [Dat.cnt]; omega)) (by simp only [Dat.cnt]; omega)) (by simp only [Dat.cnt]; omega))
    have hhas : Has TyMsg (.st [.int .i64 (kx), .sl 1 m_1, .int .i64 (kx + 1 + (Dat.cnts l_1 : Int))]) := mk_st (mkF_cons mk_int (mkF_cons (mk_sl g3_1) (mkF_cons mk_int (mkF_nil))))
    refine hJ _ _ _ ⟨k + 1, l' ++ [_], by omega, by omega, by simp; omega, ?_, ?_, has_snoc hty hhas, markedF_snoc hmk hmkd hx, hrow, o4⟩ (by omega)
    · rw [cnts_snoc]; simp only [Dat.cnt, Dat.cnts]; omega
    · rw [cnts_snoc, hct]; simp only [Dat.cnt, Dat.cnts]; omega
  · have hkl2 : k = l.length := by omega
    subst hkl2
    rw [List.take_length] at hcn
    rw [List.drop_length, List.append_nil, hlen] at ho
    exact ⟨by rw [hx, hcn], l', hl', hcn, hty, hmk, ho, o4⟩

theorem c63 {l : List Dat} {a0 : Sl} {bs : List Nat} {k0 : Int} {w : World} (ht : ∀ e, e ∈ l → Has TyPort e) (h : OwnD w (.sl 2 l) bs [.slice a0.a a0.len a0.cap]) (hn : bs.Nodup) (h0 : 1 ≤ k0) (hk : k0 + Dat.cnts l ≤ 1099511627776) : CallW Try.prog 63 #[.slice a0.a a0.len a0.cap, .int .i64 k0] w (fun v w' => v = .int .i64 (k0 + Dat.cnts l) ∧ ∃ l', l'.length = l.length ∧ Dat.cnts l' = Dat.cnts l ∧ (∀ e, e ∈ l' → Has TyPort e) ∧ MarkedF TXT l' k0 ∧ OwnD w' (.sl 2 l') bs [.slice a0.a a0.len a0.cap] ∧ Only (fun k => k ∈ bs) w w') := by
  refine go63 ?_
  unfold W63; (try delta qn ql qb qi qS qI qP qQ qR qU qA qC)
  obtain ⟨hlen, hmax⟩ := ownD_len h
  have hmx : maxLen = 9223372036854775807 := rfl
  rw [hlen]
  refine LoopW.m2 (fun (x i : Int) w' => ∃ (k : Nat) (l' : List Dat), i = k ∧ k ≤ l.length ∧ l'.length = k ∧ x = k0 + Dat.cnts l' ∧ Dat.cnts l' = Dat.cnts (l.take k) ∧ (∀ e, e ∈ l' → Has TyPort e) ∧ MarkedF TXT l' k0 ∧ OwnD w' (.sl 2 (l' ++ l.drop k)) bs [.slice a0.a a0.len a0.cap] ∧ Only (fun k => k ∈ bs) w w') (fun _ (i : Int) _ => (l.length - i).toNat) ⟨0, [], rfl, by omega, rfl, by simp [Dat.cnts], by simp [Dat.cnts], fun e he => (by cases he), markedF_nil, by simpa using h, Only.refl _ _⟩ ?_
  rintro (kx : Int) (i : Int) w4 ⟨k, l', rfl, hkl, hl', hx, hcn, hty, hmk, ho, o4⟩ J hJ
  refine BIf.dec (fun hlt => ?_) (fun hge => ?_)
  · obtain ⟨d, hd⟩ : ∃ d, l[k]? = some d := ⟨_, List.getElem?_eq_getElem (by omega)⟩
    have hcg := cnts_get hd
    have hct := cnts_take hd
    have ht0 := ht d (mem_get hd)
    obtain ⟨x_0, l_1, rfl, t_1⟩ := has_Port ht0
    simp only [Dat.cnt, Dat.cnts] at hcg hct
    obtain ⟨b, bp, b1, bq, vp, v1, vq, ha, hbs, hvp, hod, hm, hvl, hlc, _⟩ := ownD_at ho (get_app hl' hd)
    rw [(take_app hl').1, (take_app hl').2] at hm
    have hv0 := hm.len
    have hbs0 := hbs
    rw [Int.toNat_natCast, ← hvp]
    simp (disch := omega) only [w64]
    have hbs : bs = b :: (bp ++ (([] ++ b1) ++ bq)) := hbs
    have me : ME w4 b 2 l' (l.drop (k + 1)) bp bq vp vq [] _ [] b1 [] v1 := ⟨hm, by unfold OwnF; exact ⟨rfl, rfl⟩, ownD_st hod, by rw [← hbs]; exact hn⟩
    refine ⟨by omega, by omega, _, ha, ?_⟩
    refine me.sc (d' := .int .i64 (kx)) sc_int (fun w => own_int (wf_i64 (by omega) (by omega))) rfl (fun w5 cr5 o5 me => ?_)
    have o4 := Only.trans o4 (o5.mono (fun c _ hc => by subst hc; rw [hbs]; simp))
    obtain ⟨b6, c6, hod6, hn6, hc6, hcl6⟩ := me.open
    obtain ⟨s6, rfl⟩ := ownD_sl_s hod6
    refine ⟨by omega, by omega, _, ha, s6, hc6 0 _ rfl, (c94 t_1 hod6 hn6 (by omega) (by omega)).mono ?_⟩
    rintro _ w6 ⟨rfl, m_1, g1_1, g2_1, g3_1, g4_1, g5_1, o6⟩
    obtain ⟨br6, cr6, me, hbs2⟩ := hcl6 w6 _ o6 g5_1
    have hbs := hbs.trans hbs2
    have o4 := Only.trans o4 (o6.mono (fun c _ hc => by rw [hbs]; simp [hc]))
    refine ⟨_, rfl, ?_⟩
    try simp (disch := omega) only [w64]
    obtain ⟨hm2, hod2, hbr⟩ := me.fin
    subst hbr
    have hrow := row_close (bs := bs) (a0 := a0) hm2 hod2 hvp hl' (by omega) ha (by rw [hlen]) (by rw [hbs, List.append_nil]) (by have : (l' ++ l.drop k).length = l.length := (by simp; omega); omega) hmax hv0 hvl
    have hmkd : Marked TXT (.st [.int .i64 (kx), .sl 3 m_1]) kx := marked_st (markedF_cons (k := kx) (k' := kx + 1) (marked_int (by rw [w64 (by omega) (by omega)])) (markedF_cons (k := kx + 1) (k' := kx + 1 + (Dat.cnts l_1 : Int)) (marked_sl g4_1) (markedF_nil (k := kx + 1 + (Dat.cnts l_1 : Int))) (by simp only [Dat.cnt]; omega)) (by simp only [Dat.cnt]; omega))
    have hhas : Has TyPort (.st [.int .i64 (kx), .sl 3 m_1]) := mk_st (mkF_cons mk_int (mkF_cons (mk_sl g3_1) (mkF_nil)))
    refine hJ _ _ _ ⟨k + 1, l' ++ [_], by omega, by omega, by simp; omega, ?_, ?_, has_snoc hty hhas, markedF_snoc hmk hmkd hx, hrow, o4⟩ (by omega)
    · rw [cnts_snoc]; simp only [Dat.cnt, Dat.cnts]; omega
    · rw [cnts_snoc, hct]; simp only [Dat.cnt, Dat.cnts]; omega
  · have hkl2 : k = l.length := by omega
    subst hkl2
    rw [List.take_length] at hcn
    rw [List.drop_length, List.append_nil, hlen] at ho
    exact ⟨by rw [hx, hcn], l', hl', hcn, hty, hmk, ho, o4⟩

theorem c64 {l : List Dat} {a0 : Sl} {bs : List Nat} {k0 : Int} {w : World} (ht : ∀ e, e ∈ l → Has TyPipe e) (h : OwnD w (.sl 4 l) bs [.slice a0.a a0.len a0.cap]) (hn : bs.Nodup) (h0 : 1 ≤ k0) (hk : k0 + Dat.cnts l ≤ 1099511627776) : CallW Try.prog 64 #[.slice a0.a a0.len a0.cap, .int .i64 k0] w (fun v w' => v = .int .i64 (k0 + Dat.cnts l) ∧ ∃ l', l'.length = l.length ∧ Dat.cnts l' = Dat.cnts l ∧ (∀ e, e ∈ l' → Has TyPipe e) ∧ MarkedF TXT l' k0 ∧ OwnD w' (.sl 4 l') bs [.slice a0.a a0.len a0.cap] ∧ Only (fun k => k ∈ bs) w w') := by
  refine go64 ?_
  unfold W64; (try delta qn ql qb qi qS qI qP qQ qR qU qA qC)
  obtain ⟨hlen, hmax⟩ := ownD_len h
  have hmx : maxLen = 9223372036854775807 := rfl
  rw [hlen]
  refine LoopW.m2 (fun (x i : Int) w' => ∃ (k : Nat) (l' : List Dat), i = k ∧ k ≤ l.length ∧ l'.length = k ∧ x = k0 + Dat.cnts l' ∧ Dat.cnts l' = Dat.cnts (l.take k) ∧ (∀ e, e ∈ l' → Has TyPipe e) ∧ MarkedF TXT l' k0 ∧ OwnD w' (.sl 4 (l' ++ l.drop k)) bs [.slice a0.a a0.len a0.cap] ∧ Only (fun k => k ∈ bs) w w') (fun _ (i : Int) _ => (l.length - i).toNat) ⟨0, [], rfl, by omega, rfl, by simp [Dat.cnts], by simp [Dat.cnts], fun e he => (by cases he), markedF_nil, by simpa using h, Only.refl _ _⟩ ?_
  rintro (kx : Int) (i : Int) w4 ⟨k, l', rfl, hkl, hl', hx, hcn, hty, hmk, ho, o4⟩ J hJ
  refine BIf.dec (fun hlt => ?_) (fun hge => ?_)
  · obtain ⟨d, hd⟩ : ∃ d, l[k]? = some d := ⟨_, List.getElem?_eq_getElem (by omega)⟩
    have hcg := cnts_get hd
    have hct := cnts_take hd
    have ht0 := ht d (mem_get hd)
    obtain ⟨x_0, x_1, x_2, l_3, rfl, t_3⟩ := has_Pipe ht0
    simp only [Dat.cnt, Dat.cnts] at hcg hct
    obtain ⟨b, bp, b1, bq, vp, v1, vq, ha, hbs, hvp, hod, hm, hvl, hlc, _⟩ := ownD_at ho (get_app hl' hd)
    rw [(take_app hl').1, (take_app hl').2] at hm
    have hv0 := hm.len
    have hbs0 := hbs
    rw [Int.toNat_natCast, ← hvp]
    simp (disch := omega) only [w64]
    have hbs : bs = b :: (bp ++ (([] ++ b1) ++ bq)) := hbs
    have me : ME w4 b 4 l' (l.drop (k + 1)) bp bq vp vq [] _ [] b1 [] v1 := ⟨hm, by unfold OwnF; exact ⟨rfl, rfl⟩, ownD_st hod, by rw [← hbs]; exact hn⟩
    refine ⟨by omega, by omega, _, ha, ?_⟩
    refine me.sc (d' := .int .i64 (kx)) sc_int (fun w => own_int (wf_i64 (by omega) (by omega))) rfl (fun w5 cr5 o5 me => ?_)
    have o4 := Only.trans o4 (o5.mono (fun c _ hc => by subst hc; rw [hbs]; simp))
    refine ⟨by omega, by omega, _, ha, ?_⟩
    refine me.sc (d' := .int .i64 (kx + 1)) sc_int (fun w => own_int (wf_i64 (by omega) (by omega))) rfl (fun w6 cr6 o6 me => ?_)
    have o4 := Only.trans o4 (o6.mono (fun c _ hc => by subst hc; rw [hbs]; simp))
    refine ⟨by omega, by omega, _, ha, ?_⟩
    refine me.sc (d' := .int .i64 (kx + 1 + 1)) sc_int (fun w => own_int (wf_i64 (by omega) (by omega))) rfl (fun w7 cr7 o7 me => ?_)
    have o4 := Only.trans o4 (o7.mono (fun c _ hc => by subst hc; rw [hbs]; simp))
    obtain ⟨b8, c8, hod8, hn8, hc8, hcl8⟩ := me.open
    obtain ⟨s8, rfl⟩ := ownD_sl_s hod8
    refine ⟨by omega, by omega, _, ha, s8, hc8 0 _ rfl, (c68 t_3 hod8 hn8 (by omega) (by omega)).mono ?_⟩
    rintro _ w8 ⟨rfl, m_3, g1_3, g2_3, g3_3, g4_3, g5_3, o8⟩
    obtain ⟨br8, cr8, me, hbs2⟩ := hcl8 w8 _ o8 g5_3
    have hbs := hbs.trans hbs2
    have o4 := Only.trans o4 (o8.mono (fun c _ hc => by rw [hbs]; simp [hc]))
    refine ⟨_, rfl, ?_⟩
    try simp (disch := omega) only [w64]
    obtain ⟨hm2, hod2, hbr⟩ := me.fin
    subst hbr
    have hrow := row_close (bs := bs) (a0 := a0) hm2 hod2 hvp hl' (by omega) ha (by rw [hlen]) (by rw [hbs, List.append_nil]) (by have : (l' ++ l.drop k).length = l.length := (by simp; omega); omega) hmax hv0 hvl
    have hmkd : Marked TXT (.st [.int .i64 (kx), .int .i64 (kx + 1), .int .i64 (kx + 1 + 1), .sl 1 m_3]) kx := marked_st (markedF_cons (k := kx) (k' := kx + 1) (marked_int (by rw [w64 (by omega) (by omega)])) (markedF_cons (k := kx + 1) (k' := kx + 1 + 1) (marked_int (by rw [w64 (by omega) (by omega)])) (markedF_cons (k := kx + 1 + 1) (k' := kx + 1 + 1 + 1) (marked_int (by rw [w64 (by omega) (by omega)])) (markedF_cons (k := kx + 1 + 1 + 1) (k' := kx + 1 + 1 + 1 + (Dat.cnts l_3 : Int)) (marked_sl g4_3) (markedF_nil (k := kx + 1 + 1 + 1 + (Dat.cnts l_3 : Int))) (by simp only [Dat.cnt]; omega)) (by simp only [Dat.cnt]; omega)) (by simp only [Dat.cnt]; omega)) (by simp only [Dat.cnt]; omega))
    have hhas : Has TyPipe (.st [.int .i64 (kx), .int .i64 (kx + 1), .int .i64 (kx + 1 + 1), .sl 1 m_3]) := mk_st (mkF_cons mk_int (mkF_cons mk_int (mkF_cons mk_int (mkF_cons (mk_sl g3_3) (mkF_nil)))))
    refine hJ _ _ _ ⟨k + 1, l' ++ [_], by omega, by omega, by simp; omega, ?_, ?_, has_snoc hty hhas, markedF_snoc hmk hmkd hx, hrow, o4⟩ (by omega)
    · rw [cnts_snoc]; simp only [Dat.cnt, Dat.cnts]; omega
    · rw [cnts_snoc, hct]; simp only [Dat.cnt, Dat.cnts]; omega
  · have hkl2 : k = l.length := by omega
    subst hkl2
    rw [List.take_length] at hcn
    rw [List.drop_length, List.append_nil, hlen] at ho
    exact ⟨by rw [hx, hcn], l', hl', hcn, hty, hmk, ho, o4⟩

theorem c17 {d : Dat} {cs : List Value} {bs : List Nat} {k0 : Int} {w : World} (ht : Has TyIpc d) (h : OwnD w d bs cs) (hn : bs.Nodup) (h0 : 1 ≤ k0) (hk : k0 + d.cntT ≤ 1099511627776) : CallW Try.prog 17 #[.agg ⟨cs⟩, .int .i64 k0] w (fun v w' => v = .int .i64 (k0 + d.cntT) ∧ ∃ d', d'.cntT = d.cntT ∧ Has TyIpc d' ∧ MarkedT TXT d' k0 ∧ OwnD w' d' bs cs ∧ Only (fun k => k ∈ bs) w w') := by
 obtain ⟨x_0, l_1, l_2, l_3, rfl, t_1, t_2, t_3⟩ := has_Ipc ht
 simp only [Dat.cntT, Dat.cntTs] at hk
 have f_ := ownD_st h
 obtain ⟨b_0, r_0, c_0, u_0, rfl, rfl, h_0, f_0⟩ := ownF_cons f_
 obtain ⟨b_1, r_1, c_1, u_1, rfl, rfl, h_1, f_1⟩ := ownF_cons f_0
 obtain ⟨b_2, r_2, c_2, u_2, rfl, rfl, h_2, f_2⟩ := ownF_cons f_1
 obtain ⟨b_3, r_3, c_3, u_3, rfl, rfl, h_3, f_3⟩ := ownF_cons f_2
 obtain ⟨rfl, rfl⟩ := ownF_nil f_3
 obtain ⟨rfl, rfl, wo_0⟩ := ownD_i h_0
 obtain ⟨s_1, rfl⟩ := ownD_sl_s h_1
 obtain ⟨s_2, rfl⟩ := ownD_sl_s h_2
 obtain ⟨s_3, rfl⟩ := ownD_sl_s h_3
 have nd0 := (List.nodup_append.1 hn).1
 have dj0 := (List.nodup_append.1 hn).2.2
 have hn0 := (List.nodup_append.1 hn).2.1
 have nd1 := (List.nodup_append.1 hn0).1
 have dj1 := (List.nodup_append.1 hn0).2.2
 have hn1 := (List.nodup_append.1 hn0).2.1
 have nd2 := (List.nodup_append.1 hn1).1
 have dj2 := (List.nodup_append.1 hn1).2.2
 have hn2 := (List.nodup_append.1 hn1).2.1
 have nd3 := (List.nodup_append.1 hn2).1
 have dj3 := (List.nodup_append.1 hn2).2.2
 have hn3 := (List.nodup_append.1 hn2).2.1
 have lt1 := OwnD.lt _ _ _ h_1
 have lt2 := OwnD.lt _ _ _ h_2
 have lt3 := OwnD.lt _ _ _ h_3
 show CallW Try.prog 17 #[.agg #[.int .i64 x_0, .slice s_1.a s_1.len s_1.cap, .slice s_2.a s_2.len s_2.cap, .slice s_3.a s_3.len s_3.cap], .int .i64 k0] w _
 refine go17 ?_
 unfold W17; (try delta qn ql qb qi qS qI qP qQ qR qU qA qC)
 refine alloc_step (fun w1 e1 hb n1 => ?_)
 have o_1 := OwnD.only e1 _ _ _ (fun _ _ x => x) h_1
 have o_2 := OwnD.only e1 _ _ _ (fun _ _ x => x) h_2
 have o_3 := OwnD.only e1 _ _ _ (fun _ _ x => x) h_3
 have ot : Only (fun k => k ∈ b_1 ∨ k ∈ b_2 ∨ k ∈ b_3) w w1 := Ext.any e1
 refine ⟨s_1, hb.cell 1, (c63 t_1 o_1 nd1 (by omega) (by omega)).mono ?_⟩
 rintro _ w3 ⟨rfl, m_1, _, cn_1, hs_1, mk_1, ow_1, oo⟩
 refine ⟨_, rfl, ?_⟩
 have hb := hb.only oo (fun hk => by have := lt1 _ hk; omega)
 have ot := Only.trans ot (oo.mono (fun c _ hc => by (try simp only [List.mem_append, List.not_mem_nil, or_false, false_or] at hc); (try simp only [List.mem_append, List.not_mem_nil, or_false, false_or]); first | (simp [hc]; done) | (rcases hc with hc | hc <;> simp [hc]; done) | (rcases hc with hc | hc | hc <;> simp [hc])))
 have o_2 := OwnD.only oo _ _ _ (fun c hc hd => dj1 c hd c (by (try simp only [List.mem_append, List.not_mem_nil, or_false, false_or] at hc); (try simp only [List.mem_append, List.not_mem_nil, or_false, false_or]); first | (simp [hc]; done) | (rcases hc with hc | hc <;> simp [hc]; done) | (rcases hc with hc | hc | hc <;> simp [hc])) rfl) o_2
 have o_3 := OwnD.only oo _ _ _ (fun c hc hd => dj1 c hd c (by (try simp only [List.mem_append, List.not_mem_nil, or_false, false_or] at hc); (try simp only [List.mem_append, List.not_mem_nil, or_false, false_or]); first | (simp [hc]; done) | (rcases hc with hc | hc <;> simp [hc]; done) | (rcases hc with hc | hc | hc <;> simp [hc])) rfl) o_3
 refine ⟨s_2, hb.cell 2, (c18 t_2 o_2 nd2 (by omega) (by omega)).mono ?_⟩
 rintro _ w4 ⟨rfl, m_2, _, cn_2, hs_2, mk_2, ow_2, oo⟩
 refine ⟨_, rfl, ?_⟩
 have hb := hb.only oo (fun hk => by have := lt2 _ hk; omega)
 have ot := Only.trans ot (oo.mono (fun c _ hc => by (try simp only [List.mem_append, List.not_mem_nil, or_false, false_or] at hc); (try simp only [List.mem_append, List.not_mem_nil, or_false, false_or]); first | (simp [hc]; done) | (rcases hc with hc | hc <;> simp [hc]; done) | (rcases hc with hc | hc | hc <;> simp [hc])))
 have ow_1 := OwnD.only oo _ _ _ (fun c hc hd => dj1 c hc c (by (try simp only [List.mem_append, List.not_mem_nil, or_false, false_or] at hd); (try simp only [List.mem_append, List.not_mem_nil, or_false, false_or]); first | (simp [hd]; done) | (rcases hd with hd | hd <;> simp [hd]; done) | (rcases hd with hd | hd | hd <;> simp [hd])) rfl) ow_1
 have o_3 := OwnD.only oo _ _ _ (fun c hc hd => dj2 c hd c (by (try simp only [List.mem_append, List.not_mem_nil, or_false, false_or] at hc); (try simp only [List.mem_append, List.not_mem_nil, or_false, false_or]); first | (simp [hc]; done) | (rcases hc with hc | hc <;> simp [hc]; done) | (rcases hc with hc | hc | hc <;> simp [hc])) rfl) o_3
 refine ⟨s_3, hb.cell 3, (c64 t_3 o_3 nd3 (by omega) (by omega)).mono ?_⟩
 rintro _ w5 ⟨rfl, m_3, _, cn_3, hs_3, mk_3, ow_3, oo⟩
 refine ⟨_, rfl, ?_⟩
 have hb := hb.only oo (fun hk => by have := lt3 _ hk; omega)
 have ot := Only.trans ot (oo.mono (fun c _ hc => by (try simp only [List.mem_append, List.not_mem_nil, or_false, false_or] at hc); (try simp only [List.mem_append, List.not_mem_nil, or_false, false_or]); first | (simp [hc]; done) | (rcases hc with hc | hc <;> simp [hc]; done) | (rcases hc with hc | hc | hc <;> simp [hc])))
 have ow_1 := OwnD.only oo _ _ _ (fun c hc hd => dj1 c hc c (by (try simp only [List.mem_append, List.not_mem_nil, or_false, false_or] at hd); (try simp only [List.mem_append, List.not_mem_nil, or_false, false_or]); first | (simp [hd]; done) | (rcases hd with hd | hd <;> simp [hd]; done) | (rcases hd with hd | hd | hd <;> simp [hd])) rfl) ow_1
 have ow_2 := OwnD.only oo _ _ _ (fun c hc hd => dj2 c hc c (by (try simp only [List.mem_append, List.not_mem_nil, or_false, false_or] at hd); (try simp only [List.mem_append, List.not_mem_nil, or_false, false_or]); first | (simp [hd]; done) | (rcases hd with hd | hd <;> simp [hd]; done) | (rcases hd with hd | hd | hd <;> simp [hd])) rfl) ow_2
 refine ⟨by congr 1; simp only [Dat.cntT, Dat.cntTs]; omega, .st [.int .i64 x_0, .sl 2 m_1, .sl 5 m_2, .sl 4 m_3], by simp only [Dat.cntT, Dat.cntTs]; omega, mk_st (mkF_cons mk_int (mkF_cons (mk_sl hs_1) (mkF_cons (mk_sl hs_2) (mkF_cons (mk_sl hs_3) (mkF_nil))))), markedT_st (markedTF_cons (k' := k0) markedT_int (markedTF_cons (k' := k0 + (Dat.cnts l_1 : Nat)) (marked_slT mk_1) (markedTF_cons (k' := k0 + (Dat.cnts l_1 : Nat) + (Dat.cnts l_2 : Nat)) (marked_slT mk_2) (markedTF_cons (k' := k0 + (Dat.cnts l_1 : Nat) + (Dat.cnts l_2 : Nat) + (Dat.cnts l_3 : Nat)) (marked_slT mk_3) (markedTF_nil) (by simp only [Dat.cntT, Dat.cntTs] at *; omega)) (by simp only [Dat.cntT, Dat.cntTs] at *; omega)) (by simp only [Dat.cntT, Dat.cntTs] at *; omega)) (by simp only [Dat.cntT]; omega)), ownD_mkSt (ownF_mk (own_int wo_0) (ownF_mk ow_1 (ownF_mk ow_2 (ownF_mk ow_3 (ownF_mk0))))), ot.mono (fun c _ hc => by (try simp only [List.mem_append, List.not_mem_nil, or_false, false_or] at hc); (try simp only [List.mem_append, List.not_mem_nil, or_false, false_or]); first | (simp [hc]; done) | (rcases hc with hc | hc <;> simp [hc]; done) | (rcases hc with hc | hc | hc <;> simp [hc]))⟩

theorem c19 {l : List Dat} {a0 : Sl} {k0 : Int} {w : World} (ht : ∀ e, e ∈ l → Has TyCap e) (h : IsD w (.sl 5 l) [.slice a0.a a0.len a0.cap]) (hm : MarkedF TXT l k0) (h0 : 1 ≤ k0) (hk : k0 + Dat.cnts l ≤ 1099511627776) : CallW Try.prog 19 #[.slice a0.a a0.len a0.cap, .int .i64 k0] w (fun v w' => v = .int .i64 (k0 + Dat.cnts l) ∧ Ext w w') := by
  refine go19 ?_
  unfold W19; (try delta qn ql qb qi qS qI qP qQ qR qU qA qC)
  obtain ⟨hlen, hmax, _⟩ := isD_sl h
  have hmx : maxLen = 9223372036854775807 := rfl
  rw [hlen]
  refine LoopW.m2 (fun (x i : Int) w' => ∃ k : Nat, i = k ∧ k ≤ l.length ∧ x = k0 + Dat.cnts (l.take k) ∧ Ext w w') (fun _ (i : Int) _ => (l.length - i).toNat) ⟨0, rfl, by omega, by simp [Dat.cnts], Only.refl _ _⟩ ?_
  rintro (kx : Int) (i : Int) w4 ⟨k, rfl, hkl, hx, e4⟩ J hJ
  refine BIf.dec (fun hlt => ?_) (fun hge => ?_)
  · obtain ⟨d, hd⟩ : ∃ d, l[k]? = some d := ⟨_, List.getElem?_eq_getElem (by omega)⟩
    have hcg := cnts_get hd
    have hct := cnts_take hd
    have hmd := markedF_get hm hd
    rw [← hx] at hmd
    have ht0 := ht d (mem_get hd)
    obtain ⟨p, es, hp, he, hc, his⟩ := isD_at (IsD.ext e4 _ _ h) hd
    obtain ⟨x_0, x_1, x_2, x_3, x_4, rfl⟩ := has_Cap ht0
    obtain ⟨rfl, ws_0, ws_1, ws_2, ws_3, ws_4⟩ := cells_Cap his
    simp only [Dat.cnt, Dat.cnts] at hcg hct
    simp only [Marked, MarkedF, Dat.cnt, Dat.cnts] at hmd
    obtain ⟨m_0, m_1, m_2, m_3, m_4, _⟩ := hmd
    try simp (disch := omega) only [w64]
    refine ⟨by omega, by omega, p, hp, _, hc 0 _ rfl, BIf.f (by rw [m_0, w64 (by omega) (by omega)]; first | (simp; done) | (simp; omega)) ?_⟩
    refine ⟨by omega, by omega, p, hp, _, hc 1 _ rfl, BIf.f (by rw [m_1, w64 (by omega) (by omega)]; first | (simp; done) | (simp; omega)) ?_⟩
    refine ⟨by omega, by omega, p, hp, _, hc 2 _ rfl, BIf.f (by rw [m_2, w64 (by omega) (by omega)]; first | (simp; done) | (simp; omega)) ?_⟩
    refine ⟨by omega, by omega, p, hp, _, hc 3 _ rfl, BIf.f (by rw [m_3, w64 (by omega) (by omega)]; first | (simp; done) | (simp; omega)) ?_⟩
    refine ⟨by omega, by omega, p, hp, _, hc 4 _ rfl, BIf.f (by rw [m_4, w64 (by omega) (by omega)]; first | (simp; done) | (simp; omega)) ?_⟩
    exact hJ _ _ _ ⟨k + 1, by omega, by omega, by rw [hct]; omega, e4⟩ (by omega)
  · rw [List.take_of_length_le (by omega)] at hx
    exact ⟨by rw [hx], e4⟩

end Go.Proofs.Ytbimoajgofcmbaa

namespace Go.Proofs.Ytbimoajgofcmbaa
open Go Go.Den
structure MsgsAt (w : World) (s : Sl) (ms : List DMsg) : Prop where
  len : s.len = ms.length
  get : ∀ i x, ms[i]? = some x → ∃ (q : Addr) (t : Sl), s.a = some q ∧ w.cell? ((q.add (i * 3)).add 0) = some (.int .i64 x.From) ∧ w.cell? ((q.add (i * 3)).add 1) = some (.slice t.a t.len t.cap) ∧ w.cell? ((q.add (i * 3)).add 2) = some (.int .i64 x.Cap) ∧ ByAt w t x.Data
theorem MsgsAt.ext {w w' : World} {s : Sl} {ms : List DMsg} (h : MsgsAt w s ms) (e : Ext w w') : MsgsAt w' s ms :=
  ⟨h.len, fun i x hx => by obtain ⟨q, t, h1, h2, h3, h4, h5⟩ := h.get i x hx; exact ⟨q, t, h1, e.cell h2, e.cell h3, e.cell h4, h5.ext e⟩⟩
structure PortsAt (w : World) (s : Sl) (ps : List DPort) : Prop where
  len : s.len = ps.length
  get : ∀ i x, ps[i]? = some x → ∃ (q : Addr) (t : Sl), s.a = some q ∧ w.cell? ((q.add (i * 2)).add 0) = some (.int .i64 x.Id) ∧ w.cell? ((q.add (i * 2)).add 1) = some (.slice t.a t.len t.cap) ∧ MsgsAt w t x.Queue
theorem PortsAt.ext {w w' : World} {s : Sl} {ms : List DPort} (h : PortsAt w s ms) (e : Ext w w') : PortsAt w' s ms :=
  ⟨h.len, fun i x hx => by obtain ⟨q, t, h1, h2, h3, h4⟩ := h.get i x hx; exact ⟨q, t, h1, e.cell h2, e.cell h3, h4.ext e⟩⟩
structure PipesAt (w : World) (s : Sl) (ps : List DPipe) : Prop where
  len : s.len = ps.length
  get : ∀ i x, ps[i]? = some x → ∃ (q : Addr) (t : Sl), s.a = some q ∧ w.cell? ((q.add (i * 4)).add 0) = some (.int .i64 x.Id) ∧ w.cell? ((q.add (i * 4)).add 1) = some (.int .i64 x.Readers) ∧ w.cell? ((q.add (i * 4)).add 2) = some (.int .i64 x.Writers) ∧ w.cell? ((q.add (i * 4)).add 3) = some (.slice t.a t.len t.cap) ∧ ByAt w t x.Data
theorem PipesAt.ext {w w' : World} {s : Sl} {ms : List DPipe} (h : PipesAt w s ms) (e : Ext w w') : PipesAt w' s ms :=
  ⟨h.len, fun i x hx => by obtain ⟨q, t, h1, h2, h3, h4, h5, h6⟩ := h.get i x hx; exact ⟨q, t, h1, e.cell h2, e.cell h3, e.cell h4, e.cell h5, h6.ext e⟩⟩
structure IpcAt (w : World) (sp sc sq : Sl) (d : DIpc) : Prop where
  caps : RecsAt w sc 5 DCap.cells d.Caps
  ports : PortsAt w sp d.Ports
  pipes : PipesAt w sq d.Pipes
  few : d.Ports.length ≤ 1099511627776 ∧ d.Pipes.length ≤ 1099511627776
theorem IpcAt.ext {w w' : World} {sp sc sq : Sl} {d : DIpc} (h : IpcAt w sp sc sq d) (e : Ext w w') : IpcAt w' sp sc sq d := ⟨h.caps.ext e, h.ports.ext e, h.pipes.ext e, h.few⟩
def ipcV (n : Int) (sp sc sq : Sl) : List Value := [.int .i64 n, .slice sp.a sp.len sp.cap, .slice sc.a sc.len sc.cap, .slice sq.a sq.len sq.cap]
def capIx (d : DIpc) (id : Int) : Int := idxFrom (fun c : DCap => c.Id == id) d.Caps 0
def portIx (d : DIpc) (id : Int) : Int := idxFrom (fun c : DPort => c.Id == id) d.Ports 0
def pipeIx (d : DIpc) (id : Int) : Int := idxFrom (fun c : DPipe => c.Id == id) d.Pipes 0
theorem c49 {n : Int} {w : World} : CallW Try.prog 49 #[.int .i64 n] w (fun v w' => v = .bool (decide (n ≥ 0) && decide (n ≤ 1099511627776)) ∧ w' = w) := by
  refine go49 ?_
  unfold W49; (try delta qn ql qb qi qS qI qP qQ qR qU qA qC)
  simp only [join_and]
  exact ⟨by trivial, by trivial⟩
theorem c84 {n : Int} {w : World} : CallW Try.prog 84 #[.int .i64 n] w (fun v w' => v = .bool (decide (n ≥ 0) && decide (n < 64)) ∧ w' = w) := by
  refine go84 ?_
  unfold W84; (try delta qn ql qb qi qS qI qP qQ qR qU qA qC)
  simp only [join_and]
  exact ⟨by trivial, by trivial⟩
theorem c57 {n : Int} {w : World} : CallW Try.prog 57 #[.int .i64 n] w (fun v w' => v = .bool (decide (n ≥ 0) && decide (n < 64)) ∧ w' = w) := by
  refine go57 ?_
  unfold W57; (try delta qn ql qb qi qS qI qP qQ qR qU qA qC)
  simp only [join_and]
  exact ⟨by trivial, by trivial⟩
theorem c86 {n id : Int} {sp sc sq : Sl} {d : DIpc} {w : World} (hd : IpcAt w sp sc sq d) : CallW Try.prog 86 #[.agg #[.int .i64 n, .slice sp.a sp.len sp.cap, .slice sc.a sc.len sc.cap, .slice sq.a sq.len sq.cap], .int .i64 id] w (fun v w' => v = .int .i64 (capIx d id) ∧ Ext w w') := by
  refine go86 ?_
  unfold W86; (try delta qn ql qb qi qS qI qP qQ qR qU qA qC)
  have h := SH.start w
  have hl := hd.caps.len
  have hf := hd.caps.few
  refine h.alloc (fun w1 h ew1 nw1 => ?_)
  refine LoopW.m1 (fun (i : Int) w' => ∃ k : Nat, i = k ∧ k ≤ d.Caps.length ∧ (∀ j y, j < k → d.Caps[j]? = some y → (y.Id == id) = false) ∧ SH w w' [aB w.heap.size ((ipcV n sp sc sq).map Ce.v)]) (fun (i : Int) _ => ((d.Caps.length : Int) - i).toNat) ⟨0, rfl, by omega, (fun j y hj => by omega), h⟩ ?_
  rintro (i : Int) w4 ⟨k, rfl, hk, hno, h⟩ J hJ
  refine ⟨sc, h.cell 0 rfl rfl, ?_⟩
  dsimp only; rw [hl]
  refine BIf.dec (fun hlt => ?_) (fun hge => ?_)
  · obtain ⟨x, hx⟩ : ∃ x, d.Caps[k]? = some x := ⟨_, List.getElem?_eq_getElem (by omega)⟩
    obtain ⟨q, hq, hc⟩ := (hd.caps.ext h.ext).get (by omega) hx
    refine ⟨sc, h.cell 0 rfl rfl, by omega, by omega, q, hq, _, hc 0 _ rfl, ?_⟩
    refine BIf.eq (fun he => ?_) (fun he => ?_)
    · exact ⟨by unfold capIx; rw [idx_at hx (by simpa using he) hno], h.ext⟩
    · rw [w64 (by omega) (by omega)]
      refine hJ _ _ ⟨k + 1, by omega, by omega, fun j y hj hy => ?_, h⟩ (by omega)
      by_cases hjk : j = k
      · subst hjk; rw [hx] at hy; cases hy; simpa using he
      · exact hno j y (by omega) hy
  · refine ⟨by unfold capIx; rw [idx_no (fun j y hy => hno j y (by have := (List.getElem?_eq_some_iff.1 hy).1; omega) hy)], h.ext⟩
theorem c85 {n id : Int} {sp sc sq : Sl} {d : DIpc} {w : World} (hd : IpcAt w sp sc sq d) : CallW Try.prog 85 #[.agg #[.int .i64 n, .slice sp.a sp.len sp.cap, .slice sc.a sc.len sc.cap, .slice sq.a sq.len sq.cap], .int .i64 id] w (fun v w' => v = .int .i64 (portIx d id) ∧ Ext w w') := by
  refine go85 ?_
  unfold W85; (try delta qn ql qb qi qS qI qP qQ qR qU qA qC)
  have h := SH.start w
  have hl := hd.ports.len
  have hf := hd.few
  refine h.alloc (fun w1 h ew1 nw1 => ?_)
  refine LoopW.m1 (fun (i : Int) w' => ∃ k : Nat, i = k ∧ k ≤ d.Ports.length ∧ (∀ j y, j < k → d.Ports[j]? = some y → (y.Id == id) = false) ∧ SH w w' [aB w.heap.size ((ipcV n sp sc sq).map Ce.v)]) (fun (i : Int) _ => ((d.Ports.length : Int) - i).toNat) ⟨0, rfl, by omega, (fun j y hj => by omega), h⟩ ?_
  rintro (i : Int) w4 ⟨k, rfl, hk, hno, h⟩ J hJ
  refine ⟨sp, h.cell 0 rfl rfl, ?_⟩
  dsimp only; rw [hl]
  refine BIf.dec (fun hlt => ?_) (fun hge => ?_)
  · obtain ⟨x, hx⟩ : ∃ x, d.Ports[k]? = some x := ⟨_, List.getElem?_eq_getElem (by omega)⟩
    obtain ⟨q, t, hq, hc, _⟩ := (hd.ports.ext h.ext).get k x hx
    refine ⟨sp, h.cell 0 rfl rfl, by omega, by omega, q, hq, _, hc, ?_⟩
    refine BIf.eq (fun he => ?_) (fun he => ?_)
    · exact ⟨by unfold portIx; rw [idx_at hx (by simpa using he) hno], h.ext⟩
    · rw [w64 (by omega) (by omega)]
      refine hJ _ _ ⟨k + 1, by omega, by omega, fun j y hj hy => ?_, h⟩ (by omega)
      by_cases hjk : j = k
      · subst hjk; rw [hx] at hy; cases hy; simpa using he
      · exact hno j y (by omega) hy
  · refine ⟨by unfold portIx; rw [idx_no (fun j y hy => hno j y (by have := (List.getElem?_eq_some_iff.1 hy).1; omega) hy)], h.ext⟩
theorem c88 {n id : Int} {sp sc sq : Sl} {d : DIpc} {w : World} (hd : IpcAt w sp sc sq d) : CallW Try.prog 88 #[.agg #[.int .i64 n, .slice sp.a sp.len sp.cap, .slice sc.a sc.len sc.cap, .slice sq.a sq.len sq.cap], .int .i64 id] w (fun v w' => v = .int .i64 (pipeIx d id) ∧ Ext w w') := by
  refine go88 ?_
  unfold W88; (try delta qn ql qb qi qS qI qP qQ qR qU qA qC)
  have h := SH.start w
  have hl := hd.pipes.len
  have hf := hd.few
  refine h.alloc (fun w1 h ew1 nw1 => ?_)
  refine LoopW.m1 (fun (i : Int) w' => ∃ k : Nat, i = k ∧ k ≤ d.Pipes.length ∧ (∀ j y, j < k → d.Pipes[j]? = some y → (y.Id == id) = false) ∧ SH w w' [aB w.heap.size ((ipcV n sp sc sq).map Ce.v)]) (fun (i : Int) _ => ((d.Pipes.length : Int) - i).toNat) ⟨0, rfl, by omega, (fun j y hj => by omega), h⟩ ?_
  rintro (i : Int) w4 ⟨k, rfl, hk, hno, h⟩ J hJ
  refine ⟨sq, h.cell 0 rfl rfl, ?_⟩
  dsimp only; rw [hl]
  refine BIf.dec (fun hlt => ?_) (fun hge => ?_)
  · obtain ⟨x, hx⟩ : ∃ x, d.Pipes[k]? = some x := ⟨_, List.getElem?_eq_getElem (by omega)⟩
    obtain ⟨q, t, hq, hc, _⟩ := (hd.pipes.ext h.ext).get k x hx
    refine ⟨sq, h.cell 0 rfl rfl, by omega, by omega, q, hq, _, hc, ?_⟩
    refine BIf.eq (fun he => ?_) (fun he => ?_)
    · exact ⟨by unfold pipeIx; rw [idx_at hx (by simpa using he) hno], h.ext⟩
    · rw [w64 (by omega) (by omega)]
      refine hJ _ _ ⟨k + 1, by omega, by omega, fun j y hj hy => ?_, h⟩ (by omega)
      by_cases hjk : j = k
      · subst hjk; rw [hx] at hy; cases hy; simpa using he
      · exact hno j y (by omega) hy
  · refine ⟨by unfold pipeIx; rw [idx_no (fun j y hy => hno j y (by have := (List.getElem?_eq_some_iff.1 hy).1; omega) hy)], h.ext⟩
theorem c59 {id : Int} {b : Nat} {sp sc sq : Sl} {d : DIpc} {w : World} (hc2 : w.cell? ⟨b, 2, none⟩ = some (.slice sc.a sc.len sc.cap)) (hd : IpcAt w sp sc sq d) : CallW Try.prog 59 #[.pointer (some ⟨b, 0, none⟩), .int .i64 id] w (fun v w' => v = .pointer (ptrE sc 5 (capIx d id)) ∧ w' = w) := by
  refine go59 ?_
  unfold W59; (try delta qn ql qb qi qS qI qP qQ qR qU qA qC)
  have hl := hd.caps.len
  have hf := hd.caps.few
  refine ⟨_, rfl, sc, hc2, ?_⟩
  refine LoopW.m1 (fun (i : Int) w' => ∃ k : Nat, i = k ∧ k ≤ d.Caps.length ∧ (∀ j y, j < k → d.Caps[j]? = some y → (y.Id == id) = false) ∧ w' = w) (fun (i : Int) _ => ((d.Caps.length : Int) - i).toNat) ⟨0, rfl, by omega, (fun j y hj => by omega), rfl⟩ ?_
  rintro (i : Int) w5 ⟨k, rfl, hk, hno, rfl⟩ J hJ
  rw [hl]
  refine BIf.dec (fun hlt => ?_) (fun hge => ?_)
  · obtain ⟨x, hx⟩ : ∃ x, d.Caps[k]? = some x := ⟨_, List.getElem?_eq_getElem (by omega)⟩
    obtain ⟨q, hq, hc⟩ := hd.caps.get (by omega) hx
    refine ⟨_, rfl, sc, hc2, by omega, by omega, q, hq, _, hc 0 _ rfl, ?_⟩
    refine BIf.eq (fun he => ?_) (fun he => ?_)
    · refine ⟨_, rfl, sc, hc2, by omega, by omega, q, hq, ?_, rfl⟩
      unfold capIx; rw [idx_at hx (by simpa using he) hno, ptrE_at hq]; rfl
    · rw [w64 (by omega) (by omega)]
      refine hJ _ _ ⟨k + 1, by omega, by omega, fun j y hj hy => ?_, rfl⟩ (by omega)
      by_cases hjk : j = k
      · subst hjk; rw [hx] at hy; cases hy; simpa using he
      · exact hno j y (by omega) hy
  · refine ⟨?_, rfl⟩
    unfold capIx; rw [idx_no (fun j y hy => hno j y (by have := (List.getElem?_eq_some_iff.1 hy).1; omega) hy), ptrE_neg (by omega)]
theorem c58 {id : Int} {b : Nat} {sp sc sq : Sl} {d : DIpc} {w : World} (hc2 : w.cell? ⟨b, 1, none⟩ = some (.slice sp.a sp.len sp.cap)) (hd : IpcAt w sp sc sq d) : CallW Try.prog 58 #[.pointer (some ⟨b, 0, none⟩), .int .i64 id] w (fun v w' => v = .pointer (ptrE sp 2 (portIx d id)) ∧ w' = w) := by
  refine go58 ?_
  unfold W58; (try delta qn ql qb qi qS qI qP qQ qR qU qA qC)
  have hl := hd.ports.len
  have hf := hd.few
  refine ⟨_, rfl, sp, hc2, ?_⟩
  refine LoopW.m1 (fun (i : Int) w' => ∃ k : Nat, i = k ∧ k ≤ d.Ports.length ∧ (∀ j y, j < k → d.Ports[j]? = some y → (y.Id == id) = false) ∧ w' = w) (fun (i : Int) _ => ((d.Ports.length : Int) - i).toNat) ⟨0, rfl, by omega, (fun j y hj => by omega), rfl⟩ ?_
  rintro (i : Int) w5 ⟨k, rfl, hk, hno, rfl⟩ J hJ
  rw [hl]
  refine BIf.dec (fun hlt => ?_) (fun hge => ?_)
  · obtain ⟨x, hx⟩ : ∃ x, d.Ports[k]? = some x := ⟨_, List.getElem?_eq_getElem (by omega)⟩
    obtain ⟨q, t, hq, hc, _⟩ := hd.ports.get k x hx
    refine ⟨_, rfl, sp, hc2, by omega, by omega, q, hq, _, hc, ?_⟩
    refine BIf.eq (fun he => ?_) (fun he => ?_)
    · refine ⟨_, rfl, sp, hc2, by omega, by omega, q, hq, ?_, rfl⟩
      unfold portIx; rw [idx_at hx (by simpa using he) hno, ptrE_at hq]; rfl
    · rw [w64 (by omega) (by omega)]
      refine hJ _ _ ⟨k + 1, by omega, by omega, fun j y hj hy => ?_, rfl⟩ (by omega)
      by_cases hjk : j = k
      · subst hjk; rw [hx] at hy; cases hy; simpa using he
      · exact hno j y (by omega) hy
  · refine ⟨?_, rfl⟩
    unfold portIx; rw [idx_no (fun j y hy => hno j y (by have := (List.getElem?_eq_some_iff.1 hy).1; omega) hy), ptrE_neg (by omega)]
def amAt (x y b : Int) : Bool := (Int.tmod (IntKind.i64.wrap (x.tdiv b)) 2 == 1) && (Int.tmod (IntKind.i64.wrap (y.tdiv b)) 2 == 0)
def amongB (x y : Int) : Bool := !amAt x y 1 && !amAt x y 2 && !amAt x y 4
theorem c87 {x y : Int} {w : World} : CallW Try.prog 87 #[.int .i64 x, .int .i64 y] w (fun v w' => v = .bool (amongB x y) ∧ w' = w) := by
  refine go87 ?_
  unfold W87; (try delta qn ql qb qi qS qI qP qQ qR qU qA qC)
  refine LoopW.m1 (fun (b : Int) w' => ((b = 1) ∨ (b = 2 ∧ amAt x y 1 = false) ∨ (b = 4 ∧ amAt x y 1 = false ∧ amAt x y 2 = false) ∨ (b = 8 ∧ amAt x y 1 = false ∧ amAt x y 2 = false ∧ amAt x y 4 = false)) ∧ w' = w) (fun (b : Int) _ => (8 - b).toNat) ⟨.inl rfl, rfl⟩ ?_
  rintro (b : Int) w3 ⟨hb, rfl⟩ J hJ
  refine BIf.dec (fun hle => ?_) (fun hgt => ?_)
  · refine ⟨by omega, by decide, ?_⟩
    refine JoinW.cut1 (fun (r : Bool) w' => r = amAt x y b ∧ w' = w3) ?_ ?_
    · unfold amAt
      refine BIf.of (fun hc => ?_) (fun hc => ?_)
      · exact ⟨by omega, by decide, by rw [hc]; simp, rfl⟩
      · exact ⟨by rw [hc]; simp, rfl⟩
    rintro (r : Bool) w6 ⟨rfl, rfl⟩
    refine BIf.of (fun hc => ?_) (fun hc => ?_)
    · refine ⟨?_, rfl⟩
      unfold amongB
      rcases hb with rfl | ⟨rfl, h1⟩ | ⟨rfl, h1, h2⟩ | ⟨rfl, _⟩
      · simp [hc]
      · simp [hc]
      · simp [hc]
      · omega
    · rw [w64 (by omega) (by omega)]
      refine hJ _ _ ⟨?_, rfl⟩ (by omega)
      rcases hb with rfl | ⟨rfl, h1⟩ | ⟨rfl, h1, h2⟩ | ⟨rfl, _⟩
      · exact .inr (.inl ⟨rfl, hc⟩)
      · exact .inr (.inr (.inl ⟨rfl, h1, hc⟩))
      · exact .inr (.inr (.inr ⟨rfl, h1, h2, hc⟩))
      · omega
  · refine ⟨?_, rfl⟩
    unfold amongB
    rcases hb with rfl | ⟨rfl, h1⟩ | ⟨rfl, h1, h2⟩ | ⟨rfl, h1, h2, h3⟩
    · omega
    · omega
    · omega
    · simp [h1, h2, h3]
theorem among_fin : ∀ x y : Fin 8, (andI .i64 ((y.val : Nat) : Int) ((x.val : Nat) : Int) != ((x.val : Nat) : Int)) = !amongB ((x.val : Nat) : Int) ((y.val : Nat) : Int) := by decide
theorem among_eq {x y : Int} (h1 : 1 ≤ x) (h2 : x ≤ 7) (h3 : 1 ≤ y) (h4 : y ≤ 7) : (andI .i64 y x != x) = !amongB x y := by
  have := among_fin ⟨x.toNat, by omega⟩ ⟨y.toNat, by omega⟩
  simp only at this
  rwa [show ((x.toNat : Nat) : Int) = x by omega, show ((y.toNat : Nat) : Int) = y by omega] at this
end Go.Proofs.Ytbimoajgofcmbaa

namespace Go.Proofs.Ytbimoajgofcmbaa
open Go Go.Den
structure ParOk (d : DIpc) (c : DCap) (k : Nat) (p : DCap) : Prop where
  ix : capIx d c.Parent = k
  at_ : d.Caps[k]? = some p
  lt : c.Parent < c.Id
  port : p.Port = c.Port
  am : amongB c.Rights p.Rights = true
structure CapOk (d : DIpc) (i : Nat) (c : DCap) : Prop where
  id1 : 1 ≤ c.Id
  idN : c.Id ≤ d.Next
  sorted : ∀ z, 0 < i → d.Caps[i - 1]? = some z → z.Id < c.Id
  hold : 0 ≤ c.Holder ∧ c.Holder < 64
  r1 : 1 ≤ c.Rights
  r7 : c.Rights ≤ 7
  port : 0 ≤ portIx d c.Port
  par : c.Parent = 0 ∨ ∃ k p, ParOk d c k p
def MsgOk (d : DIpc) (m : DMsg) : Prop := 0 ≤ m.From ∧ m.From < 64 ∧ m.Data.length ≤ 64 ∧ 0 ≤ m.Cap ∧ m.Cap ≤ d.Next
structure PortOk (d : DIpc) (i : Nat) (p : DPort) : Prop where
  id1 : 1 ≤ p.Id
  idN : p.Id ≤ d.Next
  sorted : ∀ z, 0 < i → d.Ports[i - 1]? = some z → z.Id < p.Id
  few : p.Queue.length ≤ 8
  noCap : capIx d p.Id < 0
  noPipe : pipeIx d p.Id < 0
  msgs : ∀ m, m ∈ p.Queue → MsgOk d m
  some_ : ∃ c, c ∈ d.Caps ∧ c.Port = p.Id
structure PipeOk (d : DIpc) (i : Nat) (p : DPipe) : Prop where
  id1 : 1 ≤ p.Id
  idN : p.Id ≤ d.Next
  sorted : ∀ z, 0 < i → d.Pipes[i - 1]? = some z → z.Id < p.Id
  noCap : capIx d p.Id < 0
  few : p.Data.length ≤ 512
  r : 0 ≤ p.Readers ∧ p.Readers ≤ 64
  w : 0 ≤ p.Writers ∧ p.Writers ≤ 64
  pos : 0 < p.Readers + p.Writers
structure IOk (d : DIpc) : Prop where
  next : 0 ≤ d.Next ∧ d.Next ≤ 1099511627776
  caps : d.Caps.length ≤ 128
  ports : d.Ports.length ≤ 32
  pipes : d.Pipes.length ≤ 32
  cap : ∀ i c, d.Caps[i]? = some c → CapOk d i c
  port : ∀ i p, d.Ports[i]? = some p → PortOk d i p
  pipe : ∀ i p, d.Pipes[i]? = some p → PipeOk d i p
def KB (P : Prop) (w : World) (v : Value) (w' : World) : Prop := ∃ b, v = .bool b ∧ (b = true ↔ P) ∧ Ext w w'
theorem kb_f {P : Prop} {w w' : World} (h : ¬ P) (e : Ext w w') : KB P w (.bool false) w' := ⟨false, rfl, ⟨(fun h => by cases h), fun hp => absurd hp h⟩, e⟩
theorem kb_t {P : Prop} {w w' : World} (h : P) (e : Ext w w') : KB P w (.bool true) w' := ⟨true, rfl, ⟨fun _ => h, fun _ => rfl⟩, e⟩
theorem idx_get {α : Type} {p : α → Bool} {l : List α} (h : 0 ≤ idxFrom p l 0) : ∃ (k : Nat) (x : α), idxFrom p l 0 = k ∧ l[k]? = some x ∧ p x = true := by
  rcases idx_cases p l with ⟨h1, _⟩ | ⟨k, x, h1, h2, h3, _⟩
  · omega
  · exact ⟨k, x, h1, h2, h3⟩
theorem c50 {n : Int} {i : Nat} {sp sc sq : Sl} {d : DIpc} {c : DCap} {w : World} (hd : IpcAt w sp sc sq d) (hn : n = d.Next) (hx : d.Caps[i]? = some c) : CallW Try.prog 50 #[.agg #[.int .i64 n, .slice sp.a sp.len sp.cap, .slice sc.a sc.len sc.cap, .slice sq.a sq.len sq.cap], .int .i64 (i : Int)] w (KB (CapOk d i c) w) := by
  refine go50 ?_
  unfold W50; (try delta qn ql qb qi qS qI qP qQ qR qU qA qC H50_0)
  have h := SH.start w
  have hl := hd.caps.len
  have hf := hd.caps.few
  have hil := (List.getElem?_eq_some_iff.1 hx).1
  obtain ⟨q, hq, hc⟩ := hd.caps.get (by omega) hx
  refine h.alloc (fun w1 h ew1 nw1 => ?_)
  refine ⟨sc, h.cell 0 rfl rfl, by omega, by omega, q, hq, ?_⟩
  rw [Int.toNat_natCast]
  refine ⟨_, h.ext.cell (hc 0 _ rfl), _, h.ext.cell (hc 1 _ rfl), _, h.ext.cell (hc 2 _ rfl), _, h.ext.cell (hc 3 _ rfl), _, h.ext.cell (hc 4 _ rfl), ?_⟩
  refine h.alloc (fun w9 h ew9 nw9 => ?_)
  refine h.put 0 rfl rfl rfl (fun w10 h nw10 => ?_)
  generalize w1.heap.size = cb at *
  have h := h.drew
  subst hn
  obtain ⟨J, hJJ⟩ : ∃ J : Bool → World → Prop, J = fun b w' => (b = false ↔ (1 ≤ c.Id ∧ c.Id ≤ d.Next ∧ (∀ z, 0 < i → d.Caps[i - 1]? = some z → z.Id < c.Id) ∧ (0 ≤ c.Holder ∧ c.Holder < 64) ∧ 1 ≤ c.Rights ∧ c.Rights ≤ 7 ∧ 0 ≤ portIx d c.Port)) ∧ SH w w' [aB cb (c.cells.map Ce.v), aB w.heap.size ((ipcV d.Next sp sc sq).map Ce.v)] := ⟨_, rfl⟩
  have mkJ : ∀ b w', (b = false ↔ (1 ≤ c.Id ∧ c.Id ≤ d.Next ∧ (∀ z, 0 < i → d.Caps[i - 1]? = some z → z.Id < c.Id) ∧ (0 ≤ c.Holder ∧ c.Holder < 64) ∧ 1 ≤ c.Rights ∧ c.Rights ≤ 7 ∧ 0 ≤ portIx d c.Port)) → SH w w' [aB cb (c.cells.map Ce.v), aB w.heap.size ((ipcV d.Next sp sc sq).map Ce.v)] → J b w' := fun b w' h1 h2 => by rw [hJJ]; exact ⟨h1, h2⟩
  refine JoinW.cut1 J ?_ ?_
  · refine ⟨_, h.cell 0 rfl rfl, BIf.dec (fun hb => mkJ _ _ ⟨(fun hh => by cases hh), fun hh => by omega⟩ h) (fun hb => ?_)⟩
    refine ⟨_, h.cell 0 rfl rfl, _, h.cell 1 rfl rfl, BIf.dec (fun hb2 => mkJ _ _ ⟨(fun hh => by cases hh), fun hh => by omega⟩ h) (fun hb2 => ?_)⟩
    have tail : ∀ (J : Bool → World → Prop), (∀ b w', (b = false ↔ (0 ≤ c.Holder ∧ c.Holder < 64) ∧ 1 ≤ c.Rights ∧ c.Rights ≤ 7 ∧ 0 ≤ portIx d c.Port) → SH w w' [aB cb (c.cells.map Ce.v), aB w.heap.size ((ipcV d.Next sp sc sq).map Ce.v)] → J b w') →
        ∃ n57 : Int, w10.drew.cell? ⟨cb, 1, none⟩ = some (.int .i64 n57) ∧ CallW Try.prog 84 #[.int .i64 n57] w10.drew fun v58 w59 => ∃ b60 : Bool, v58 = .bool b60 ∧ BIf (!b60) (J true w59) (∃ n61 : Int, w59.cell? ⟨cb, 3, none⟩ = some (.int .i64 n61) ∧ BIf (decide (n61 < 1)) (J true w59) (∃ n62 : Int, w59.cell? ⟨cb, 3, none⟩ = some (.int .i64 n62) ∧ BIf (decide (n62 > 7)) (J true w59) (∃ n63 : Int, w59.cell? ⟨w.heap.size, 0, none⟩ = some (.int .i64 n63) ∧ ∃ l64 : Sl, w59.cell? ⟨w.heap.size, 1, none⟩ = some (.slice l64.a l64.len l64.cap) ∧ ∃ l65 : Sl, w59.cell? ⟨w.heap.size, 2, none⟩ = some (.slice l65.a l65.len l65.cap) ∧ ∃ l66 : Sl, w59.cell? ⟨w.heap.size, 3, none⟩ = some (.slice l66.a l66.len l66.cap) ∧ ∃ n67 : Int, w59.cell? ⟨cb, 2, none⟩ = some (.int .i64 n67) ∧ CallW Try.prog 85 #[.agg #[.int .i64 n63, .slice l64.a l64.len l64.cap, .slice l65.a l65.len l65.cap, .slice l66.a l66.len l66.cap], .int .i64 n67] w59 fun v68 w69 => ∃ n70 : Int, v68 = .int .i64 n70 ∧ J (decide (n70 < 0)) w69))) := by
      intro J hJ
      refine ⟨_, h.cell 0 rfl rfl, c84.mono ?_⟩
      rintro _ w59 ⟨rfl, rfl⟩
      refine ⟨_, rfl, BIf.of (fun hb3 => hJ _ _ ⟨(fun hh => by cases hh), fun hh => ?_⟩ h) (fun hb3 => ?_)⟩
      · simp only [Bool.not_eq_true', Bool.and_eq_false_iff, decide_eq_false_iff_not] at hb3; omega
      simp only [Bool.not_eq_false', Bool.and_eq_true, decide_eq_true_eq] at hb3
      refine ⟨_, h.cell 0 rfl rfl, BIf.dec (fun hb4 => hJ _ _ ⟨(fun hh => by cases hh), fun hh => by omega⟩ h) (fun hb4 => ?_)⟩
      refine ⟨_, h.cell 0 rfl rfl, BIf.dec (fun hb5 => hJ _ _ ⟨(fun hh => by cases hh), fun hh => by omega⟩ h) (fun hb5 => ?_)⟩
      refine ⟨_, h.cell 1 rfl rfl, sp, h.cell 1 rfl rfl, sc, h.cell 1 rfl rfl, sq, h.cell 1 rfl rfl, _, h.cell 0 rfl rfl, (c85 (hd.ext h.ext)).mono ?_⟩
      rintro _ w69 ⟨rfl, e⟩
      refine ⟨_, rfl, hJ _ _ ?_ (h.to e)⟩
      rw [decide_eq_false_iff_not]; omega
    refine BIf.dec (fun hi0 => ?_) (fun hi0 => ?_)
    · obtain ⟨z, hz⟩ : ∃ z, d.Caps[i - 1]? = some z := ⟨_, List.getElem?_eq_getElem (by omega)⟩
      obtain ⟨q', hq', hc'⟩ := hd.caps.get (by omega) hz
      rw [w64 (n := (i : Int) - 1) (by omega) (by omega), show ((i : Int) - 1).toNat = i - 1 by omega]
      refine ⟨sc, h.cell 1 rfl rfl, by omega, by omega, q', hq', _, h.ext.cell (hc' 0 _ rfl), _, h.cell 0 rfl rfl, ?_⟩
      refine BIf.dec (fun hb3 => mkJ _ _ ⟨(fun hh => by cases hh), fun hh => by have := hh.2.2.1 z (by omega) hz; omega⟩ h) (fun hb3 => ?_)
      refine tail J (fun b w' hh hs => mkJ _ _ ?_ hs)
      rw [hh]
      exact ⟨fun hh => ⟨by omega, by omega, fun y _ hy => by rw [hz] at hy; cases hy; omega, hh⟩, fun hh => hh.2.2.2⟩
    · refine tail J (fun b w' hh hs => mkJ _ _ ?_ hs)
      rw [hh]
      exact ⟨fun hh => ⟨by omega, by omega, fun y hy _ => by omega, hh⟩, fun hh => hh.2.2.2⟩
  subst hJJ
  rintro (b : Bool) w13 ⟨hiff, h⟩
  refine BIf.of (fun hb => kb_f (fun hok => ?_) h.ext) (fun hb => ?_)
  · rw [hiff.2 ⟨hok.id1, hok.idN, hok.sorted, hok.hold, hok.r1, hok.r7, hok.port⟩] at hb; cases hb
  obtain ⟨g1, g2, g3, g4, g5, g6, g7⟩ := hiff.1 hb
  refine ⟨_, h.cell 0 rfl rfl, BIf.eq (fun h0 => kb_t ⟨g1, g2, g3, g4, g5, g6, g7, .inl h0⟩ h.ext) (fun h0 => ?_)⟩
  refine ⟨_, h.cell 1 rfl rfl, sp, h.cell 1 rfl rfl, sc, h.cell 1 rfl rfl, sq, h.cell 1 rfl rfl, _, h.cell 0 rfl rfl, (c86 (hd.ext h.ext)).mono ?_⟩
  rintro _ w21 ⟨rfl, e⟩
  have h := (h.to e)
  refine ⟨_, rfl, BIf.dec (fun hge => ?_) (fun hlt => ?_)⟩
  · have h := h.drew
    obtain ⟨k, p, hk, hp, _⟩ := idx_get hge
    have hk' : capIx d c.Parent = k := hk
    obtain ⟨q', hq', hc'⟩ := hd.caps.get (by omega) hp
    have hkl := (List.getElem?_eq_some_iff.1 hp).1
    rw [hk']
    have no : ∀ (hn : ∀ p', d.Caps[k]? = some p' → ¬ (c.Parent < c.Id ∧ p'.Port = c.Port ∧ amongB c.Rights p'.Rights = true)), ¬ CapOk d i c := by
      intro hn hok
      rcases hok.par with h0' | ⟨k', p', hpo⟩
      · exact h0 h0'
      · have := hpo.ix
        rw [hk'] at this
        obtain rfl : k = k' := by omega
        exact hn p' hpo.at_ ⟨hpo.lt, hpo.port, hpo.am⟩
    refine ⟨_, h.cell 0 rfl rfl, _, h.cell 0 rfl rfl, BIf.dec (fun hlt => ?_) (fun hnl => kb_f (no (fun p' _ hh => hnl hh.1)) h.ext)⟩
    refine ⟨sc, h.cell 1 rfl rfl, by omega, by omega, q', hq', _, h.ext.cell (hc' 2 _ rfl), _, h.cell 0 rfl rfl, ?_⟩
    refine BIf.eq (fun hpe => ?_) (fun hpe => kb_f (no (fun p' hp' hh => by rw [hp] at hp'; cases hp'; exact hpe hh.2.1)) h.ext)
    refine ⟨_, h.cell 0 rfl rfl, sc, h.cell 1 rfl rfl, by omega, by omega, q', hq', _, h.ext.cell (hc' 3 _ rfl), c87.mono ?_⟩
    rintro _ w34 ⟨rfl, rfl⟩
    refine ⟨_, rfl, _, rfl, ?_, h.ext⟩
    constructor
    · intro ha; exact ⟨g1, g2, g3, g4, g5, g6, g7, .inr ⟨k, p, hk', hp, hlt, hpe, ha⟩⟩
    · intro hok
      rcases hok.par with h0' | ⟨k', p', hpo⟩
      · exact absurd h0' h0
      · have := hpo.ix
        rw [hk'] at this
        obtain rfl : k = k' := by omega
        have hat := hpo.at_
        rw [hp] at hat
        cases hat
        exact hpo.am
  · refine kb_f (fun hok => ?_) h.drew.ext
    rcases hok.par with h0' | ⟨k', p', hpo⟩
    · exact h0 h0'
    · have := hpo.ix; omega
theorem c51 {n : Int} {i : Nat} {sp sc sq : Sl} {d : DIpc} {x : DPort} {w : World} (hd : IpcAt w sp sc sq d) (hn : n = d.Next) (hx : d.Ports[i]? = some x) : CallW Try.prog 51 #[.agg #[.int .i64 n, .slice sp.a sp.len sp.cap, .slice sc.a sc.len sc.cap, .slice sq.a sq.len sq.cap], .int .i64 (i : Int)] w (KB (PortOk d i x) w) := by
  refine go51 ?_
  unfold W51; (try delta qn ql qb qi qS qI qP qQ qR qU qA qC H51_0)
  have h := SH.start w
  have hl := hd.ports.len
  have hf := hd.few
  have hcl := hd.caps.len
  have hcf := hd.caps.few
  have hil := (List.getElem?_eq_some_iff.1 hx).1
  obtain ⟨q, tq, hq, hc0, hc1, hms⟩ := hd.ports.get i x hx
  have hml := hms.len
  refine h.alloc (fun w1 h ew1 nw1 => ?_)
  refine ⟨sp, h.cell 0 rfl rfl, by omega, by omega, q, hq, ?_⟩
  rw [Int.toNat_natCast]
  refine ⟨_, h.ext.cell hc0, tq, h.ext.cell hc1, ?_⟩
  refine h.alloc (fun w6 h ew6 nw6 => ?_)
  refine h.put 0 rfl rfl rfl (fun w7 h nw7 => ?_)
  generalize w1.heap.size = cb at *
  have h := h.drew
  subst hn
  obtain ⟨J, hJJ⟩ : ∃ J : Bool → World → Prop, J = fun b w' => (b = false ↔ (1 ≤ x.Id ∧ x.Id ≤ d.Next ∧ (∀ z, 0 < i → d.Ports[i - 1]? = some z → z.Id < x.Id) ∧ x.Queue.length ≤ 8 ∧ capIx d x.Id < 0 ∧ pipeIx d x.Id < 0)) ∧ SH w w' [aB cb ([.int .i64 x.Id, .slice tq.a tq.len tq.cap].map Ce.v), aB w.heap.size ((ipcV d.Next sp sc sq).map Ce.v)] := ⟨_, rfl⟩
  have mkJ : ∀ b w', (b = false ↔ (1 ≤ x.Id ∧ x.Id ≤ d.Next ∧ (∀ z, 0 < i → d.Ports[i - 1]? = some z → z.Id < x.Id) ∧ x.Queue.length ≤ 8 ∧ capIx d x.Id < 0 ∧ pipeIx d x.Id < 0)) → SH w w' [aB cb ([.int .i64 x.Id, .slice tq.a tq.len tq.cap].map Ce.v), aB w.heap.size ((ipcV d.Next sp sc sq).map Ce.v)] → J b w' := fun b w' h1 h2 => by rw [hJJ]; exact ⟨h1, h2⟩
  refine JoinW.cut1 J ?_ ?_
  · refine ⟨_, h.cell 0 rfl rfl, BIf.dec (fun hb => mkJ _ _ ⟨(fun hh => by cases hh), fun hh => by omega⟩ h) (fun hb => ?_)⟩
    refine ⟨_, h.cell 0 rfl rfl, _, h.cell 1 rfl rfl, BIf.dec (fun hb2 => mkJ _ _ ⟨(fun hh => by cases hh), fun hh => by omega⟩ h) (fun hb2 => ?_)⟩
    have tail : ∀ (J : Bool → World → Prop), (∀ b w', (b = false ↔ x.Queue.length ≤ 8 ∧ capIx d x.Id < 0 ∧ pipeIx d x.Id < 0) → SH w w' [aB cb ([.int .i64 x.Id, .slice tq.a tq.len tq.cap].map Ce.v), aB w.heap.size ((ipcV d.Next sp sc sq).map Ce.v)] → J b w') →
        ∃ l71 : Sl, w7.drew.cell? ⟨cb, 1, none⟩ = some (.slice l71.a l71.len l71.cap) ∧ BIf (decide ((((l71.len : Nat) : Int) : Int) > 8)) (J true w7.drew) (∃ n72 : Int, w7.drew.cell? ⟨w.heap.size, 0, none⟩ = some (.int .i64 n72) ∧ ∃ l73 : Sl, w7.drew.cell? ⟨w.heap.size, 1, none⟩ = some (.slice l73.a l73.len l73.cap) ∧ ∃ l74 : Sl, w7.drew.cell? ⟨w.heap.size, 2, none⟩ = some (.slice l74.a l74.len l74.cap) ∧ ∃ l75 : Sl, w7.drew.cell? ⟨w.heap.size, 3, none⟩ = some (.slice l75.a l75.len l75.cap) ∧ ∃ n76 : Int, w7.drew.cell? ⟨cb, 0, none⟩ = some (.int .i64 n76) ∧ CallW Try.prog 86 #[.agg #[.int .i64 n72, .slice l73.a l73.len l73.cap, .slice l74.a l74.len l74.cap, .slice l75.a l75.len l75.cap], .int .i64 n76] w7.drew fun v77 w78 => ∃ n79 : Int, v77 = .int .i64 n79 ∧ BIf (decide ((n79 : Int) ≥ 0)) (J true w78) (∃ n80 : Int, w78.cell? ⟨w.heap.size, 0, none⟩ = some (.int .i64 n80) ∧ ∃ l81 : Sl, w78.cell? ⟨w.heap.size, 1, none⟩ = some (.slice l81.a l81.len l81.cap) ∧ ∃ l82 : Sl, w78.cell? ⟨w.heap.size, 2, none⟩ = some (.slice l82.a l82.len l82.cap) ∧ ∃ l83 : Sl, w78.cell? ⟨w.heap.size, 3, none⟩ = some (.slice l83.a l83.len l83.cap) ∧ ∃ n84 : Int, w78.cell? ⟨cb, 0, none⟩ = some (.int .i64 n84) ∧ CallW Try.prog 88 #[.agg #[.int .i64 n80, .slice l81.a l81.len l81.cap, .slice l82.a l82.len l82.cap, .slice l83.a l83.len l83.cap], .int .i64 n84] w78 fun v85 w86 => ∃ n87 : Int, v85 = .int .i64 n87 ∧ J (decide ((n87 : Int) ≥ 0)) w86)) := by
      intro J hJ
      refine ⟨tq, h.cell 0 rfl rfl, BIf.dec (fun hb3 => hJ _ _ ⟨(fun hh => by cases hh), fun hh => by omega⟩ h) (fun hb3 => ?_)⟩
      refine ⟨_, h.cell 1 rfl rfl, sp, h.cell 1 rfl rfl, sc, h.cell 1 rfl rfl, sq, h.cell 1 rfl rfl, _, h.cell 0 rfl rfl, (c86 (hd.ext h.ext)).mono ?_⟩
      rintro _ w78 ⟨rfl, e⟩
      have h := h.to e
      refine ⟨_, rfl, BIf.dec (fun hb4 => hJ _ _ ⟨(fun hh => by cases hh), fun hh => by omega⟩ h) (fun hb4 => ?_)⟩
      refine ⟨_, h.cell 1 rfl rfl, sp, h.cell 1 rfl rfl, sc, h.cell 1 rfl rfl, sq, h.cell 1 rfl rfl, _, h.cell 0 rfl rfl, (c88 (hd.ext h.ext)).mono ?_⟩
      rintro _ w86 ⟨rfl, e⟩
      refine ⟨_, rfl, hJ _ _ ?_ (h.to e)⟩
      rw [decide_eq_false_iff_not]; omega
    refine BIf.dec (fun hi0 => ?_) (fun hi0 => ?_)
    · obtain ⟨z, hz⟩ : ∃ z, d.Ports[i - 1]? = some z := ⟨_, List.getElem?_eq_getElem (by omega)⟩
      obtain ⟨q', _, hq', hc', _⟩ := hd.ports.get _ z hz
      rw [w64 (n := (i : Int) - 1) (by omega) (by omega), show ((i : Int) - 1).toNat = i - 1 by omega]
      refine ⟨sp, h.cell 1 rfl rfl, by omega, by omega, q', hq', _, h.ext.cell hc', _, h.cell 0 rfl rfl, ?_⟩
      refine BIf.dec (fun hb3 => mkJ _ _ ⟨(fun hh => by cases hh), fun hh => by have := hh.2.2.1 z (by omega) hz; omega⟩ h) (fun hb3 => ?_)
      refine tail J (fun b w' hh hs => mkJ _ _ ?_ hs)
      rw [hh]
      exact ⟨fun hh => ⟨by omega, by omega, fun y _ hy => by rw [hz] at hy; cases hy; omega, hh⟩, fun hh => hh.2.2.2⟩
    · refine tail J (fun b w' hh hs => mkJ _ _ ?_ hs)
      rw [hh]
      exact ⟨fun hh => ⟨by omega, by omega, fun y hy _ => by omega, hh⟩, fun hh => hh.2.2.2⟩
  subst hJJ
  rintro (b : Bool) w10 ⟨hiff, h⟩
  refine BIf.of (fun hb => kb_f (fun hok => ?_) h.ext) (fun hb => ?_)
  · rw [hiff.2 ⟨hok.id1, hok.idN, hok.sorted, hok.few, hok.noCap, hok.noPipe⟩] at hb; cases hb
  obtain ⟨g1, g2, g3, g4, g5, g6⟩ := hiff.1 hb
  refine LoopW.m1 (fun (k : Int) w' => ∃ j : Nat, k = j ∧ j ≤ x.Queue.length ∧ (∀ y, y ∈ x.Queue.take j → MsgOk d y) ∧ SH w w' [aB cb ([.int .i64 x.Id, .slice tq.a tq.len tq.cap].map Ce.v), aB w.heap.size ((ipcV d.Next sp sc sq).map Ce.v)]) (fun (k : Int) _ => ((x.Queue.length : Int) - k).toNat) ⟨0, rfl, by omega, (fun y hy => by simp at hy), h⟩ ?_
  rintro (k : Int) w13 ⟨j, rfl, hj, hall, h⟩ J hJ
  refine ⟨tq, h.cell 0 rfl rfl, ?_⟩
  dsimp only; rw [hml]
  refine BIf.dec (fun hlt => ?_) (fun hge => ?_)
  · obtain ⟨y, hy⟩ : ∃ y, x.Queue[j]? = some y := ⟨_, List.getElem?_eq_getElem (by omega)⟩
    obtain ⟨r, u, hr, hm0, hm1, hm2, hby⟩ := (hms.ext h.ext).get j y hy
    have hbl := hby.len
    refine ⟨tq, h.cell 0 rfl rfl, by omega, by omega, r, hr, _, hm0, u, hm1, _, hm2, ?_⟩
    refine h.alloc (fun w20 h ew20 nw20 => ?_)
    refine h.put 0 rfl rfl rfl (fun w21 h nw21 => ?_)
    generalize w13.heap.size = mb at *
    refine ⟨_, h.cell 0 rfl rfl, c84.mono ?_⟩
    rintro _ w24 ⟨rfl, rfl⟩
    refine ⟨_, rfl, ?_⟩
    refine join_or_ex u (h.cell 0 rfl rfl) ?_
    refine join_or_ex y.Cap (h.cell 0 rfl rfl) ?_
    refine JoinW.cut1 (fun (b : Bool) w' => (b = false ↔ MsgOk d y) ∧ w' = w24) ?_ ?_
    · rw [hbl]
      refine BIf.of (fun hc => ⟨⟨(fun hh => by cases hh), fun hh => ?_⟩, rfl⟩) (fun hc => ⟨_, h.cell 0 rfl rfl, _, h.cell 2 rfl rfl, ?_, rfl⟩)
      · obtain ⟨m1, m2, m3, m4, m5⟩ := hh
        simp only [Bool.or_eq_true, Bool.not_eq_true', Bool.and_eq_false_iff, decide_eq_false_iff_not, decide_eq_true_eq] at hc
        omega
      · simp only [Bool.or_eq_false_iff, Bool.not_eq_false', Bool.and_eq_true, decide_eq_false_iff_not, decide_eq_true_eq] at hc
        rw [decide_eq_false_iff_not]
        unfold MsgOk
        omega
    rintro (b2 : Bool) w34 ⟨hmi, rfl⟩
    refine BIf.of (fun hc => kb_f (fun hok => ?_) h.ext) (fun hc => ?_)
    · rw [hmi.2 (hok.msgs y (List.mem_of_getElem? hy))] at hc; cases hc
    · rw [w64 (by omega) (by omega)]
      refine hJ _ _ ⟨j + 1, by omega, by omega, fun z hz => ?_, h.drop⟩ (by omega)
      rw [List.take_add_one, hy] at hz
      rcases List.mem_append.1 hz with hz | hz
      · exact hall z hz
      · simp at hz; subst hz; exact hmi.1 hc
  · rw [List.take_of_length_le (by omega)] at hall
    refine LoopW.m1 (fun (k : Int) w' => ∃ j : Nat, k = j ∧ j ≤ d.Caps.length ∧ (∀ y, y ∈ d.Caps.take j → y.Port ≠ x.Id) ∧ SH w w' [aB cb ([.int .i64 x.Id, .slice tq.a tq.len tq.cap].map Ce.v), aB w.heap.size ((ipcV d.Next sp sc sq).map Ce.v)]) (fun (k : Int) _ => ((d.Caps.length : Int) - k).toNat) ⟨0, rfl, by omega, (fun y hy => by simp at hy), h⟩ ?_
    rintro (k2 : Int) w41 ⟨j2, rfl, hj2, hno, h⟩ J2 hJ2
    refine ⟨sc, h.cell 1 rfl rfl, ?_⟩
    rw [hcl]
    refine BIf.dec (fun hlt2 => ?_) (fun hge2 => ?_)
    · have h := h.drew
      obtain ⟨y, hy⟩ : ∃ y, d.Caps[j2]? = some y := ⟨_, List.getElem?_eq_getElem (by omega)⟩
      obtain ⟨r, hr, hcc⟩ := (hd.caps.ext h.ext).get (by omega) hy
      refine ⟨sc, h.cell 1 rfl rfl, by omega, by omega, r, hr, _, hcc 2 _ rfl, _, h.cell 0 rfl rfl, ?_⟩
      refine BIf.eq (fun he => kb_t ⟨g1, g2, g3, g4, g5, g6, hall, y, List.mem_of_getElem? hy, he⟩ h.ext) (fun he => ?_)
      rw [w64 (by omega) (by omega)]
      refine hJ2 _ _ ⟨j2 + 1, by omega, by omega, fun z hz => ?_, h⟩ (by omega)
      rw [List.take_add_one, hy] at hz
      rcases List.mem_append.1 hz with hz | hz
      · exact hno z hz
      · simp at hz; subst hz; exact he
    · rw [List.take_of_length_le (by omega)] at hno
      exact kb_f (fun hok => by obtain ⟨c, h1, h2⟩ := hok.some_; exact hno c h1 h2) h.ext
theorem c52 {n : Int} {i : Nat} {sp sc sq : Sl} {d : DIpc} {x : DPipe} {w : World} (hd : IpcAt w sp sc sq d) (hn : n = d.Next) (hx : d.Pipes[i]? = some x) (hwf : (Lit.int .i64 x.Readers).wf = true ∧ (Lit.int .i64 x.Writers).wf = true) : CallW Try.prog 52 #[.agg #[.int .i64 n, .slice sp.a sp.len sp.cap, .slice sc.a sc.len sc.cap, .slice sq.a sq.len sq.cap], .int .i64 (i : Int)] w (KB (PipeOk d i x) w) := by
  refine go52 ?_
  unfold W52; (try delta qn ql qb qi qS qI qP qQ qR qU qA qC H52_0)
  have h := SH.start w
  have hl := hd.pipes.len
  have hf := hd.few
  have hil := (List.getElem?_eq_some_iff.1 hx).1
  obtain ⟨q, tq, hq, hc0, hc1, hc2, hc3, hby⟩ := hd.pipes.get i x hx
  have hbl := hby.len
  refine h.alloc (fun w1 h ew1 nw1 => ?_)
  refine ⟨sq, h.cell 0 rfl rfl, by omega, by omega, q, hq, ?_⟩
  rw [Int.toNat_natCast]
  refine ⟨_, h.ext.cell hc0, _, h.ext.cell hc1, _, h.ext.cell hc2, tq, h.ext.cell hc3, ?_⟩
  refine h.alloc (fun w8 h ew8 nw8 => ?_)
  refine h.put 0 rfl rfl rfl (fun w9 h nw9 => ?_)
  generalize w1.heap.size = cb at *
  have h := h.drew
  subst hn
  obtain ⟨J, hJJ⟩ : ∃ J : Bool → World → Prop, J = fun b w' => (b = false ↔ (1 ≤ x.Id ∧ x.Id ≤ d.Next ∧ (∀ z, 0 < i → d.Pipes[i - 1]? = some z → z.Id < x.Id) ∧ capIx d x.Id < 0 ∧ x.Data.length ≤ 512)) ∧ SH w w' [aB cb ([.int .i64 x.Id, .int .i64 x.Readers, .int .i64 x.Writers, .slice tq.a tq.len tq.cap].map Ce.v), aB w.heap.size ((ipcV d.Next sp sc sq).map Ce.v)] := ⟨_, rfl⟩
  have mkJ : ∀ b w', (b = false ↔ (1 ≤ x.Id ∧ x.Id ≤ d.Next ∧ (∀ z, 0 < i → d.Pipes[i - 1]? = some z → z.Id < x.Id) ∧ capIx d x.Id < 0 ∧ x.Data.length ≤ 512)) → SH w w' [aB cb ([.int .i64 x.Id, .int .i64 x.Readers, .int .i64 x.Writers, .slice tq.a tq.len tq.cap].map Ce.v), aB w.heap.size ((ipcV d.Next sp sc sq).map Ce.v)] → J b w' := fun b w' h1 h2 => by rw [hJJ]; exact ⟨h1, h2⟩
  refine JoinW.cut1 J ?_ ?_
  · refine ⟨_, h.cell 0 rfl rfl, BIf.dec (fun hb => mkJ _ _ ⟨(fun hh => by cases hh), fun hh => by omega⟩ h) (fun hb => ?_)⟩
    refine ⟨_, h.cell 0 rfl rfl, _, h.cell 1 rfl rfl, BIf.dec (fun hb2 => mkJ _ _ ⟨(fun hh => by cases hh), fun hh => by omega⟩ h) (fun hb2 => ?_)⟩
    have tail : ∀ (J : Bool → World → Prop), (∀ b w', (b = false ↔ capIx d x.Id < 0 ∧ x.Data.length ≤ 512) → SH w w' [aB cb ([.int .i64 x.Id, .int .i64 x.Readers, .int .i64 x.Writers, .slice tq.a tq.len tq.cap].map Ce.v), aB w.heap.size ((ipcV d.Next sp sc sq).map Ce.v)] → J b w') →
        ∃ n72 : Int, w9.drew.cell? ⟨w.heap.size, 0, none⟩ = some (.int .i64 n72) ∧ ∃ l73 : Sl, w9.drew.cell? ⟨w.heap.size, 1, none⟩ = some (.slice l73.a l73.len l73.cap) ∧ ∃ l74 : Sl, w9.drew.cell? ⟨w.heap.size, 2, none⟩ = some (.slice l74.a l74.len l74.cap) ∧ ∃ l75 : Sl, w9.drew.cell? ⟨w.heap.size, 3, none⟩ = some (.slice l75.a l75.len l75.cap) ∧ ∃ n76 : Int, w9.drew.cell? ⟨cb, 0, none⟩ = some (.int .i64 n76) ∧ CallW Try.prog 86 #[.agg #[.int .i64 n72, .slice l73.a l73.len l73.cap, .slice l74.a l74.len l74.cap, .slice l75.a l75.len l75.cap], .int .i64 n76] w9.drew fun v77 w78 => ∃ n79 : Int, v77 = .int .i64 n79 ∧ BIf (decide ((n79 : Int) ≥ 0)) (J true w78) (∃ l55 : Sl, w78.cell? ⟨cb, 3, none⟩ = some (.slice l55.a l55.len l55.cap) ∧ J (decide ((((l55.len : Nat) : Int) : Int) > 512)) w78) := by
      intro J hJ
      refine ⟨_, h.cell 1 rfl rfl, sp, h.cell 1 rfl rfl, sc, h.cell 1 rfl rfl, sq, h.cell 1 rfl rfl, _, h.cell 0 rfl rfl, (c86 (hd.ext h.ext)).mono ?_⟩
      rintro _ w78 ⟨rfl, e⟩
      have h := h.to e
      refine ⟨_, rfl, BIf.dec (fun hb4 => hJ _ _ ⟨(fun hh => by cases hh), fun hh => by omega⟩ h) (fun hb4 => ?_)⟩
      refine ⟨tq, h.cell 0 rfl rfl, hJ _ _ ?_ h⟩
      rw [decide_eq_false_iff_not]; omega
    refine BIf.dec (fun hi0 => ?_) (fun hi0 => ?_)
    · obtain ⟨z, hz⟩ : ∃ z, d.Pipes[i - 1]? = some z := ⟨_, List.getElem?_eq_getElem (by omega)⟩
      obtain ⟨q', _, hq', hc', _⟩ := hd.pipes.get _ z hz
      rw [w64 (n := (i : Int) - 1) (by omega) (by omega), show ((i : Int) - 1).toNat = i - 1 by omega]
      refine ⟨sq, h.cell 1 rfl rfl, by omega, by omega, q', hq', _, h.ext.cell hc', _, h.cell 0 rfl rfl, ?_⟩
      refine BIf.dec (fun hb3 => mkJ _ _ ⟨(fun hh => by cases hh), fun hh => by have := hh.2.2.1 z (by omega) hz; omega⟩ h) (fun hb3 => ?_)
      refine tail J (fun b w' hh hs => mkJ _ _ ?_ hs)
      rw [hh]
      exact ⟨fun hh => ⟨by omega, by omega, fun y _ hy => by rw [hz] at hy; cases hy; omega, hh⟩, fun hh => hh.2.2.2⟩
    · refine tail J (fun b w' hh hs => mkJ _ _ ?_ hs)
      rw [hh]
      exact ⟨fun hh => ⟨by omega, by omega, fun y hy _ => by omega, hh⟩, fun hh => hh.2.2.2⟩
  subst hJJ
  rintro (b : Bool) w12 ⟨hiff, h⟩
  refine BIf.of (fun hb => kb_f (fun hok => ?_) h.ext) (fun hb => ?_)
  · rw [hiff.2 ⟨hok.id1, hok.idN, hok.sorted, hok.noCap, hok.few⟩] at hb; cases hb
  obtain ⟨g1, g2, g3, g4, g5⟩ := hiff.1 hb
  refine ⟨_, h.cell 0 rfl rfl, ?_⟩
  refine join_and_ex x.Readers (h.cell 0 rfl rfl) ?_
  refine join_and_ex x.Writers (h.cell 0 rfl rfl) ?_
  refine join_and_ex x.Writers (h.cell 0 rfl rfl) ?_
  refine JoinW.cut1 (fun (b : Bool) w' => (b = true ↔ (0 ≤ x.Readers ∧ x.Readers ≤ 64) ∧ (0 ≤ x.Writers ∧ x.Writers ≤ 64) ∧ 0 < x.Readers + x.Writers) ∧ w' = w12) ?_ ?_
  · refine BIf.of (fun hc => ⟨_, h.cell 0 rfl rfl, _, h.cell 0 rfl rfl, ?_, rfl⟩) (fun hc => ⟨⟨(fun hh => by cases hh), fun hh => ?_⟩, rfl⟩)
    · simp only [Bool.and_eq_true, decide_eq_true_eq] at hc
      rw [decide_eq_true_eq, w64 (by omega) (by omega)]; omega
    · simp only [Bool.and_eq_false_iff, decide_eq_false_iff_not] at hc; omega
  rintro (b2 : Bool) w25 ⟨hb2, rfl⟩
  refine ⟨_, rfl, ?_, h.ext⟩
  rw [hb2]
  exact ⟨fun hh => ⟨g1, g2, g3, g4, g5, hh.1, hh.2.1, hh.2.2⟩, fun hok => ⟨hok.r, hok.w, hok.pos⟩⟩
theorem c10 {sp sc sq : Sl} {d : DIpc} {w : World} (hd : IpcAt w sp sc sq d) (hwf : ∀ x, x ∈ d.Pipes → (Lit.int .i64 x.Readers).wf = true ∧ (Lit.int .i64 x.Writers).wf = true) : CallW Try.prog 10 #[.agg #[.int .i64 d.Next, .slice sp.a sp.len sp.cap, .slice sc.a sc.len sc.cap, .slice sq.a sq.len sq.cap]] w (KB (IOk d) w) := by
  refine go10 ?_
  unfold W10; (try delta qn ql qb qi qS qI qP qQ qR qU qA qC H10_0)
  have h := SH.start w
  have hpl := hd.ports.len
  have hcl := hd.caps.len
  have hql := hd.pipes.len
  have hf := hd.few
  have hcf := hd.caps.few
  refine h.alloc (fun w1 h ew1 nw1 => ?_)
  refine ⟨_, h.cell 0 rfl rfl, c49.mono ?_⟩
  rintro _ w4 ⟨rfl, rfl⟩
  refine ⟨_, rfl, ?_⟩
  refine join_or_ex sc (h.cell 0 rfl rfl) ?_
  refine join_or_ex sp (h.cell 0 rfl rfl) ?_
  refine join_or_ex sq (h.cell 0 rfl rfl) ?_
  rw [hpl, hcl, hql]
  refine BIf.of (fun hc => kb_f (fun hok => ?_) h.ext) (fun hc => ?_)
  · have g1 := hok.next; have g2 := hok.caps; have g3 := hok.ports; have g4 := hok.pipes
    simp only [Bool.or_eq_true, Bool.not_eq_true', Bool.and_eq_false_iff, decide_eq_false_iff_not, decide_eq_true_eq] at hc
    omega
  have hc : (0 ≤ d.Next ∧ d.Next ≤ 1099511627776) ∧ d.Caps.length ≤ 128 ∧ d.Ports.length ≤ 32 ∧ d.Pipes.length ≤ 32 := by
    simp only [Bool.or_eq_false_iff, Bool.not_eq_false', Bool.and_eq_true, decide_eq_false_iff_not, decide_eq_true_eq] at hc
    omega
  obtain ⟨g1, g2, g3, g4⟩ := hc
  refine LoopW.m1 (fun (i : Int) w' => ∃ k : Nat, i = k ∧ k ≤ d.Caps.length ∧ (∀ j y, j < k → d.Caps[j]? = some y → CapOk d j y) ∧ SH w w' [aB w.heap.size ((ipcV d.Next sp sc sq).map Ce.v)]) (fun (i : Int) _ => ((d.Caps.length : Int) - i).toNat) ⟨0, rfl, by omega, (fun j y hj => by omega), h⟩ ?_
  rintro (i : Int) w17 ⟨k, rfl, hk, hall, h⟩ J hJ
  refine ⟨sc, h.cell 0 rfl rfl, ?_⟩
  dsimp only; rw [hcl]
  refine BIf.dec (fun hlt => ?_) (fun hge => ?_)
  · obtain ⟨y, hy⟩ : ∃ y, d.Caps[k]? = some y := ⟨_, List.getElem?_eq_getElem (by omega)⟩
    refine ⟨_, h.cell 0 rfl rfl, sp, h.cell 0 rfl rfl, sc, h.cell 0 rfl rfl, sq, h.cell 0 rfl rfl, (c50 (hd.ext h.ext) rfl hy).mono ?_⟩
    rintro _ w24 ⟨b, rfl, hiff, e⟩
    have h := h.to e
    refine ⟨_, rfl, BIf.of (fun hb => kb_f (fun hok => ?_) h.ext) (fun hb => ?_)⟩
    · rw [hiff.2 (hok.cap k y hy)] at hb; cases hb
    rw [w64 (by omega) (by omega)]
    refine hJ _ _ ⟨k + 1, by omega, by omega, fun j z hj hz => ?_, h⟩ (by omega)
    by_cases hjk : j = k
    · subst hjk; rw [hy] at hz; cases hz; exact hiff.1 (by simpa using hb)
    · exact hall j z (by omega) hz
  have hcaps : ∀ j y, d.Caps[j]? = some y → CapOk d j y := fun j y hy => hall j y (by have := (List.getElem?_eq_some_iff.1 hy).1; omega) hy
  clear hJ J
  refine LoopW.m1 (fun (i : Int) w' => ∃ k : Nat, i = k ∧ k ≤ d.Ports.length ∧ (∀ j y, j < k → d.Ports[j]? = some y → PortOk d j y) ∧ SH w w' [aB w.heap.size ((ipcV d.Next sp sc sq).map Ce.v)]) (fun (i : Int) _ => ((d.Ports.length : Int) - i).toNat) ⟨0, rfl, by omega, (fun j y hj => by omega), h⟩ ?_
  rintro (i : Int) w28 ⟨k2, rfl, hk2, hall2, h⟩ J hJ
  refine ⟨sp, h.cell 0 rfl rfl, ?_⟩
  rw [hpl]
  refine BIf.dec (fun hlt => ?_) (fun hge2 => ?_)
  · obtain ⟨y, hy⟩ : ∃ y, d.Ports[k2]? = some y := ⟨_, List.getElem?_eq_getElem (by omega)⟩
    refine ⟨_, h.cell 0 rfl rfl, sp, h.cell 0 rfl rfl, sc, h.cell 0 rfl rfl, sq, h.cell 0 rfl rfl, (c51 (hd.ext h.ext) rfl hy).mono ?_⟩
    rintro _ w24 ⟨b, rfl, hiff, e⟩
    have h := h.to e
    refine ⟨_, rfl, BIf.of (fun hb => kb_f (fun hok => ?_) h.ext) (fun hb => ?_)⟩
    · rw [hiff.2 (hok.port k2 y hy)] at hb; cases hb
    rw [w64 (by omega) (by omega)]
    refine hJ _ _ ⟨k2 + 1, by omega, by omega, fun j z hj hz => ?_, h⟩ (by omega)
    by_cases hjk : j = k2
    · subst hjk; rw [hy] at hz; cases hz; exact hiff.1 (by simpa using hb)
    · exact hall2 j z (by omega) hz
  have hports : ∀ j y, d.Ports[j]? = some y → PortOk d j y := fun j y hy => hall2 j y (by have := (List.getElem?_eq_some_iff.1 hy).1; omega) hy
  clear hJ J
  refine LoopW.m1 (fun (i : Int) w' => ∃ k : Nat, i = k ∧ k ≤ d.Pipes.length ∧ (∀ j y, j < k → d.Pipes[j]? = some y → PipeOk d j y) ∧ SH w w' [aB w.heap.size ((ipcV d.Next sp sc sq).map Ce.v)]) (fun (i : Int) _ => ((d.Pipes.length : Int) - i).toNat) ⟨0, rfl, by omega, (fun j y hj => by omega), h⟩ ?_
  rintro (i : Int) w39 ⟨k3, rfl, hk3, hall3, h⟩ J hJ
  refine ⟨sq, h.cell 0 rfl rfl, ?_⟩
  rw [hql]
  refine BIf.dec (fun hlt => ?_) (fun hge3 => ?_)
  · obtain ⟨y, hy⟩ : ∃ y, d.Pipes[k3]? = some y := ⟨_, List.getElem?_eq_getElem (by omega)⟩
    refine ⟨_, h.cell 0 rfl rfl, sp, h.cell 0 rfl rfl, sc, h.cell 0 rfl rfl, sq, h.cell 0 rfl rfl, (c52 (hd.ext h.ext) rfl hy (hwf y (List.mem_of_getElem? hy))).mono ?_⟩
    rintro _ w24 ⟨b, rfl, hiff, e⟩
    have h := h.to e
    refine ⟨_, rfl, BIf.of (fun hb => kb_f (fun hok => ?_) h.ext) (fun hb => ?_)⟩
    · rw [hiff.2 (hok.pipe k3 y hy)] at hb; cases hb
    rw [w64 (by omega) (by omega)]
    refine hJ _ _ ⟨k3 + 1, by omega, by omega, fun j z hj hz => ?_, h⟩ (by omega)
    by_cases hjk : j = k3
    · subst hjk; rw [hy] at hz; cases hz; exact hiff.1 (by simpa using hb)
    · exact hall3 j z (by omega) hz
  exact kb_t ⟨g1, g2, g3, g4, hcaps, hports, fun j y hy => hall3 j y (by have := (List.getElem?_eq_some_iff.1 hy).1; omega) hy⟩ h.ext
end Go.Proofs.Ytbimoajgofcmbaa

namespace Go.Proofs.Ytbimoajgofcmbaa
open Go Go.Den
def okId (last id n : Int) (ks : List Int) : Bool := ((decide (id > last) && decide (id ≥ 1)) && decide (id ≤ n)) && !decide (id ∈ ks)
theorem join_and_ex1 {α : Type} {c : Bool} {P : α → Prop} {R : (Bool → World → Prop) → α → Prop} {r : Bool} {w : World} {k : Bool → World → Prop} (n : α) (hn : P n) (hr : ∀ J : Bool → World → Prop, J r w → R J n) (h : k (c && r) w) : JoinW [.bool] (fun J => BIf c (∃ n, P n ∧ R J n) (J false w)) k := by
  refine ⟨k, fun _ _ h => h, ?_⟩
  cases c
  · exact h
  · exact ⟨n, hn, hr k h⟩
theorem c56 {w0 w : World} {As : List Asr} {a m t s lb mc mb sb : Nat} {last id n : Int} {ks : List Int} {sp sc sq : Sl} (h : SH w0 w As) (hl : As[a]? = some (aB lb ([.int .i64 last].map Ce.v))) (hm : As[m]? = some (aB mc ([.map (some mb)].map Ce.v))) (ht : As[t]? = some (aSet mb ks)) (hs : As[s]? = some (aB sb ((ipcV n sp sc sq).map Ce.v))) (hat : a ≠ t) :
    CallW Try.prog 56 #[.pointer (some ⟨lb, 0, none⟩), .int .i64 id, .pointer (some ⟨sb, 0, none⟩), .pointer (some ⟨mc, 0, none⟩)] w (fun v w' => v = .bool (okId last id n ks) ∧ SH w0 w' ((As.set t (aSet mb (insK ks id))).set a (aB lb ([.int .i64 id].map Ce.v)))) := by
  refine go56 ?_
  unfold W56; (try delta qn ql qb qi qS qI qP qQ qR qU qA qC)
  refine ⟨_, rfl, _, h.cell a hl rfl, ?_⟩
  simp only [join_and]
  refine join_and_ex n (h.cell s hs rfl) ?_
  refine join_and_ex1 (r := !decide (id ∈ ks)) (some mb) (h.cell m hm rfl) (fun J hJ => ?_) ?_
  · exact h.getSet t ht id (fun o ho => ⟨_, ho, hJ⟩)
  refine ⟨some mb, h.cell m hm rfl, ?_⟩
  refine h.putSet t ht id (fun w13 h nw13 => ?_)
  have hl' : (As.set t (aSet mb (insK ks id)))[a]? = some (aB lb ([.int .i64 last].map Ce.v)) := by rw [List.getElem?_set_ne (by omega)]; exact hl
  refine ⟨_, rfl, h.setV a hl' rfl (fun w15 h nw15 => ?_)⟩
  exact ⟨rfl, h⟩
structure CapI (d : DIpc) (i : Nat) (c : DCap) : Prop where
  id1 : 1 ≤ c.Id
  idN : c.Id ≤ d.Next
  sorted : ∀ z, 0 < i → d.Caps[i - 1]? = some z → z.Id < c.Id
  hold : 0 ≤ c.Holder ∧ c.Holder < 64
  r1 : 1 ≤ c.Rights
  r7 : c.Rights ≤ 7
  port : 0 ≤ portIx d c.Port
  par : c.Parent = 0 ∨ ∃ (k : Nat) (p : DCap), capIx d c.Parent = k ∧ d.Caps[k]? = some p ∧ p.Port = c.Port ∧ p.Id < c.Id ∧ andI .i64 p.Rights c.Rights = c.Rights
structure PortI (d : DIpc) (i : Nat) (p : DPort) : Prop where
  id1 : 1 ≤ p.Id
  idN : p.Id ≤ d.Next
  sorted : ∀ z, 0 < i → d.Ports[i - 1]? = some z → z.Id < p.Id
  few : p.Queue.length ≤ 8
  noCap : ∀ c, c ∈ d.Caps → c.Id ≠ p.Id
  msgs : ∀ m, m ∈ p.Queue → MsgOk d m
  some_ : ∃ c, c ∈ d.Caps ∧ c.Port = p.Id
structure PipeI (d : DIpc) (i : Nat) (p : DPipe) : Prop where
  id1 : 1 ≤ p.Id
  idN : p.Id ≤ d.Next
  sorted : ∀ z, 0 < i → d.Pipes[i - 1]? = some z → z.Id < p.Id
  noCap : ∀ c, c ∈ d.Caps → c.Id ≠ p.Id
  noPort : ∀ c, c ∈ d.Ports → c.Id ≠ p.Id
  few : p.Data.length ≤ 512
  r : 0 ≤ p.Readers ∧ p.Readers ≤ 64
  w : 0 ≤ p.Writers ∧ p.Writers ≤ 64
  pos : 0 < p.Readers + p.Writers
theorem idx_neg {α : Type} {p : α → Bool} {l : List α} : idxFrom p l 0 < 0 ↔ ∀ x, x ∈ l → p x = false := by
  rcases idx_cases p l with ⟨h1, h2⟩ | ⟨k, x, h1, h2, h3, _⟩
  · exact ⟨fun _ => h2, fun _ => by omega⟩
  · refine ⟨fun h => by omega, fun h => ?_⟩
    rw [h x (List.mem_of_getElem? h2)] at h3; cases h3
theorem capIx_neg {d : DIpc} {id : Int} : capIx d id < 0 ↔ ∀ c, c ∈ d.Caps → c.Id ≠ id := by
  unfold capIx; rw [idx_neg]; simp
theorem pipeIx_neg {d : DIpc} {id : Int} : pipeIx d id < 0 ↔ ∀ c, c ∈ d.Pipes → c.Id ≠ id := by
  unfold pipeIx; rw [idx_neg]; simp
theorem ix_id {d : DIpc} {id : Int} {k : Nat} {p : DCap} (h : capIx d id = k) (hp : d.Caps[k]? = some p) : p.Id = id := by
  unfold capIx at h
  rcases idx_cases (fun c : DCap => c.Id == id) d.Caps with ⟨h1, _⟩ | ⟨k', x, h1, h2, h3, _⟩
  · omega
  · obtain rfl : k = k' := by omega
    rw [hp] at h2; cases h2; simpa using h3
theorem capI_of {d : DIpc} (h : ∀ i c, d.Caps[i]? = some c → CapOk d i c) : ∀ i c, d.Caps[i]? = some c → CapI d i c := fun i c hc => by
  have g := h i c hc
  refine ⟨g.id1, g.idN, g.sorted, g.hold, g.r1, g.r7, g.port, ?_⟩
  rcases g.par with h0 | ⟨k, p, hp⟩
  · exact .inl h0
  · have gp := h k p hp.at_
    have := among_eq g.r1 g.r7 gp.r1 gp.r7
    rw [hp.am] at this
    exact .inr ⟨k, p, hp.ix, hp.at_, hp.port, by rw [ix_id hp.ix hp.at_]; exact hp.lt, by simpa using this⟩
theorem capOk_of {d : DIpc} (h : ∀ i c, d.Caps[i]? = some c → CapI d i c) : ∀ i c, d.Caps[i]? = some c → CapOk d i c := fun i c hc => by
  have g := h i c hc
  refine ⟨g.id1, g.idN, g.sorted, g.hold, g.r1, g.r7, g.port, ?_⟩
  rcases g.par with h0 | ⟨k, p, h1, h2, h3, h4, h5⟩
  · exact .inl h0
  · have gp := h k p h2
    have := among_eq g.r1 g.r7 gp.r1 gp.r7
    rw [h5] at this
    exact .inr ⟨k, p, h1, h2, by rw [← ix_id h1 h2]; exact h4, h3, by simpa using this⟩
theorem portI_of {d : DIpc} (h : IOk d) : ∀ i p, d.Ports[i]? = some p → PortI d i p := fun i p hp => by
  have g := h.port i p hp
  exact ⟨g.id1, g.idN, g.sorted, g.few, capIx_neg.1 g.noCap, g.msgs, g.some_⟩
theorem pipeI_of {d : DIpc} (h : IOk d) : ∀ i p, d.Pipes[i]? = some p → PipeI d i p := fun i p hp => by
  have g := h.pipe i p hp
  refine ⟨g.id1, g.idN, g.sorted, capIx_neg.1 g.noCap, fun c hc he => ?_, g.few, g.r, g.w, g.pos⟩
  obtain ⟨j, hj, rfl⟩ := List.getElem_of_mem hc
  have := (h.port j _ (List.getElem?_eq_getElem hj)).noPipe
  exact pipeIx_neg.1 this p (List.mem_of_getElem? hp) he.symm
theorem IOk_of {d : DIpc} (h1 : 0 ≤ d.Next ∧ d.Next ≤ 1099511627776) (h2 : d.Caps.length ≤ 128) (h3 : d.Ports.length ≤ 32) (h4 : d.Pipes.length ≤ 32) (hc : ∀ i c, d.Caps[i]? = some c → CapI d i c) (hp : ∀ i p, d.Ports[i]? = some p → PortI d i p) (hq : ∀ i p, d.Pipes[i]? = some p → PipeI d i p) : IOk d := by
  refine ⟨h1, h2, h3, h4, capOk_of hc, fun i p hi => ?_, fun i p hi => ?_⟩
  · have g := hp i p hi
    refine ⟨g.id1, g.idN, g.sorted, g.few, capIx_neg.2 g.noCap, pipeIx_neg.2 (fun c hcm he => ?_), g.msgs, g.some_⟩
    obtain ⟨j, hj, rfl⟩ := List.getElem_of_mem hcm
    exact (hq j _ (List.getElem?_eq_getElem hj)).noPort p (List.mem_of_getElem? hi) he.symm
  · have g := hq i p hi
    exact ⟨g.id1, g.idN, g.sorted, capIx_neg.2 g.noCap, g.few, g.r, g.w, g.pos⟩
theorem port_some {d : DIpc} {sp : Sl} {w : World} {id : Int} (h : PortsAt w sp d.Ports) : Option.isNone (ptrE sp 2 (portIx d id)) = decide (portIx d id < 0) := by
  refine ptrE_none (fun h0 => ?_)
  obtain ⟨k, x, _, hx, _⟩ := idx_get (p := fun c : DPort => c.Id == id) (l := d.Ports) h0
  obtain ⟨q, _, hq, _⟩ := h.get k x hx
  rw [hq]; simp
theorem cap_some {d : DIpc} {sp sc sq : Sl} {w : World} {id : Int} (h : IpcAt w sp sc sq d) : Option.isNone (ptrE sc 5 (capIx d id)) = decide (capIx d id < 0) := by
  refine ptrE_none (fun h0 => ?_)
  obtain ⟨k, x, _, hx, _⟩ := idx_get (p := fun c : DCap => c.Id == id) (l := d.Caps) h0
  obtain ⟨q, hq, _⟩ := h.caps.get (by omega) hx
  rw [hq]; simp
def Seen (ks : List Int) (P : Int → Prop) : Prop := ∀ x, x ∈ ks ↔ P x
theorem seen_ins {ks : List Int} {P Q : Int → Prop} {n : Int} (h : Seen ks P) (hq : ∀ x, Q x ↔ P x ∨ x = n) : Seen (insK ks n) Q := fun x => by rw [mem_insK, h x, hq]
structure LastI {α : Type} (f : α → Int) (l : List α) (k : Nat) (last : Int) : Prop where
  z : k = 0 → last = 0
  prev : ∀ y, 0 < k → l[k - 1]? = some y → last = f y
  le : ∀ j y, j < k → l[j]? = some y → f y ≤ last
theorem LastI.step {α : Type} {f : α → Int} {l : List α} {k : Nat} {last : Int} {x : α} (h : LastI f l k last) (hx : l[k]? = some x) (hlt : last < f x) : LastI f l (k + 1) (f x) :=
  ⟨by omega, (fun y _ hy => by rw [Nat.add_sub_cancel, hx] at hy; cases hy; rfl), fun j y hj hy => by
    by_cases hjk : j = k
    · subst hjk; rw [hx] at hy; cases hy; exact Int.le_refl _
    · have := h.le j y (by omega) hy; omega⟩
theorem LastI.sorted {α : Type} {f : α → Int} {l : List α} {k : Nat} {last id : Int} (h : LastI f l k last) (hk : k ≤ l.length) (h1 : 1 ≤ id) : (last < id) ↔ ∀ z, 0 < k → l[k - 1]? = some z → f z < id := by
  constructor
  · intro hlt z hk hz; have := h.prev z hk hz; omega
  · intro hh
    rcases Nat.eq_zero_or_pos k with h0 | h0
    · rw [h.z h0]; omega
    · obtain ⟨y, hy⟩ : ∃ y, l[k - 1]? = some y := ⟨_, List.getElem?_eq_getElem (by omega)⟩
      rw [h.prev y h0 hy]; exact hh y h0 hy
end Go.Proofs.Ytbimoajgofcmbaa
