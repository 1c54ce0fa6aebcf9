/- Part 5 of 8: plain readings of code, rules for them, and a proof over them, joined by a program. Conditions: none. -/
import Derived.Test.YtbimoajgofcmbaaCapsGone4
import Derived.Test.YtbimoajgofcmbaaProg
/- The plainer reading of functions of the program, each held against its code. Conditions: none. -/
set_option linter.unusedVariables false
set_option maxRecDepth 100000
namespace Go.Proofs.Ytbimoajgofcmbaa
open Go Go.Den
/- (*loop.example/g00008/impl.Ipc).step$2 -/
def an108 : Ann := (.seq .leaf (.seq .leaf .leaf))
def W108 (a0_0 : Int) (a0_1 : Int) (a0_2 : Int) (a0_3 : Int) (a0_4 : Int) (c0 : Addr) (w : World) (K : Value → World → Prop) : Prop :=
  LetW (w.alloc (.cells #[.int .i64 a0_0, .int .i64 a0_1, .int .i64 a0_2, .int .i64 a0_3, .int .i64 a0_4] 67)) fun w1 => ∃ m2 : Option Nat, w1.cell? c0 = some (.map m2) ∧ ∃ n3 : Int, w1.cell? ⟨w.heap.size, 0, none⟩ = some (.int .i64 n3) ∧ MapGetW w1 m2 (.int .i64 n3) fun o4 => ∃ b5 : Bool, valOr o4 (.bool false) = (.bool b5 : Value) ∧ K (.bool (!b5)) w1
theorem eq108 (a0_0 : Int) (a0_1 : Int) (a0_2 : Int) (a0_3 : Int) (a0_4 : Int) (c0 : Addr) (w : World) (K : Value → World → Prop) : denFn Try.prog tt Try.f108 an108 [.agg #[.int .i64 a0_0, .int .i64 a0_1, .int .i64 a0_2, .int .i64 a0_3, .int .i64 a0_4], .pointer (some c0)] w K = W108 a0_0 a0_1 a0_2 a0_3 a0_4 c0 w K := by kernel_rfl
theorem ok108 : OkFn Try.prog 108 := ⟨Try.f108, Try.func108, by kernel_rfl, by kernel_rfl⟩
theorem go108 {a0_0 : Int} {a0_1 : Int} {a0_2 : Int} {a0_3 : Int} {a0_4 : Int} {c0 : Addr} {w : World} {K : Value → World → Prop} (h : W108 a0_0 a0_1 a0_2 a0_3 a0_4 c0 w K) : CallW Try.prog 108 #[.agg #[.int .i64 a0_0, .int .i64 a0_1, .int .i64 a0_2, .int .i64 a0_3, .int .i64 a0_4], .pointer (some c0)] w K :=
  .inl ⟨ok108, denFn_sound tt_ok mix Try.func108 (by kernel_rfl) (eq108 a0_0 a0_1 a0_2 a0_3 a0_4 c0 w K ▸ h)⟩

/- (*loop.example/g00008/impl.Ipc).dropCap -/
def an109 : Ann := (.seq .leaf (.seq .leaf (.seq (.seq .leaf (.in_ (.loop 65561 [(17, .int .i64)] (.seq .leaf (.seq (.cond .leaf .leaf) (.seq (.in_ (.seq .leaf (.seq (.draw [0, 1, 3, 7, 0, 31, 63, 127, 0, 511] [0, 1, 2, 3, 4, 5, 6, 7, 8, 9]) (.cond .leaf .leaf)))) .leaf)))))) .leaf)))
def W109 (a0 : Option Addr) (a1 : Int) (w : World) (K : Value → World → Prop) : Prop :=
  LetW (w.alloc (.cells #[.int .i64 a1] 2)) fun w1 => ∃ n2 : Int, w1.cell? ⟨w.heap.size, 0, none⟩ = some (.int .i64 n2) ∧ CallW Try.prog 59 #[.pointer a0, .int .i64 n2] w1 fun v3 w4 => ∃ p5 : Option Addr, v3 = .pointer p5 ∧ ∃ p6 : Addr, (p5 : Option Addr) = some p6 ∧ ∃ n7 : Int, w4.cell? (p6.add 4) = some (.int .i64 n7) ∧ ∃ p8 : Addr, (a0 : Option Addr) = some p8 ∧ ∃ l9 : Sl, w4.cell? (p8.add 2) = some (.slice l9.a l9.len l9.cap) ∧ LoopW [.int .i64] (fun J11 => fun (n10 : Int) w12 => BIf (decide ((n10 : Int) < ((l9.len : Nat) : Int))) (∃ p13 : Addr, (a0 : Option Addr) = some p13 ∧ ∃ l14 : Sl, w12.drew.cell? (p13.add 2) = some (.slice l14.a l14.len l14.cap) ∧ 0 ≤ (n10 : Int) ∧ (n10 : Int) < ((l14.len : Nat) : Int) ∧ ∃ q15 : Addr, (l14.a : Option Addr) = some q15 ∧ ∃ n16 : Int, w12.drew.cell? ((q15.add (Int.toNat n10 * 5)).add 4) = some (.int .i64 n16) ∧ ∃ n17 : Int, w12.drew.cell? ⟨w.heap.size, 0, none⟩ = some (.int .i64 n17) ∧ BIf ((n16 : Int) == n17) (∃ p18 : Addr, (a0 : Option Addr) = some p18 ∧ ∃ l19 : Sl, w12.drew.cell? (p18.add 2) = some (.slice l19.a l19.len l19.cap) ∧ 0 ≤ (n10 : Int) ∧ (n10 : Int) < ((l19.len : Nat) : Int) ∧ ∃ q20 : Addr, (l19.a : Option Addr) = some q20 ∧ May w12.drew ((q20.add (Int.toNat n10 * 5)).add 4) ∧ LetW (w12.drew.setCell ((q20.add (Int.toNat n10 * 5)).add 4) (.int .i64 n7)) fun w21 => J11 (IntKind.wrap .i64 (n10 + 1)) w21) (J11 (IntKind.wrap .i64 (n10 + 1)) w12.drew)) (CallW Try.prog 107 #[.pointer a0, .func (.func 120) #[] #[.pointer (some ⟨w.heap.size, 0, none⟩)]] w12 fun v22 w23 => v22 = .tuple #[] ∧ K (.tuple #[]) w23)) ((0 : Int), ()) w4
theorem eq109 (a0 : Option Addr) (a1 : Int) (w : World) (K : Value → World → Prop) : denFn Try.prog tt Try.f109 an109 [.pointer a0, .int .i64 a1] w K = W109 a0 a1 w K := by kernel_rfl
theorem ok109 : OkFn Try.prog 109 := ⟨Try.f109, Try.func109, by kernel_rfl, by kernel_rfl⟩
theorem go109 {a0 : Option Addr} {a1 : Int} {w : World} {K : Value → World → Prop} (h : W109 a0 a1 w K) : CallW Try.prog 109 #[.pointer a0, .int .i64 a1] w K :=
  .inl ⟨ok109, denFn_sound tt_ok mix Try.func109 (by kernel_rfl) (eq109 a0 a1 w K ▸ h)⟩

/- (*loop.example/g00008/impl.Ipc).step$3 -/
def an110 : Ann := (.seq .leaf (.seq (.reg [(5, none), (5, some (0, [(14, .bool)])), (1, none)]) .leaf))
def W110 (a0 : Int) (a1 : Int) (w : World) (K : Value → World → Prop) : Prop :=
  JoinW [.bool] (fun J2 => BIf (decide ((a1 : Int) < (IntKind.wrap .i64 (0 - a0)))) (J2 true w) (J2 (decide ((a1 : Int) > (IntKind.wrap .i64 (64 - a0)))) w)) (fun (b1 : Bool) w3 => K (.bool b1) w3)
theorem eq110 (a0 : Int) (a1 : Int) (w : World) (K : Value → World → Prop) : denFn Try.prog tt Try.f110 an110 [.int .i64 a0, .int .i64 a1] w K = W110 a0 a1 w K := by kernel_rfl
theorem ok110 : OkFn Try.prog 110 := ⟨Try.f110, Try.func110, by kernel_rfl, by kernel_rfl⟩
theorem go110 {a0 : Int} {a1 : Int} {w : World} {K : Value → World → Prop} (h : W110 a0 a1 w K) : CallW Try.prog 110 #[.int .i64 a0, .int .i64 a1] w K :=
  .inl ⟨ok110, denFn_sound tt_ok mix Try.func110 (by kernel_rfl) (eq110 a0 a1 w K ▸ h)⟩

/- loop.example/g00008/spec.l15Give -/
def an115 : Ann := (.seq .leaf (.seq (.seq (.reg [(5, none), (4, some (248, [(16, .bool)])), (1, none), (4, some (248, [(21, .bool)]))]) (.cond (.seq .leaf .leaf) .leaf)) (.seq (.seq (.reg [(5, none), (7, some (248, [(37, .bool)]))]) (.cond (.seq .leaf .leaf) .leaf)) (.seq (.seq .leaf (.cond (.seq .leaf .leaf) .leaf)) (.seq .leaf (.seq (.draw [0, 0, 2, 6, 1, 31] [0, 1, 2, 3, 4, 5]) .leaf))))))
def W115 (a0_0 : Int) (a0_1 : Sl) (a0_2 : Sl) (a0_3 : Sl) (a1_0 : Int) (a1_1 : Int) (a1_2 : Int) (a1_3 : Int) (a1_4 : Int) (a1_5 : Int) (a1_6 : Int) (a1_7 : Sl) (a2_0 : Int) (a2_1 : Int) (a2_2 : Int) (a2_3 : Int) (a2_4 : Int) (w : World) (K : Value → World → Prop) : Prop :=
  LetW (w.alloc (.cells #[.int .i64 a0_0, .slice a0_1.a a0_1.len a0_1.cap, .slice a0_2.a a0_2.len a0_2.cap, .slice a0_3.a a0_3.len a0_3.cap] 33)) fun w1 => LetW (w1.alloc (.cells #[.int .i64 a1_0, .int .i64 a1_1, .int .i64 a1_2, .int .i64 a1_3, .int .i64 a1_4, .int .i64 a1_5, .int .i64 a1_6, .slice a1_7.a a1_7.len a1_7.cap] 61)) fun w2 => LetW (w2.alloc (.cells #[.int .i64 a2_0, .int .i64 a2_1, .int .i64 a2_2, .int .i64 a2_3, .int .i64 a2_4] 67)) fun w3 => LetW (w3.alloc (.cells #[.int .i64 0, .slice none 0 0, .slice none 0 0, .slice none 0 0] 33)) fun w4 => LetW (w4.alloc (.cells #[.int .i64 0, .int .i64 0, .slice none 0 0, .int .i64 0] 63)) fun w5 => ∃ n6 : Int, w5.cell? ⟨w1.heap.size, 3, none⟩ = some (.int .i64 n6) ∧ CallW Try.prog 84 #[.int .i64 n6] w5 fun v7 w8 => ∃ b9 : Bool, v7 = .bool b9 ∧ JoinW [.bool] (fun J11 => BIf (!b9) (J11 true w8) (∃ n133 : Int, w8.cell? ⟨w1.heap.size, 4, none⟩ = some (.int .i64 n133) ∧ J11 (decide ((n133 : Int) < 1)) w8)) (fun (b10 : Bool) w12 => JoinW [.bool] (fun J14 => BIf b10 (J14 true w12) (∃ n132 : Int, w12.cell? ⟨w1.heap.size, 4, none⟩ = some (.int .i64 n132) ∧ J14 (decide ((n132 : Int) > 7)) w12)) (fun (b13 : Bool) w15 => BIf b13 (∃ n16 : Int, w15.cell? ⟨w.heap.size, 0, none⟩ = some (.int .i64 n16) ∧ ∃ l17 : Sl, w15.cell? ⟨w.heap.size, 1, none⟩ = some (.slice l17.a l17.len l17.cap) ∧ ∃ l18 : Sl, w15.cell? ⟨w.heap.size, 2, none⟩ = some (.slice l18.a l18.len l18.cap) ∧ ∃ l19 : Sl, w15.cell? ⟨w.heap.size, 3, none⟩ = some (.slice l19.a l19.len l19.cap) ∧ CallW Try.prog 95 #[.agg #[.int .i64 n16, .slice l17.a l17.len l17.cap, .slice l18.a l18.len l18.cap, .slice l19.a l19.len l19.cap], .int .i64 1] w15 fun v20 w21 => ∃ n22 : Int, ∃ l23 : Sl, ∃ l24 : Sl, ∃ l25 : Sl, ∃ n26 : Int, ∃ n27 : Int, ∃ l28 : Sl, ∃ n29 : Int, v20 = .tuple #[.agg #[.int .i64 n22, .slice l23.a l23.len l23.cap, .slice l24.a l24.len l24.cap, .slice l25.a l25.len l25.cap], .agg #[.int .i64 n26, .int .i64 n27, .slice l28.a l28.len l28.cap, .int .i64 n29]] ∧ MayN w21 ⟨w3.heap.size, 0, none⟩ 4 ∧ LetW (puts w21 ⟨w3.heap.size, 0, none⟩ 0 [.int .i64 n22, .slice l23.a l23.len l23.cap, .slice l24.a l24.len l24.cap, .slice l25.a l25.len l25.cap]) fun w30 => MayN w30 ⟨w4.heap.size, 0, none⟩ 4 ∧ LetW (puts w30 ⟨w4.heap.size, 0, none⟩ 0 [.int .i64 n26, .int .i64 n27, .slice l28.a l28.len l28.cap, .int .i64 n29]) fun w31 => ∃ n32 : Int, w31.cell? ⟨w3.heap.size, 0, none⟩ = some (.int .i64 n32) ∧ ∃ l33 : Sl, w31.cell? ⟨w3.heap.size, 1, none⟩ = some (.slice l33.a l33.len l33.cap) ∧ ∃ l34 : Sl, w31.cell? ⟨w3.heap.size, 2, none⟩ = some (.slice l34.a l34.len l34.cap) ∧ ∃ l35 : Sl, w31.cell? ⟨w3.heap.size, 3, none⟩ = some (.slice l35.a l35.len l35.cap) ∧ ∃ n36 : Int, w31.cell? ⟨w4.heap.size, 0, none⟩ = some (.int .i64 n36) ∧ ∃ n37 : Int, w31.cell? ⟨w4.heap.size, 1, none⟩ = some (.int .i64 n37) ∧ ∃ l38 : Sl, w31.cell? ⟨w4.heap.size, 2, none⟩ = some (.slice l38.a l38.len l38.cap) ∧ ∃ n39 : Int, w31.cell? ⟨w4.heap.size, 3, none⟩ = some (.int .i64 n39) ∧ K (.tuple #[.agg #[.int .i64 n32, .slice l33.a l33.len l33.cap, .slice l34.a l34.len l34.cap, .slice l35.a l35.len l35.cap], .agg #[.int .i64 n36, .int .i64 n37, .slice l38.a l38.len l38.cap, .int .i64 n39]]) w31) (∃ n40 : Int, w15.cell? ⟨w2.heap.size, 3, none⟩ = some (.int .i64 n40) ∧ CallW Try.prog 87 #[.int .i64 4, .int .i64 n40] w15 fun v41 w42 => ∃ b43 : Bool, v41 = .bool b43 ∧ JoinW [.bool] (fun J45 => BIf (!b43) (J45 true w42) (∃ n127 : Int, w42.cell? ⟨w1.heap.size, 4, none⟩ = some (.int .i64 n127) ∧ ∃ n128 : Int, w42.cell? ⟨w2.heap.size, 3, none⟩ = some (.int .i64 n128) ∧ CallW Try.prog 87 #[.int .i64 n127, .int .i64 n128] w42 fun v129 w130 => ∃ b131 : Bool, v129 = .bool b131 ∧ J45 (!b131) w130)) (fun (b44 : Bool) w46 => BIf b44 (∃ n47 : Int, w46.cell? ⟨w.heap.size, 0, none⟩ = some (.int .i64 n47) ∧ ∃ l48 : Sl, w46.cell? ⟨w.heap.size, 1, none⟩ = some (.slice l48.a l48.len l48.cap) ∧ ∃ l49 : Sl, w46.cell? ⟨w.heap.size, 2, none⟩ = some (.slice l49.a l49.len l49.cap) ∧ ∃ l50 : Sl, w46.cell? ⟨w.heap.size, 3, none⟩ = some (.slice l50.a l50.len l50.cap) ∧ CallW Try.prog 95 #[.agg #[.int .i64 n47, .slice l48.a l48.len l48.cap, .slice l49.a l49.len l49.cap, .slice l50.a l50.len l50.cap], .int .i64 2] w46 fun v51 w52 => ∃ n53 : Int, ∃ l54 : Sl, ∃ l55 : Sl, ∃ l56 : Sl, ∃ n57 : Int, ∃ n58 : Int, ∃ l59 : Sl, ∃ n60 : Int, v51 = .tuple #[.agg #[.int .i64 n53, .slice l54.a l54.len l54.cap, .slice l55.a l55.len l55.cap, .slice l56.a l56.len l56.cap], .agg #[.int .i64 n57, .int .i64 n58, .slice l59.a l59.len l59.cap, .int .i64 n60]] ∧ MayN w52 ⟨w3.heap.size, 0, none⟩ 4 ∧ LetW (puts w52 ⟨w3.heap.size, 0, none⟩ 0 [.int .i64 n53, .slice l54.a l54.len l54.cap, .slice l55.a l55.len l55.cap, .slice l56.a l56.len l56.cap]) fun w61 => MayN w61 ⟨w4.heap.size, 0, none⟩ 4 ∧ LetW (puts w61 ⟨w4.heap.size, 0, none⟩ 0 [.int .i64 n57, .int .i64 n58, .slice l59.a l59.len l59.cap, .int .i64 n60]) fun w62 => ∃ n63 : Int, w62.cell? ⟨w3.heap.size, 0, none⟩ = some (.int .i64 n63) ∧ ∃ l64 : Sl, w62.cell? ⟨w3.heap.size, 1, none⟩ = some (.slice l64.a l64.len l64.cap) ∧ ∃ l65 : Sl, w62.cell? ⟨w3.heap.size, 2, none⟩ = some (.slice l65.a l65.len l65.cap) ∧ ∃ l66 : Sl, w62.cell? ⟨w3.heap.size, 3, none⟩ = some (.slice l66.a l66.len l66.cap) ∧ ∃ n67 : Int, w62.cell? ⟨w4.heap.size, 0, none⟩ = some (.int .i64 n67) ∧ ∃ n68 : Int, w62.cell? ⟨w4.heap.size, 1, none⟩ = some (.int .i64 n68) ∧ ∃ l69 : Sl, w62.cell? ⟨w4.heap.size, 2, none⟩ = some (.slice l69.a l69.len l69.cap) ∧ ∃ n70 : Int, w62.cell? ⟨w4.heap.size, 3, none⟩ = some (.int .i64 n70) ∧ K (.tuple #[.agg #[.int .i64 n63, .slice l64.a l64.len l64.cap, .slice l65.a l65.len l65.cap, .slice l66.a l66.len l66.cap], .agg #[.int .i64 n67, .int .i64 n68, .slice l69.a l69.len l69.cap, .int .i64 n70]]) w62) (∃ l71 : Sl, w46.cell? ⟨w.heap.size, 2, none⟩ = some (.slice l71.a l71.len l71.cap) ∧ BIf (decide ((((l71.len : Nat) : Int) : Int) ≥ 128)) (∃ n72 : Int, w46.cell? ⟨w.heap.size, 0, none⟩ = some (.int .i64 n72) ∧ ∃ l73 : Sl, w46.cell? ⟨w.heap.size, 1, none⟩ = some (.slice l73.a l73.len l73.cap) ∧ ∃ l74 : Sl, w46.cell? ⟨w.heap.size, 2, none⟩ = some (.slice l74.a l74.len l74.cap) ∧ ∃ l75 : Sl, w46.cell? ⟨w.heap.size, 3, none⟩ = some (.slice l75.a l75.len l75.cap) ∧ CallW Try.prog 95 #[.agg #[.int .i64 n72, .slice l73.a l73.len l73.cap, .slice l74.a l74.len l74.cap, .slice l75.a l75.len l75.cap], .int .i64 18] w46 fun v76 w77 => ∃ n78 : Int, ∃ l79 : Sl, ∃ l80 : Sl, ∃ l81 : Sl, ∃ n82 : Int, ∃ n83 : Int, ∃ l84 : Sl, ∃ n85 : Int, v76 = .tuple #[.agg #[.int .i64 n78, .slice l79.a l79.len l79.cap, .slice l80.a l80.len l80.cap, .slice l81.a l81.len l81.cap], .agg #[.int .i64 n82, .int .i64 n83, .slice l84.a l84.len l84.cap, .int .i64 n85]] ∧ MayN w77 ⟨w3.heap.size, 0, none⟩ 4 ∧ LetW (puts w77 ⟨w3.heap.size, 0, none⟩ 0 [.int .i64 n78, .slice l79.a l79.len l79.cap, .slice l80.a l80.len l80.cap, .slice l81.a l81.len l81.cap]) fun w86 => MayN w86 ⟨w4.heap.size, 0, none⟩ 4 ∧ LetW (puts w86 ⟨w4.heap.size, 0, none⟩ 0 [.int .i64 n82, .int .i64 n83, .slice l84.a l84.len l84.cap, .int .i64 n85]) fun w87 => ∃ n88 : Int, w87.cell? ⟨w3.heap.size, 0, none⟩ = some (.int .i64 n88) ∧ ∃ l89 : Sl, w87.cell? ⟨w3.heap.size, 1, none⟩ = some (.slice l89.a l89.len l89.cap) ∧ ∃ l90 : Sl, w87.cell? ⟨w3.heap.size, 2, none⟩ = some (.slice l90.a l90.len l90.cap) ∧ ∃ l91 : Sl, w87.cell? ⟨w3.heap.size, 3, none⟩ = some (.slice l91.a l91.len l91.cap) ∧ ∃ n92 : Int, w87.cell? ⟨w4.heap.size, 0, none⟩ = some (.int .i64 n92) ∧ ∃ n93 : Int, w87.cell? ⟨w4.heap.size, 1, none⟩ = some (.int .i64 n93) ∧ ∃ l94 : Sl, w87.cell? ⟨w4.heap.size, 2, none⟩ = some (.slice l94.a l94.len l94.cap) ∧ ∃ n95 : Int, w87.cell? ⟨w4.heap.size, 3, none⟩ = some (.int .i64 n95) ∧ K (.tuple #[.agg #[.int .i64 n88, .slice l89.a l89.len l89.cap, .slice l90.a l90.len l90.cap, .slice l91.a l91.len l91.cap], .agg #[.int .i64 n92, .int .i64 n93, .slice l94.a l94.len l94.cap, .int .i64 n95]]) w87) (∃ n96 : Int, w46.cell? ⟨w.heap.size, 0, none⟩ = some (.int .i64 n96) ∧ ∃ l97 : Sl, w46.cell? ⟨w.heap.size, 1, none⟩ = some (.slice l97.a l97.len l97.cap) ∧ ∃ l98 : Sl, w46.cell? ⟨w.heap.size, 2, none⟩ = some (.slice l98.a l98.len l98.cap) ∧ ∃ l99 : Sl, w46.cell? ⟨w.heap.size, 3, none⟩ = some (.slice l99.a l99.len l99.cap) ∧ ∃ n100 : Int, w46.cell? ⟨w1.heap.size, 3, none⟩ = some (.int .i64 n100) ∧ ∃ n101 : Int, w46.cell? ⟨w2.heap.size, 2, none⟩ = some (.int .i64 n101) ∧ ∃ n102 : Int, w46.cell? ⟨w1.heap.size, 4, none⟩ = some (.int .i64 n102) ∧ ∃ n103 : Int, w46.cell? ⟨w2.heap.size, 0, none⟩ = some (.int .i64 n103) ∧ CallW Try.prog 96 #[.agg #[.int .i64 n96, .slice l97.a l97.len l97.cap, .slice l98.a l98.len l98.cap, .slice l99.a l99.len l99.cap], .int .i64 n100, .int .i64 n101, .int .i64 n102, .int .i64 n103] w46 fun v104 w105 => ∃ n106 : Int, ∃ l107 : Sl, ∃ l108 : Sl, ∃ l109 : Sl, v104 = .agg #[.int .i64 n106, .slice l107.a l107.len l107.cap, .slice l108.a l108.len l108.cap, .slice l109.a l109.len l109.cap] ∧ MayN w105 ⟨w.heap.size, 0, none⟩ 4 ∧ LetW (puts w105 ⟨w.heap.size, 0, none⟩ 0 [.int .i64 n106, .slice l107.a l107.len l107.cap, .slice l108.a l108.len l108.cap, .slice l109.a l109.len l109.cap]) fun w110 => ∃ n111 : Int, w110.drew.cell? ⟨w.heap.size, 0, none⟩ = some (.int .i64 n111) ∧ ∃ l112 : Sl, w110.drew.cell? ⟨w.heap.size, 1, none⟩ = some (.slice l112.a l112.len l112.cap) ∧ ∃ l113 : Sl, w110.drew.cell? ⟨w.heap.size, 2, none⟩ = some (.slice l113.a l113.len l113.cap) ∧ ∃ l114 : Sl, w110.drew.cell? ⟨w.heap.size, 3, none⟩ = some (.slice l114.a l114.len l114.cap) ∧ ∃ n115 : Int, w110.drew.cell? ⟨w.heap.size, 0, none⟩ = some (.int .i64 n115) ∧ MayN w110.drew ⟨w3.heap.size, 0, none⟩ 4 ∧ LetW (puts w110.drew ⟨w3.heap.size, 0, none⟩ 0 [.int .i64 n111, .slice l112.a l112.len l112.cap, .slice l113.a l113.len l113.cap, .slice l114.a l114.len l114.cap]) fun w116 => (∃ n117 : Int, w116.cell? ⟨w.heap.size, 0, none⟩ = some (.int .i64 n117) ∧ (.int .i64 n117 : Value) = (.int .i64 n115 : Value)) ∧ MayN w116 ⟨w4.heap.size, 0, none⟩ 4 ∧ LetW (puts w116 ⟨w4.heap.size, 0, none⟩ 0 [.int .i64 0, .int .i64 n115, .slice none 0 0, .int .i64 0]) fun w118 => ∃ n119 : Int, w118.cell? ⟨w3.heap.size, 0, none⟩ = some (.int .i64 n119) ∧ ∃ l120 : Sl, w118.cell? ⟨w3.heap.size, 1, none⟩ = some (.slice l120.a l120.len l120.cap) ∧ ∃ l121 : Sl, w118.cell? ⟨w3.heap.size, 2, none⟩ = some (.slice l121.a l121.len l121.cap) ∧ ∃ l122 : Sl, w118.cell? ⟨w3.heap.size, 3, none⟩ = some (.slice l122.a l122.len l122.cap) ∧ ∃ n123 : Int, w118.cell? ⟨w4.heap.size, 0, none⟩ = some (.int .i64 n123) ∧ ∃ n124 : Int, w118.cell? ⟨w4.heap.size, 1, none⟩ = some (.int .i64 n124) ∧ ∃ l125 : Sl, w118.cell? ⟨w4.heap.size, 2, none⟩ = some (.slice l125.a l125.len l125.cap) ∧ ∃ n126 : Int, w118.cell? ⟨w4.heap.size, 3, none⟩ = some (.int .i64 n126) ∧ K (.tuple #[.agg #[.int .i64 n119, .slice l120.a l120.len l120.cap, .slice l121.a l121.len l121.cap, .slice l122.a l122.len l122.cap], .agg #[.int .i64 n123, .int .i64 n124, .slice l125.a l125.len l125.cap, .int .i64 n126]]) w118))))))
theorem eq115 (a0_0 : Int) (a0_1 : Sl) (a0_2 : Sl) (a0_3 : Sl) (a1_0 : Int) (a1_1 : Int) (a1_2 : Int) (a1_3 : Int) (a1_4 : Int) (a1_5 : Int) (a1_6 : Int) (a1_7 : Sl) (a2_0 : Int) (a2_1 : Int) (a2_2 : Int) (a2_3 : Int) (a2_4 : Int) (w : World) (K : Value → World → Prop) : denFn Try.prog tt Try.f115 an115 [.agg #[.int .i64 a0_0, .slice a0_1.a a0_1.len a0_1.cap, .slice a0_2.a a0_2.len a0_2.cap, .slice a0_3.a a0_3.len a0_3.cap], .agg #[.int .i64 a1_0, .int .i64 a1_1, .int .i64 a1_2, .int .i64 a1_3, .int .i64 a1_4, .int .i64 a1_5, .int .i64 a1_6, .slice a1_7.a a1_7.len a1_7.cap], .agg #[.int .i64 a2_0, .int .i64 a2_1, .int .i64 a2_2, .int .i64 a2_3, .int .i64 a2_4]] w K = W115 a0_0 a0_1 a0_2 a0_3 a1_0 a1_1 a1_2 a1_3 a1_4 a1_5 a1_6 a1_7 a2_0 a2_1 a2_2 a2_3 a2_4 w K := by kernel_rfl
theorem ok115 : OkFn Try.prog 115 := ⟨Try.f115, Try.func115, by kernel_rfl, by kernel_rfl⟩
theorem go115 {a0_0 : Int} {a0_1 : Sl} {a0_2 : Sl} {a0_3 : Sl} {a1_0 : Int} {a1_1 : Int} {a1_2 : Int} {a1_3 : Int} {a1_4 : Int} {a1_5 : Int} {a1_6 : Int} {a1_7 : Sl} {a2_0 : Int} {a2_1 : Int} {a2_2 : Int} {a2_3 : Int} {a2_4 : Int} {w : World} {K : Value → World → Prop} (h : W115 a0_0 a0_1 a0_2 a0_3 a1_0 a1_1 a1_2 a1_3 a1_4 a1_5 a1_6 a1_7 a2_0 a2_1 a2_2 a2_3 a2_4 w K) : CallW Try.prog 115 #[.agg #[.int .i64 a0_0, .slice a0_1.a a0_1.len a0_1.cap, .slice a0_2.a a0_2.len a0_2.cap, .slice a0_3.a a0_3.len a0_3.cap], .agg #[.int .i64 a1_0, .int .i64 a1_1, .int .i64 a1_2, .int .i64 a1_3, .int .i64 a1_4, .int .i64 a1_5, .int .i64 a1_6, .slice a1_7.a a1_7.len a1_7.cap], .agg #[.int .i64 a2_0, .int .i64 a2_1, .int .i64 a2_2, .int .i64 a2_3, .int .i64 a2_4]] w K :=
  .inl ⟨ok115, denFn_sound tt_ok mix Try.func115 (by kernel_rfl) (eq115 a0_0 a0_1 a0_2 a0_3 a1_0 a1_1 a1_2 a1_3 a1_4 a1_5 a1_6 a1_7 a2_0 a2_1 a2_2 a2_3 a2_4 w K ▸ h)⟩

/- loop.example/g00008/spec.l15Revoke -/
def an116 : Ann := (.seq .leaf (.seq .leaf (.seq (.seq .leaf (.in_ (.loop 54 [(6, .slice), (7, .int .i64)] (.seq (.seq .leaf (.cond .leaf .leaf)) (.seq (.in_ (.seq (.draw [0, 0, 2, 0, 14, 30, 62, 0, 255, 511] [0, 1, 2, 3, 4, 5, 6, 7, 8, 9]) (.cond .leaf .leaf))) .leaf))))) (.seq .leaf (.seq .leaf (.seq .leaf .leaf))))))
def W116 (a0_0 : Int) (a0_1 : Sl) (a0_2 : Sl) (a0_3 : Sl) (a1 : Int) (w : World) (K : Value → World → Prop) : Prop :=
  LetW (w.alloc (.cells #[.int .i64 a0_0, .slice a0_1.a a0_1.len a0_1.cap, .slice a0_2.a a0_2.len a0_2.cap, .slice a0_3.a a0_3.len a0_3.cap] 33)) fun w1 => LetW (w1.alloc (.cells #[.int .i64 0, .slice none 0 0, .slice none 0 0, .slice none 0 0] 33)) fun w2 => LetW (w2.alloc (.cells #[.int .i64 0, .int .i64 0, .slice none 0 0, .int .i64 0] 63)) fun w3 => LetW (w3.alloc (.cells #[] 67)) fun w4 => LoopW [.slice, .int .i64] (fun J7 => fun (l5 : Sl) (n6 : Int) w8 => ∃ l9 : Sl, w8.cell? ⟨w.heap.size, 2, none⟩ = some (.slice l9.a l9.len l9.cap) ∧ BIf (decide ((n6 : Int) < ((l9.len : Nat) : Int))) (∃ n10 : Int, w8.drew.cell? ⟨w.heap.size, 0, none⟩ = some (.int .i64 n10) ∧ ∃ l11 : Sl, w8.drew.cell? ⟨w.heap.size, 1, none⟩ = some (.slice l11.a l11.len l11.cap) ∧ ∃ l12 : Sl, w8.drew.cell? ⟨w.heap.size, 2, none⟩ = some (.slice l12.a l12.len l12.cap) ∧ ∃ l13 : Sl, w8.drew.cell? ⟨w.heap.size, 3, none⟩ = some (.slice l13.a l13.len l13.cap) ∧ ∃ l14 : Sl, w8.drew.cell? ⟨w.heap.size, 2, none⟩ = some (.slice l14.a l14.len l14.cap) ∧ 0 ≤ (n6 : Int) ∧ (n6 : Int) < ((l14.len : Nat) : Int) ∧ ∃ q15 : Addr, (l14.a : Option Addr) = some q15 ∧ ∃ n16 : Int, w8.drew.cell? ((q15.add (Int.toNat n6 * 5)).add 0) = some (.int .i64 n16) ∧ CallW Try.prog 65 #[.agg #[.int .i64 n10, .slice l11.a l11.len l11.cap, .slice l12.a l12.len l12.cap, .slice l13.a l13.len l13.cap], .int .i64 n16, .int .i64 a1] w8.drew fun v17 w18 => ∃ b19 : Bool, v17 = .bool b19 ∧ BIf (!b19) (∃ l20 : Sl, w18.cell? ⟨w.heap.size, 2, none⟩ = some (.slice l20.a l20.len l20.cap) ∧ 0 ≤ (n6 : Int) ∧ (n6 : Int) < ((l20.len : Nat) : Int) ∧ ∃ q21 : Addr, (l20.a : Option Addr) = some q21 ∧ ∃ n22 : Int, w18.cell? ((q21.add (Int.toNat n6 * 5)).add 0) = some (.int .i64 n22) ∧ ∃ n23 : Int, w18.cell? ((q21.add (Int.toNat n6 * 5)).add 1) = some (.int .i64 n23) ∧ ∃ n24 : Int, w18.cell? ((q21.add (Int.toNat n6 * 5)).add 2) = some (.int .i64 n24) ∧ ∃ n25 : Int, w18.cell? ((q21.add (Int.toNat n6 * 5)).add 3) = some (.int .i64 n25) ∧ ∃ n26 : Int, w18.cell? ((q21.add (Int.toNat n6 * 5)).add 4) = some (.int .i64 n26) ∧ LetW (w18.alloc (.cells #[.int .i64 n22, .int .i64 n23, .int .i64 n24, .int .i64 n25, .int .i64 n26] 67)) fun w27 => AppendW 67 ti67 l5 ⟨some ⟨w18.heap.size, 0, none⟩, 1, 1⟩ w27 fun l28 w29 => J7 l28 (IntKind.wrap .i64 (n6 + 1)) w29) (J7 l5 (IntKind.wrap .i64 (n6 + 1)) w18)) (∃ l30 : Sl, w8.cell? ⟨w.heap.size, 2, none⟩ = some (.slice l30.a l30.len l30.cap) ∧ May w8 ⟨w.heap.size, 2, none⟩ ∧ LetW (w8.setCell ⟨w.heap.size, 2, none⟩ (.slice l5.a l5.len l5.cap)) fun w31 => ∃ n32 : Int, w31.cell? ⟨w.heap.size, 0, none⟩ = some (.int .i64 n32) ∧ ∃ l33 : Sl, w31.cell? ⟨w.heap.size, 1, none⟩ = some (.slice l33.a l33.len l33.cap) ∧ ∃ l34 : Sl, w31.cell? ⟨w.heap.size, 2, none⟩ = some (.slice l34.a l34.len l34.cap) ∧ ∃ l35 : Sl, w31.cell? ⟨w.heap.size, 3, none⟩ = some (.slice l35.a l35.len l35.cap) ∧ MayN w31 ⟨w1.heap.size, 0, none⟩ 4 ∧ LetW (puts w31 ⟨w1.heap.size, 0, none⟩ 0 [.int .i64 n32, .slice l33.a l33.len l33.cap, .slice l34.a l34.len l34.cap, .slice l35.a l35.len l35.cap]) fun w36 => MayN w36 ⟨w2.heap.size, 0, none⟩ 4 ∧ LetW (puts w36 ⟨w2.heap.size, 0, none⟩ 0 [.int .i64 0, .int .i64 (IntKind.wrap .i64 (((l30.len : Nat) : Int) - ((l5.len : Nat) : Int))), .slice none 0 0, .int .i64 0]) fun w37 => ∃ n38 : Int, w37.cell? ⟨w1.heap.size, 0, none⟩ = some (.int .i64 n38) ∧ ∃ l39 : Sl, w37.cell? ⟨w1.heap.size, 1, none⟩ = some (.slice l39.a l39.len l39.cap) ∧ ∃ l40 : Sl, w37.cell? ⟨w1.heap.size, 2, none⟩ = some (.slice l40.a l40.len l40.cap) ∧ ∃ l41 : Sl, w37.cell? ⟨w1.heap.size, 3, none⟩ = some (.slice l41.a l41.len l41.cap) ∧ ∃ n42 : Int, w37.cell? ⟨w2.heap.size, 0, none⟩ = some (.int .i64 n42) ∧ ∃ n43 : Int, w37.cell? ⟨w2.heap.size, 1, none⟩ = some (.int .i64 n43) ∧ ∃ l44 : Sl, w37.cell? ⟨w2.heap.size, 2, none⟩ = some (.slice l44.a l44.len l44.cap) ∧ ∃ n45 : Int, w37.cell? ⟨w2.heap.size, 3, none⟩ = some (.int .i64 n45) ∧ K (.tuple #[.agg #[.int .i64 n38, .slice l39.a l39.len l39.cap, .slice l40.a l40.len l40.cap, .slice l41.a l41.len l41.cap], .agg #[.int .i64 n42, .int .i64 n43, .slice l44.a l44.len l44.cap, .int .i64 n45]]) w37)) ((⟨some ⟨w3.heap.size, 0, none⟩, 0, 0⟩ : Sl), ((0 : Int), ())) w4
theorem eq116 (a0_0 : Int) (a0_1 : Sl) (a0_2 : Sl) (a0_3 : Sl) (a1 : Int) (w : World) (K : Value → World → Prop) : denFn Try.prog tt Try.f116 an116 [.agg #[.int .i64 a0_0, .slice a0_1.a a0_1.len a0_1.cap, .slice a0_2.a a0_2.len a0_2.cap, .slice a0_3.a a0_3.len a0_3.cap], .int .i64 a1] w K = W116 a0_0 a0_1 a0_2 a0_3 a1 w K := by kernel_rfl
theorem ok116 : OkFn Try.prog 116 := ⟨Try.f116, Try.func116, by kernel_rfl, by kernel_rfl⟩
theorem go116 {a0_0 : Int} {a0_1 : Sl} {a0_2 : Sl} {a0_3 : Sl} {a1 : Int} {w : World} {K : Value → World → Prop} (h : W116 a0_0 a0_1 a0_2 a0_3 a1 w K) : CallW Try.prog 116 #[.agg #[.int .i64 a0_0, .slice a0_1.a a0_1.len a0_1.cap, .slice a0_2.a a0_2.len a0_2.cap, .slice a0_3.a a0_3.len a0_3.cap], .int .i64 a1] w K :=
  .inl ⟨ok116, denFn_sound tt_ok mix Try.func116 (by kernel_rfl) (eq116 a0_0 a0_1 a0_2 a0_3 a1 w K ▸ h)⟩

/- loop.example/g00008/spec.l15Send -/
def an117 : Ann := (.seq .leaf (.seq (.seq .leaf (.cond (.seq .leaf .leaf) .leaf)) (.seq (.seq .leaf (.cond (.seq .leaf .leaf) .leaf)) (.join 248 [] (.seq .leaf (.cond (.seq .leaf (.seq (.join 504 [(47, .bool)] (.draw [0, 1, 3, 7, 15, 7, 63, 127, 255, 7, 519, 2047, 4095] [0, 1, 2, 3, 4, 5, 6, 7, 8, 9, 10, 11, 12]) (.cond (.seq .leaf .leaf) .leaf)) (.seq .leaf (.cond (.seq .leaf .leaf) .leaf)))) .leaf)) (.seq .leaf (.seq (.seq .leaf (.in_ (.loop 248 [(9, .bool), (10, .int .i64)] (.seq (.seq .leaf (.cond .leaf .leaf)) (.seq (.in_ (.draw [0, 1, 3, 7, 3, 31, 63, 127, 3, 259, 1023, 2047, 4095, 8191, 4095, 32767, 65535, 131071, 262143, 524287, 1048575, 2097151] [0, 1, 2, 3, 4, 5, 6, 7, 8, 9, 10, 11, 12, 13, 14, 15, 16, 17, 18, 19, 20, 21])) .leaf))))) (.seq (.seq .leaf (.cond (.seq .leaf .leaf) .leaf)) (.seq .leaf (.seq (.seq .leaf (.cond (.seq .leaf .leaf) .leaf)) (.seq (.draw [0, 1, 0, 0, 8, 0, 56, 120, 248, 0, 512, 0, 0, 4096, 14336, 0, 32768, 130560, 261632, 524280, 1048575, 2097151, 4194303] [0, 1, 2, 3, 4, 5, 6, 7, 8, 9, 10, 12, 13, 15, 16, 11, 14, 17, 18, 19, 20, 21, 22]) (.seq .leaf .leaf)))))))))))
def W117 (a0_0 : Int) (a0_1 : Sl) (a0_2 : Sl) (a0_3 : Sl) (a1_0 : Int) (a1_1 : Int) (a1_2 : Int) (a1_3 : Int) (a1_4 : Int) (a1_5 : Int) (a1_6 : Int) (a1_7 : Sl) (a2_0 : Int) (a2_1 : Int) (a2_2 : Int) (a2_3 : Int) (a2_4 : Int) (w : World) (K : Value → World → Prop) : Prop :=
  LetW (w.alloc (.cells #[.int .i64 a0_0, .slice a0_1.a a0_1.len a0_1.cap, .slice a0_2.a a0_2.len a0_2.cap, .slice a0_3.a a0_3.len a0_3.cap] 33)) fun w1 => LetW (w1.alloc (.cells #[.int .i64 a1_0, .int .i64 a1_1, .int .i64 a1_2, .int .i64 a1_3, .int .i64 a1_4, .int .i64 a1_5, .int .i64 a1_6, .slice a1_7.a a1_7.len a1_7.cap] 61)) fun w2 => LetW (w2.alloc (.cells #[.int .i64 a2_0, .int .i64 a2_1, .int .i64 a2_2, .int .i64 a2_3, .int .i64 a2_4] 67)) fun w3 => LetW (w3.alloc (.cells #[.int .i64 0, .slice none 0 0, .slice none 0 0, .slice none 0 0] 33)) fun w4 => LetW (w4.alloc (.cells #[.int .i64 0, .int .i64 0, .slice none 0 0, .int .i64 0] 63)) fun w5 => ∃ n6 : Int, w5.cell? ⟨w2.heap.size, 3, none⟩ = some (.int .i64 n6) ∧ CallW Try.prog 87 #[.int .i64 1, .int .i64 n6] w5 fun v7 w8 => ∃ b9 : Bool, v7 = .bool b9 ∧ BIf (!b9) (∃ n10 : Int, w8.cell? ⟨w.heap.size, 0, none⟩ = some (.int .i64 n10) ∧ ∃ l11 : Sl, w8.cell? ⟨w.heap.size, 1, none⟩ = some (.slice l11.a l11.len l11.cap) ∧ ∃ l12 : Sl, w8.cell? ⟨w.heap.size, 2, none⟩ = some (.slice l12.a l12.len l12.cap) ∧ ∃ l13 : Sl, w8.cell? ⟨w.heap.size, 3, none⟩ = some (.slice l13.a l13.len l13.cap) ∧ CallW Try.prog 95 #[.agg #[.int .i64 n10, .slice l11.a l11.len l11.cap, .slice l12.a l12.len l12.cap, .slice l13.a l13.len l13.cap], .int .i64 2] w8 fun v14 w15 => ∃ n16 : Int, ∃ l17 : Sl, ∃ l18 : Sl, ∃ l19 : Sl, ∃ n20 : Int, ∃ n21 : Int, ∃ l22 : Sl, ∃ n23 : Int, v14 = .tuple #[.agg #[.int .i64 n16, .slice l17.a l17.len l17.cap, .slice l18.a l18.len l18.cap, .slice l19.a l19.len l19.cap], .agg #[.int .i64 n20, .int .i64 n21, .slice l22.a l22.len l22.cap, .int .i64 n23]] ∧ MayN w15 ⟨w3.heap.size, 0, none⟩ 4 ∧ LetW (puts w15 ⟨w3.heap.size, 0, none⟩ 0 [.int .i64 n16, .slice l17.a l17.len l17.cap, .slice l18.a l18.len l18.cap, .slice l19.a l19.len l19.cap]) fun w24 => MayN w24 ⟨w4.heap.size, 0, none⟩ 4 ∧ LetW (puts w24 ⟨w4.heap.size, 0, none⟩ 0 [.int .i64 n20, .int .i64 n21, .slice l22.a l22.len l22.cap, .int .i64 n23]) fun w25 => ∃ n26 : Int, w25.cell? ⟨w3.heap.size, 0, none⟩ = some (.int .i64 n26) ∧ ∃ l27 : Sl, w25.cell? ⟨w3.heap.size, 1, none⟩ = some (.slice l27.a l27.len l27.cap) ∧ ∃ l28 : Sl, w25.cell? ⟨w3.heap.size, 2, none⟩ = some (.slice l28.a l28.len l28.cap) ∧ ∃ l29 : Sl, w25.cell? ⟨w3.heap.size, 3, none⟩ = some (.slice l29.a l29.len l29.cap) ∧ ∃ n30 : Int, w25.cell? ⟨w4.heap.size, 0, none⟩ = some (.int .i64 n30) ∧ ∃ n31 : Int, w25.cell? ⟨w4.heap.size, 1, none⟩ = some (.int .i64 n31) ∧ ∃ l32 : Sl, w25.cell? ⟨w4.heap.size, 2, none⟩ = some (.slice l32.a l32.len l32.cap) ∧ ∃ n33 : Int, w25.cell? ⟨w4.heap.size, 3, none⟩ = some (.int .i64 n33) ∧ K (.tuple #[.agg #[.int .i64 n26, .slice l27.a l27.len l27.cap, .slice l28.a l28.len l28.cap, .slice l29.a l29.len l29.cap], .agg #[.int .i64 n30, .int .i64 n31, .slice l32.a l32.len l32.cap, .int .i64 n33]]) w25) (∃ l34 : Sl, w8.cell? ⟨w1.heap.size, 7, none⟩ = some (.slice l34.a l34.len l34.cap) ∧ BIf (decide ((((l34.len : Nat) : Int) : Int) > 64)) (∃ n35 : Int, w8.cell? ⟨w.heap.size, 0, none⟩ = some (.int .i64 n35) ∧ ∃ l36 : Sl, w8.cell? ⟨w.heap.size, 1, none⟩ = some (.slice l36.a l36.len l36.cap) ∧ ∃ l37 : Sl, w8.cell? ⟨w.heap.size, 2, none⟩ = some (.slice l37.a l37.len l37.cap) ∧ ∃ l38 : Sl, w8.cell? ⟨w.heap.size, 3, none⟩ = some (.slice l38.a l38.len l38.cap) ∧ CallW Try.prog 95 #[.agg #[.int .i64 n35, .slice l36.a l36.len l36.cap, .slice l37.a l37.len l37.cap, .slice l38.a l38.len l38.cap], .int .i64 16] w8 fun v39 w40 => ∃ n41 : Int, ∃ l42 : Sl, ∃ l43 : Sl, ∃ l44 : Sl, ∃ n45 : Int, ∃ n46 : Int, ∃ l47 : Sl, ∃ n48 : Int, v39 = .tuple #[.agg #[.int .i64 n41, .slice l42.a l42.len l42.cap, .slice l43.a l43.len l43.cap, .slice l44.a l44.len l44.cap], .agg #[.int .i64 n45, .int .i64 n46, .slice l47.a l47.len l47.cap, .int .i64 n48]] ∧ MayN w40 ⟨w3.heap.size, 0, none⟩ 4 ∧ LetW (puts w40 ⟨w3.heap.size, 0, none⟩ 0 [.int .i64 n41, .slice l42.a l42.len l42.cap, .slice l43.a l43.len l43.cap, .slice l44.a l44.len l44.cap]) fun w49 => MayN w49 ⟨w4.heap.size, 0, none⟩ 4 ∧ LetW (puts w49 ⟨w4.heap.size, 0, none⟩ 0 [.int .i64 n45, .int .i64 n46, .slice l47.a l47.len l47.cap, .int .i64 n48]) fun w50 => ∃ n51 : Int, w50.cell? ⟨w3.heap.size, 0, none⟩ = some (.int .i64 n51) ∧ ∃ l52 : Sl, w50.cell? ⟨w3.heap.size, 1, none⟩ = some (.slice l52.a l52.len l52.cap) ∧ ∃ l53 : Sl, w50.cell? ⟨w3.heap.size, 2, none⟩ = some (.slice l53.a l53.len l53.cap) ∧ ∃ l54 : Sl, w50.cell? ⟨w3.heap.size, 3, none⟩ = some (.slice l54.a l54.len l54.cap) ∧ ∃ n55 : Int, w50.cell? ⟨w4.heap.size, 0, none⟩ = some (.int .i64 n55) ∧ ∃ n56 : Int, w50.cell? ⟨w4.heap.size, 1, none⟩ = some (.int .i64 n56) ∧ ∃ l57 : Sl, w50.cell? ⟨w4.heap.size, 2, none⟩ = some (.slice l57.a l57.len l57.cap) ∧ ∃ n58 : Int, w50.cell? ⟨w4.heap.size, 3, none⟩ = some (.int .i64 n58) ∧ K (.tuple #[.agg #[.int .i64 n51, .slice l52.a l52.len l52.cap, .slice l53.a l53.len l53.cap, .slice l54.a l54.len l54.cap], .agg #[.int .i64 n55, .int .i64 n56, .slice l57.a l57.len l57.cap, .int .i64 n58]]) w50) (JoinW [] (fun J59 => ∃ n179 : Int, w8.cell? ⟨w1.heap.size, 5, none⟩ = some (.int .i64 n179) ∧ BIf ((n179 : Int) != 0) (∃ n180 : Int, w8.cell? ⟨w.heap.size, 0, none⟩ = some (.int .i64 n180) ∧ ∃ l181 : Sl, w8.cell? ⟨w.heap.size, 1, none⟩ = some (.slice l181.a l181.len l181.cap) ∧ ∃ l182 : Sl, w8.cell? ⟨w.heap.size, 2, none⟩ = some (.slice l182.a l182.len l182.cap) ∧ ∃ l183 : Sl, w8.cell? ⟨w.heap.size, 3, none⟩ = some (.slice l183.a l183.len l183.cap) ∧ ∃ n184 : Int, w8.cell? ⟨w1.heap.size, 5, none⟩ = some (.int .i64 n184) ∧ CallW Try.prog 86 #[.agg #[.int .i64 n180, .slice l181.a l181.len l181.cap, .slice l182.a l182.len l182.cap, .slice l183.a l183.len l183.cap], .int .i64 n184] w8 fun v185 w186 => ∃ n187 : Int, v185 = .int .i64 n187 ∧ JoinW [.bool] (fun J189 => BIf (decide ((n187 : Int) < 0)) (J189 true w186.drew) (∃ l245 : Sl, w186.drew.cell? ⟨w.heap.size, 2, none⟩ = some (.slice l245.a l245.len l245.cap) ∧ 0 ≤ (n187 : Int) ∧ (n187 : Int) < ((l245.len : Nat) : Int) ∧ ∃ q246 : Addr, (l245.a : Option Addr) = some q246 ∧ ∃ n247 : Int, w186.drew.cell? ((q246.add (Int.toNat n187 * 5)).add 1) = some (.int .i64 n247) ∧ ∃ n248 : Int, w186.drew.cell? ⟨w1.heap.size, 1, none⟩ = some (.int .i64 n248) ∧ J189 ((n247 : Int) != n248) w186.drew)) (fun (b188 : Bool) w190 => BIf b188 (∃ n191 : Int, w190.cell? ⟨w.heap.size, 0, none⟩ = some (.int .i64 n191) ∧ ∃ l192 : Sl, w190.cell? ⟨w.heap.size, 1, none⟩ = some (.slice l192.a l192.len l192.cap) ∧ ∃ l193 : Sl, w190.cell? ⟨w.heap.size, 2, none⟩ = some (.slice l193.a l193.len l193.cap) ∧ ∃ l194 : Sl, w190.cell? ⟨w.heap.size, 3, none⟩ = some (.slice l194.a l194.len l194.cap) ∧ CallW Try.prog 95 #[.agg #[.int .i64 n191, .slice l192.a l192.len l192.cap, .slice l193.a l193.len l193.cap, .slice l194.a l194.len l194.cap], .int .i64 5] w190 fun v195 w196 => ∃ n197 : Int, ∃ l198 : Sl, ∃ l199 : Sl, ∃ l200 : Sl, ∃ n201 : Int, ∃ n202 : Int, ∃ l203 : Sl, ∃ n204 : Int, v195 = .tuple #[.agg #[.int .i64 n197, .slice l198.a l198.len l198.cap, .slice l199.a l199.len l199.cap, .slice l200.a l200.len l200.cap], .agg #[.int .i64 n201, .int .i64 n202, .slice l203.a l203.len l203.cap, .int .i64 n204]] ∧ MayN w196 ⟨w3.heap.size, 0, none⟩ 4 ∧ LetW (puts w196 ⟨w3.heap.size, 0, none⟩ 0 [.int .i64 n197, .slice l198.a l198.len l198.cap, .slice l199.a l199.len l199.cap, .slice l200.a l200.len l200.cap]) fun w205 => MayN w205 ⟨w4.heap.size, 0, none⟩ 4 ∧ LetW (puts w205 ⟨w4.heap.size, 0, none⟩ 0 [.int .i64 n201, .int .i64 n202, .slice l203.a l203.len l203.cap, .int .i64 n204]) fun w206 => ∃ n207 : Int, w206.cell? ⟨w3.heap.size, 0, none⟩ = some (.int .i64 n207) ∧ ∃ l208 : Sl, w206.cell? ⟨w3.heap.size, 1, none⟩ = some (.slice l208.a l208.len l208.cap) ∧ ∃ l209 : Sl, w206.cell? ⟨w3.heap.size, 2, none⟩ = some (.slice l209.a l209.len l209.cap) ∧ ∃ l210 : Sl, w206.cell? ⟨w3.heap.size, 3, none⟩ = some (.slice l210.a l210.len l210.cap) ∧ ∃ n211 : Int, w206.cell? ⟨w4.heap.size, 0, none⟩ = some (.int .i64 n211) ∧ ∃ n212 : Int, w206.cell? ⟨w4.heap.size, 1, none⟩ = some (.int .i64 n212) ∧ ∃ l213 : Sl, w206.cell? ⟨w4.heap.size, 2, none⟩ = some (.slice l213.a l213.len l213.cap) ∧ ∃ n214 : Int, w206.cell? ⟨w4.heap.size, 3, none⟩ = some (.int .i64 n214) ∧ K (.tuple #[.agg #[.int .i64 n207, .slice l208.a l208.len l208.cap, .slice l209.a l209.len l209.cap, .slice l210.a l210.len l210.cap], .agg #[.int .i64 n211, .int .i64 n212, .slice l213.a l213.len l213.cap, .int .i64 n214]]) w206) (∃ l215 : Sl, w190.cell? ⟨w.heap.size, 2, none⟩ = some (.slice l215.a l215.len l215.cap) ∧ 0 ≤ (n187 : Int) ∧ (n187 : Int) < ((l215.len : Nat) : Int) ∧ ∃ q216 : Addr, (l215.a : Option Addr) = some q216 ∧ ∃ n217 : Int, w190.cell? ((q216.add (Int.toNat n187 * 5)).add 3) = some (.int .i64 n217) ∧ CallW Try.prog 87 #[.int .i64 4, .int .i64 n217] w190 fun v218 w219 => ∃ b220 : Bool, v218 = .bool b220 ∧ BIf (!b220) (∃ n221 : Int, w219.cell? ⟨w.heap.size, 0, none⟩ = some (.int .i64 n221) ∧ ∃ l222 : Sl, w219.cell? ⟨w.heap.size, 1, none⟩ = some (.slice l222.a l222.len l222.cap) ∧ ∃ l223 : Sl, w219.cell? ⟨w.heap.size, 2, none⟩ = some (.slice l223.a l223.len l223.cap) ∧ ∃ l224 : Sl, w219.cell? ⟨w.heap.size, 3, none⟩ = some (.slice l224.a l224.len l224.cap) ∧ CallW Try.prog 95 #[.agg #[.int .i64 n221, .slice l222.a l222.len l222.cap, .slice l223.a l223.len l223.cap, .slice l224.a l224.len l224.cap], .int .i64 2] w219 fun v225 w226 => ∃ n227 : Int, ∃ l228 : Sl, ∃ l229 : Sl, ∃ l230 : Sl, ∃ n231 : Int, ∃ n232 : Int, ∃ l233 : Sl, ∃ n234 : Int, v225 = .tuple #[.agg #[.int .i64 n227, .slice l228.a l228.len l228.cap, .slice l229.a l229.len l229.cap, .slice l230.a l230.len l230.cap], .agg #[.int .i64 n231, .int .i64 n232, .slice l233.a l233.len l233.cap, .int .i64 n234]] ∧ MayN w226 ⟨w3.heap.size, 0, none⟩ 4 ∧ LetW (puts w226 ⟨w3.heap.size, 0, none⟩ 0 [.int .i64 n227, .slice l228.a l228.len l228.cap, .slice l229.a l229.len l229.cap, .slice l230.a l230.len l230.cap]) fun w235 => MayN w235 ⟨w4.heap.size, 0, none⟩ 4 ∧ LetW (puts w235 ⟨w4.heap.size, 0, none⟩ 0 [.int .i64 n231, .int .i64 n232, .slice l233.a l233.len l233.cap, .int .i64 n234]) fun w236 => ∃ n237 : Int, w236.cell? ⟨w3.heap.size, 0, none⟩ = some (.int .i64 n237) ∧ ∃ l238 : Sl, w236.cell? ⟨w3.heap.size, 1, none⟩ = some (.slice l238.a l238.len l238.cap) ∧ ∃ l239 : Sl, w236.cell? ⟨w3.heap.size, 2, none⟩ = some (.slice l239.a l239.len l239.cap) ∧ ∃ l240 : Sl, w236.cell? ⟨w3.heap.size, 3, none⟩ = some (.slice l240.a l240.len l240.cap) ∧ ∃ n241 : Int, w236.cell? ⟨w4.heap.size, 0, none⟩ = some (.int .i64 n241) ∧ ∃ n242 : Int, w236.cell? ⟨w4.heap.size, 1, none⟩ = some (.int .i64 n242) ∧ ∃ l243 : Sl, w236.cell? ⟨w4.heap.size, 2, none⟩ = some (.slice l243.a l243.len l243.cap) ∧ ∃ n244 : Int, w236.cell? ⟨w4.heap.size, 3, none⟩ = some (.int .i64 n244) ∧ K (.tuple #[.agg #[.int .i64 n237, .slice l238.a l238.len l238.cap, .slice l239.a l239.len l239.cap, .slice l240.a l240.len l240.cap], .agg #[.int .i64 n241, .int .i64 n242, .slice l243.a l243.len l243.cap, .int .i64 n244]]) w236) (J59 w219)))) (J59 w8)) (fun w60 => LoopW [.bool, .int .i64] (fun J63 => fun (b61 : Bool) (n62 : Int) w64 => ∃ l65 : Sl, w64.cell? ⟨w.heap.size, 2, none⟩ = some (.slice l65.a l65.len l65.cap) ∧ BIf (decide ((n62 : Int) < ((l65.len : Nat) : Int))) (BIf b61 (J63 true (IntKind.wrap .i64 (n62 + 1)) w64.drew) (∃ l66 : Sl, w64.drew.cell? ⟨w.heap.size, 2, none⟩ = some (.slice l66.a l66.len l66.cap) ∧ 0 ≤ (n62 : Int) ∧ (n62 : Int) < ((l66.len : Nat) : Int) ∧ ∃ q67 : Addr, (l66.a : Option Addr) = some q67 ∧ ∃ n68 : Int, w64.drew.cell? ((q67.add (Int.toNat n62 * 5)).add 2) = some (.int .i64 n68) ∧ ∃ n69 : Int, w64.drew.cell? ⟨w2.heap.size, 2, none⟩ = some (.int .i64 n69) ∧ BIf ((n68 : Int) == n69) (∃ l70 : Sl, w64.drew.cell? ⟨w.heap.size, 2, none⟩ = some (.slice l70.a l70.len l70.cap) ∧ 0 ≤ (n62 : Int) ∧ (n62 : Int) < ((l70.len : Nat) : Int) ∧ ∃ q71 : Addr, (l70.a : Option Addr) = some q71 ∧ ∃ n72 : Int, w64.drew.cell? ((q71.add (Int.toNat n62 * 5)).add 3) = some (.int .i64 n72) ∧ CallW Try.prog 87 #[.int .i64 2, .int .i64 n72] w64.drew fun v73 w74 => ∃ b75 : Bool, v73 = .bool b75 ∧ J63 b75 (IntKind.wrap .i64 (n62 + 1)) w74) (J63 false (IntKind.wrap .i64 (n62 + 1)) w64.drew))) (BIf (!b61) (∃ n76 : Int, w64.cell? ⟨w.heap.size, 0, none⟩ = some (.int .i64 n76) ∧ ∃ l77 : Sl, w64.cell? ⟨w.heap.size, 1, none⟩ = some (.slice l77.a l77.len l77.cap) ∧ ∃ l78 : Sl, w64.cell? ⟨w.heap.size, 2, none⟩ = some (.slice l78.a l78.len l78.cap) ∧ ∃ l79 : Sl, w64.cell? ⟨w.heap.size, 3, none⟩ = some (.slice l79.a l79.len l79.cap) ∧ CallW Try.prog 95 #[.agg #[.int .i64 n76, .slice l77.a l77.len l77.cap, .slice l78.a l78.len l78.cap, .slice l79.a l79.len l79.cap], .int .i64 10] w64 fun v80 w81 => ∃ n82 : Int, ∃ l83 : Sl, ∃ l84 : Sl, ∃ l85 : Sl, ∃ n86 : Int, ∃ n87 : Int, ∃ l88 : Sl, ∃ n89 : Int, v80 = .tuple #[.agg #[.int .i64 n82, .slice l83.a l83.len l83.cap, .slice l84.a l84.len l84.cap, .slice l85.a l85.len l85.cap], .agg #[.int .i64 n86, .int .i64 n87, .slice l88.a l88.len l88.cap, .int .i64 n89]] ∧ MayN w81 ⟨w3.heap.size, 0, none⟩ 4 ∧ LetW (puts w81 ⟨w3.heap.size, 0, none⟩ 0 [.int .i64 n82, .slice l83.a l83.len l83.cap, .slice l84.a l84.len l84.cap, .slice l85.a l85.len l85.cap]) fun w90 => MayN w90 ⟨w4.heap.size, 0, none⟩ 4 ∧ LetW (puts w90 ⟨w4.heap.size, 0, none⟩ 0 [.int .i64 n86, .int .i64 n87, .slice l88.a l88.len l88.cap, .int .i64 n89]) fun w91 => ∃ n92 : Int, w91.cell? ⟨w3.heap.size, 0, none⟩ = some (.int .i64 n92) ∧ ∃ l93 : Sl, w91.cell? ⟨w3.heap.size, 1, none⟩ = some (.slice l93.a l93.len l93.cap) ∧ ∃ l94 : Sl, w91.cell? ⟨w3.heap.size, 2, none⟩ = some (.slice l94.a l94.len l94.cap) ∧ ∃ l95 : Sl, w91.cell? ⟨w3.heap.size, 3, none⟩ = some (.slice l95.a l95.len l95.cap) ∧ ∃ n96 : Int, w91.cell? ⟨w4.heap.size, 0, none⟩ = some (.int .i64 n96) ∧ ∃ n97 : Int, w91.cell? ⟨w4.heap.size, 1, none⟩ = some (.int .i64 n97) ∧ ∃ l98 : Sl, w91.cell? ⟨w4.heap.size, 2, none⟩ = some (.slice l98.a l98.len l98.cap) ∧ ∃ n99 : Int, w91.cell? ⟨w4.heap.size, 3, none⟩ = some (.int .i64 n99) ∧ K (.tuple #[.agg #[.int .i64 n92, .slice l93.a l93.len l93.cap, .slice l94.a l94.len l94.cap, .slice l95.a l95.len l95.cap], .agg #[.int .i64 n96, .int .i64 n97, .slice l98.a l98.len l98.cap, .int .i64 n99]]) w91) (∃ n100 : Int, w64.cell? ⟨w.heap.size, 0, none⟩ = some (.int .i64 n100) ∧ ∃ l101 : Sl, w64.cell? ⟨w.heap.size, 1, none⟩ = some (.slice l101.a l101.len l101.cap) ∧ ∃ l102 : Sl, w64.cell? ⟨w.heap.size, 2, none⟩ = some (.slice l102.a l102.len l102.cap) ∧ ∃ l103 : Sl, w64.cell? ⟨w.heap.size, 3, none⟩ = some (.slice l103.a l103.len l103.cap) ∧ ∃ n104 : Int, w64.cell? ⟨w2.heap.size, 2, none⟩ = some (.int .i64 n104) ∧ CallW Try.prog 85 #[.agg #[.int .i64 n100, .slice l101.a l101.len l101.cap, .slice l102.a l102.len l102.cap, .slice l103.a l103.len l103.cap], .int .i64 n104] w64 fun v105 w106 => ∃ n107 : Int, v105 = .int .i64 n107 ∧ ∃ l108 : Sl, w106.cell? ⟨w.heap.size, 1, none⟩ = some (.slice l108.a l108.len l108.cap) ∧ 0 ≤ (n107 : Int) ∧ (n107 : Int) < ((l108.len : Nat) : Int) ∧ ∃ q109 : Addr, (l108.a : Option Addr) = some q109 ∧ ∃ l110 : Sl, w106.cell? ((q109.add (Int.toNat n107 * 2)).add 1) = some (.slice l110.a l110.len l110.cap) ∧ BIf (decide ((((l110.len : Nat) : Int) : Int) ≥ 8)) (∃ n111 : Int, w106.cell? ⟨w.heap.size, 0, none⟩ = some (.int .i64 n111) ∧ ∃ l112 : Sl, w106.cell? ⟨w.heap.size, 1, none⟩ = some (.slice l112.a l112.len l112.cap) ∧ ∃ l113 : Sl, w106.cell? ⟨w.heap.size, 2, none⟩ = some (.slice l113.a l113.len l113.cap) ∧ ∃ l114 : Sl, w106.cell? ⟨w.heap.size, 3, none⟩ = some (.slice l114.a l114.len l114.cap) ∧ CallW Try.prog 95 #[.agg #[.int .i64 n111, .slice l112.a l112.len l112.cap, .slice l113.a l113.len l113.cap, .slice l114.a l114.len l114.cap], .int .i64 9] w106 fun v115 w116 => ∃ n117 : Int, ∃ l118 : Sl, ∃ l119 : Sl, ∃ l120 : Sl, ∃ n121 : Int, ∃ n122 : Int, ∃ l123 : Sl, ∃ n124 : Int, v115 = .tuple #[.agg #[.int .i64 n117, .slice l118.a l118.len l118.cap, .slice l119.a l119.len l119.cap, .slice l120.a l120.len l120.cap], .agg #[.int .i64 n121, .int .i64 n122, .slice l123.a l123.len l123.cap, .int .i64 n124]] ∧ MayN w116 ⟨w3.heap.size, 0, none⟩ 4 ∧ LetW (puts w116 ⟨w3.heap.size, 0, none⟩ 0 [.int .i64 n117, .slice l118.a l118.len l118.cap, .slice l119.a l119.len l119.cap, .slice l120.a l120.len l120.cap]) fun w125 => MayN w125 ⟨w4.heap.size, 0, none⟩ 4 ∧ LetW (puts w125 ⟨w4.heap.size, 0, none⟩ 0 [.int .i64 n121, .int .i64 n122, .slice l123.a l123.len l123.cap, .int .i64 n124]) fun w126 => ∃ n127 : Int, w126.cell? ⟨w3.heap.size, 0, none⟩ = some (.int .i64 n127) ∧ ∃ l128 : Sl, w126.cell? ⟨w3.heap.size, 1, none⟩ = some (.slice l128.a l128.len l128.cap) ∧ ∃ l129 : Sl, w126.cell? ⟨w3.heap.size, 2, none⟩ = some (.slice l129.a l129.len l129.cap) ∧ ∃ l130 : Sl, w126.cell? ⟨w3.heap.size, 3, none⟩ = some (.slice l130.a l130.len l130.cap) ∧ ∃ n131 : Int, w126.cell? ⟨w4.heap.size, 0, none⟩ = some (.int .i64 n131) ∧ ∃ n132 : Int, w126.cell? ⟨w4.heap.size, 1, none⟩ = some (.int .i64 n132) ∧ ∃ l133 : Sl, w126.cell? ⟨w4.heap.size, 2, none⟩ = some (.slice l133.a l133.len l133.cap) ∧ ∃ n134 : Int, w126.cell? ⟨w4.heap.size, 3, none⟩ = some (.int .i64 n134) ∧ K (.tuple #[.agg #[.int .i64 n127, .slice l128.a l128.len l128.cap, .slice l129.a l129.len l129.cap, .slice l130.a l130.len l130.cap], .agg #[.int .i64 n131, .int .i64 n132, .slice l133.a l133.len l133.cap, .int .i64 n134]]) w126) (∃ l135 : Sl, w106.drew.cell? ⟨w.heap.size, 1, none⟩ = some (.slice l135.a l135.len l135.cap) ∧ ∃ l136 : Sl, w106.drew.cell? ⟨w.heap.size, 1, none⟩ = some (.slice l136.a l136.len l136.cap) ∧ 0 ≤ (n107 : Int) ∧ (n107 : Int) < ((l136.len : Nat) : Int) ∧ ∃ q137 : Addr, (l136.a : Option Addr) = some q137 ∧ ∃ l138 : Sl, w106.drew.cell? ((q137.add (Int.toNat n107 * 2)).add 1) = some (.slice l138.a l138.len l138.cap) ∧ ∃ n139 : Int, w106.drew.cell? ⟨w1.heap.size, 1, none⟩ = some (.int .i64 n139) ∧ ∃ l140 : Sl, w106.drew.cell? ⟨w1.heap.size, 7, none⟩ = some (.slice l140.a l140.len l140.cap) ∧ ∃ n141 : Int, w106.drew.cell? ⟨w1.heap.size, 5, none⟩ = some (.int .i64 n141) ∧ LetW (w106.drew.alloc (.cells #[] 5)) fun w142 => (∃ n143 : Int, w142.cell? ⟨w1.heap.size, 5, none⟩ = some (.int .i64 n143) ∧ (.int .i64 n143 : Value) = (.int .i64 n141 : Value)) ∧ (∃ l144 : Sl, w142.cell? ⟨w1.heap.size, 7, none⟩ = some (.slice l144.a l144.len l144.cap) ∧ (.slice l144.a l144.len l144.cap : Value) = (.slice l140.a l140.len l140.cap : Value)) ∧ (∃ n145 : Int, w142.cell? ⟨w1.heap.size, 1, none⟩ = some (.int .i64 n145) ∧ (.int .i64 n145 : Value) = (.int .i64 n139 : Value)) ∧ (∃ l146 : Sl, w142.cell? ((q137.add (Int.toNat n107 * 2)).add 1) = some (.slice l146.a l146.len l146.cap) ∧ (.slice l146.a l146.len l146.cap : Value) = (.slice l138.a l138.len l138.cap : Value)) ∧ (∃ l147 : Sl, w142.cell? ⟨w.heap.size, 1, none⟩ = some (.slice l147.a l147.len l147.cap) ∧ (.slice l147.a l147.len l147.cap : Value) = (.slice l136.a l136.len l136.cap : Value)) ∧ (∃ l148 : Sl, w142.cell? ⟨w.heap.size, 1, none⟩ = some (.slice l148.a l148.len l148.cap) ∧ (.slice l148.a l148.len l148.cap : Value) = (.slice l135.a l135.len l135.cap : Value)) ∧ AppendW 5 ti5 ⟨some ⟨w106.drew.heap.size, 0, none⟩, 0, 0⟩ l140 w142 fun l149 w150 => (∃ n151 : Int, w150.cell? ⟨w1.heap.size, 5, none⟩ = some (.int .i64 n151) ∧ (.int .i64 n151 : Value) = (.int .i64 n141 : Value)) ∧ (∃ n152 : Int, w150.cell? ⟨w1.heap.size, 1, none⟩ = some (.int .i64 n152) ∧ (.int .i64 n152 : Value) = (.int .i64 n139 : Value)) ∧ (∃ l153 : Sl, w150.cell? ((q137.add (Int.toNat n107 * 2)).add 1) = some (.slice l153.a l153.len l153.cap) ∧ (.slice l153.a l153.len l153.cap : Value) = (.slice l138.a l138.len l138.cap : Value)) ∧ (∃ l154 : Sl, w150.cell? ⟨w.heap.size, 1, none⟩ = some (.slice l154.a l154.len l154.cap) ∧ (.slice l154.a l154.len l154.cap : Value) = (.slice l136.a l136.len l136.cap : Value)) ∧ (∃ l155 : Sl, w150.cell? ⟨w.heap.size, 1, none⟩ = some (.slice l155.a l155.len l155.cap) ∧ (.slice l155.a l155.len l155.cap : Value) = (.slice l135.a l135.len l135.cap : Value)) ∧ LetW (w150.alloc (.cells #[.int .i64 n139, .slice l149.a l149.len l149.cap, .int .i64 n141] 95)) fun w156 => (∃ l157 : Sl, w156.cell? ((q137.add (Int.toNat n107 * 2)).add 1) = some (.slice l157.a l157.len l157.cap) ∧ (.slice l157.a l157.len l157.cap : Value) = (.slice l138.a l138.len l138.cap : Value)) ∧ (∃ l158 : Sl, w156.cell? ⟨w.heap.size, 1, none⟩ = some (.slice l158.a l158.len l158.cap) ∧ (.slice l158.a l158.len l158.cap : Value) = (.slice l136.a l136.len l136.cap : Value)) ∧ (∃ l159 : Sl, w156.cell? ⟨w.heap.size, 1, none⟩ = some (.slice l159.a l159.len l159.cap) ∧ (.slice l159.a l159.len l159.cap : Value) = (.slice l135.a l135.len l135.cap : Value)) ∧ AppendW 95 ti95 l138 ⟨some ⟨w150.heap.size, 0, none⟩, 1, 1⟩ w156 fun l160 w161 => (∃ l162 : Sl, w161.cell? ⟨w.heap.size, 1, none⟩ = some (.slice l162.a l162.len l162.cap) ∧ (.slice l162.a l162.len l162.cap : Value) = (.slice l135.a l135.len l135.cap : Value)) ∧ 0 ≤ (n107 : Int) ∧ (n107 : Int) < ((l135.len : Nat) : Int) ∧ ∃ q163 : Addr, (l135.a : Option Addr) = some q163 ∧ May w161 ((q163.add (Int.toNat n107 * 2)).add 1) ∧ LetW (w161.setCell ((q163.add (Int.toNat n107 * 2)).add 1) (.slice l160.a l160.len l160.cap)) fun w164 => ∃ n165 : Int, w164.cell? ⟨w.heap.size, 0, none⟩ = some (.int .i64 n165) ∧ ∃ l166 : Sl, w164.cell? ⟨w.heap.size, 1, none⟩ = some (.slice l166.a l166.len l166.cap) ∧ ∃ l167 : Sl, w164.cell? ⟨w.heap.size, 2, none⟩ = some (.slice l167.a l167.len l167.cap) ∧ ∃ l168 : Sl, w164.cell? ⟨w.heap.size, 3, none⟩ = some (.slice l168.a l168.len l168.cap) ∧ MayN w164 ⟨w3.heap.size, 0, none⟩ 4 ∧ LetW (puts w164 ⟨w3.heap.size, 0, none⟩ 0 [.int .i64 n165, .slice l166.a l166.len l166.cap, .slice l167.a l167.len l167.cap, .slice l168.a l168.len l168.cap]) fun w169 => MayN w169 ⟨w4.heap.size, 0, none⟩ 4 ∧ LetW (puts w169 ⟨w4.heap.size, 0, none⟩ 0 [.int .i64 0, .int .i64 0, .slice none 0 0, .int .i64 0]) fun w170 => ∃ n171 : Int, w170.cell? ⟨w3.heap.size, 0, none⟩ = some (.int .i64 n171) ∧ ∃ l172 : Sl, w170.cell? ⟨w3.heap.size, 1, none⟩ = some (.slice l172.a l172.len l172.cap) ∧ ∃ l173 : Sl, w170.cell? ⟨w3.heap.size, 2, none⟩ = some (.slice l173.a l173.len l173.cap) ∧ ∃ l174 : Sl, w170.cell? ⟨w3.heap.size, 3, none⟩ = some (.slice l174.a l174.len l174.cap) ∧ ∃ n175 : Int, w170.cell? ⟨w4.heap.size, 0, none⟩ = some (.int .i64 n175) ∧ ∃ n176 : Int, w170.cell? ⟨w4.heap.size, 1, none⟩ = some (.int .i64 n176) ∧ ∃ l177 : Sl, w170.cell? ⟨w4.heap.size, 2, none⟩ = some (.slice l177.a l177.len l177.cap) ∧ ∃ n178 : Int, w170.cell? ⟨w4.heap.size, 3, none⟩ = some (.int .i64 n178) ∧ K (.tuple #[.agg #[.int .i64 n171, .slice l172.a l172.len l172.cap, .slice l173.a l173.len l173.cap, .slice l174.a l174.len l174.cap], .agg #[.int .i64 n175, .int .i64 n176, .slice l177.a l177.len l177.cap, .int .i64 n178]]) w170)))) ((false : Bool), ((0 : Int), ())) w60)))
theorem eq117 (a0_0 : Int) (a0_1 : Sl) (a0_2 : Sl) (a0_3 : Sl) (a1_0 : Int) (a1_1 : Int) (a1_2 : Int) (a1_3 : Int) (a1_4 : Int) (a1_5 : Int) (a1_6 : Int) (a1_7 : Sl) (a2_0 : Int) (a2_1 : Int) (a2_2 : Int) (a2_3 : Int) (a2_4 : Int) (w : World) (K : Value → World → Prop) : denFn Try.prog tt Try.f117 an117 [.agg #[.int .i64 a0_0, .slice a0_1.a a0_1.len a0_1.cap, .slice a0_2.a a0_2.len a0_2.cap, .slice a0_3.a a0_3.len a0_3.cap], .agg #[.int .i64 a1_0, .int .i64 a1_1, .int .i64 a1_2, .int .i64 a1_3, .int .i64 a1_4, .int .i64 a1_5, .int .i64 a1_6, .slice a1_7.a a1_7.len a1_7.cap], .agg #[.int .i64 a2_0, .int .i64 a2_1, .int .i64 a2_2, .int .i64 a2_3, .int .i64 a2_4]] w K = W117 a0_0 a0_1 a0_2 a0_3 a1_0 a1_1 a1_2 a1_3 a1_4 a1_5 a1_6 a1_7 a2_0 a2_1 a2_2 a2_3 a2_4 w K := by kernel_rfl
theorem ok117 : OkFn Try.prog 117 := ⟨Try.f117, Try.func117, by kernel_rfl, by kernel_rfl⟩
theorem go117 {a0_0 : Int} {a0_1 : Sl} {a0_2 : Sl} {a0_3 : Sl} {a1_0 : Int} {a1_1 : Int} {a1_2 : Int} {a1_3 : Int} {a1_4 : Int} {a1_5 : Int} {a1_6 : Int} {a1_7 : Sl} {a2_0 : Int} {a2_1 : Int} {a2_2 : Int} {a2_3 : Int} {a2_4 : Int} {w : World} {K : Value → World → Prop} (h : W117 a0_0 a0_1 a0_2 a0_3 a1_0 a1_1 a1_2 a1_3 a1_4 a1_5 a1_6 a1_7 a2_0 a2_1 a2_2 a2_3 a2_4 w K) : CallW Try.prog 117 #[.agg #[.int .i64 a0_0, .slice a0_1.a a0_1.len a0_1.cap, .slice a0_2.a a0_2.len a0_2.cap, .slice a0_3.a a0_3.len a0_3.cap], .agg #[.int .i64 a1_0, .int .i64 a1_1, .int .i64 a1_2, .int .i64 a1_3, .int .i64 a1_4, .int .i64 a1_5, .int .i64 a1_6, .slice a1_7.a a1_7.len a1_7.cap], .agg #[.int .i64 a2_0, .int .i64 a2_1, .int .i64 a2_2, .int .i64 a2_3, .int .i64 a2_4]] w K :=
  .inl ⟨ok117, denFn_sound tt_ok mix Try.func117 (by kernel_rfl) (eq117 a0_0 a0_1 a0_2 a0_3 a1_0 a1_1 a1_2 a1_3 a1_4 a1_5 a1_6 a1_7 a2_0 a2_1 a2_2 a2_3 a2_4 w K ▸ h)⟩

/- loop.example/g00008/spec.l15Receive -/
def an118 : Ann := (.seq .leaf (.seq (.seq .leaf (.cond (.seq .leaf .leaf) .leaf)) (.seq .leaf (.seq (.seq .leaf (.cond (.seq .leaf .leaf) .leaf)) (.seq .leaf (.seq (.draw [0, 1, 0, 0, 0, 16, 0, 112, 240, 496, 1008, 2040, 4095, 8191, 16383] [0, 1, 2, 4, 5, 6, 7, 8, 9, 10, 3, 11, 12, 13, 14]) (.join 728 [(10, .ptr)] (.drawT [0, 0, 2, 7, 0, 16, 63, 0, 255] [1, 2, 4, 5] (.alt [0] (.alt [3, 6] (.alt [7] (.alt [8] .leaf .stop) .stop) (.alt [7] (.alt [3, 6] (.alt [8] .leaf .stop) .stop) .stop)) (.alt [7] (.alt [0] (.alt [3, 6] (.alt [8] .leaf .stop) .stop) .stop) .stop))) (.seq .leaf (.join 1224 [] (.seq (.reg [(4, none), (3, some (3800, [(75, .bool)])), (1, none), (5, some (3800, [(81, .bool)]))]) (.cond (.seq (.draw [0, 0, 2, 0, 8, 0, 56, 120, 248, 0, 512, 0, 3584, 7680, 15872, 0, 32768, 131071, 262143] [0, 1, 2, 3, 4, 5, 6, 7, 8, 9, 10, 11, 12, 13, 14, 15, 16, 17, 18]) .leaf) .leaf)) (.seq (.draw [0, 0, 1, 7] [0, 1, 2, 3]) .leaf))))))))))
def W118 (a0_0 : Int) (a0_1 : Sl) (a0_2 : Sl) (a0_3 : Sl) (a1_0 : Int) (a1_1 : Int) (a1_2 : Int) (a1_3 : Int) (a1_4 : Int) (a1_5 : Int) (a1_6 : Int) (a1_7 : Sl) (a2_0 : Int) (a2_1 : Int) (a2_2 : Int) (a2_3 : Int) (a2_4 : Int) (w : World) (K : Value → World → Prop) : Prop :=
  LetW (w.alloc (.cells #[.int .i64 a0_0, .slice a0_1.a a0_1.len a0_1.cap, .slice a0_2.a a0_2.len a0_2.cap, .slice a0_3.a a0_3.len a0_3.cap] 33)) fun w1 => LetW (w1.alloc (.cells #[.int .i64 a1_0, .int .i64 a1_1, .int .i64 a1_2, .int .i64 a1_3, .int .i64 a1_4, .int .i64 a1_5, .int .i64 a1_6, .slice a1_7.a a1_7.len a1_7.cap] 61)) fun w2 => LetW (w2.alloc (.cells #[.int .i64 a2_0, .int .i64 a2_1, .int .i64 a2_2, .int .i64 a2_3, .int .i64 a2_4] 67)) fun w3 => LetW (w3.alloc (.cells #[.int .i64 0, .slice none 0 0, .slice none 0 0, .slice none 0 0] 33)) fun w4 => LetW (w4.alloc (.cells #[.int .i64 0, .int .i64 0, .slice none 0 0, .int .i64 0] 63)) fun w5 => ∃ n6 : Int, w5.cell? ⟨w2.heap.size, 3, none⟩ = some (.int .i64 n6) ∧ CallW Try.prog 87 #[.int .i64 2, .int .i64 n6] w5 fun v7 w8 => ∃ b9 : Bool, v7 = .bool b9 ∧ BIf (!b9) (∃ n10 : Int, w8.cell? ⟨w.heap.size, 0, none⟩ = some (.int .i64 n10) ∧ ∃ l11 : Sl, w8.cell? ⟨w.heap.size, 1, none⟩ = some (.slice l11.a l11.len l11.cap) ∧ ∃ l12 : Sl, w8.cell? ⟨w.heap.size, 2, none⟩ = some (.slice l12.a l12.len l12.cap) ∧ ∃ l13 : Sl, w8.cell? ⟨w.heap.size, 3, none⟩ = some (.slice l13.a l13.len l13.cap) ∧ CallW Try.prog 95 #[.agg #[.int .i64 n10, .slice l11.a l11.len l11.cap, .slice l12.a l12.len l12.cap, .slice l13.a l13.len l13.cap], .int .i64 2] w8 fun v14 w15 => ∃ n16 : Int, ∃ l17 : Sl, ∃ l18 : Sl, ∃ l19 : Sl, ∃ n20 : Int, ∃ n21 : Int, ∃ l22 : Sl, ∃ n23 : Int, v14 = .tuple #[.agg #[.int .i64 n16, .slice l17.a l17.len l17.cap, .slice l18.a l18.len l18.cap, .slice l19.a l19.len l19.cap], .agg #[.int .i64 n20, .int .i64 n21, .slice l22.a l22.len l22.cap, .int .i64 n23]] ∧ MayN w15 ⟨w3.heap.size, 0, none⟩ 4 ∧ LetW (puts w15 ⟨w3.heap.size, 0, none⟩ 0 [.int .i64 n16, .slice l17.a l17.len l17.cap, .slice l18.a l18.len l18.cap, .slice l19.a l19.len l19.cap]) fun w24 => MayN w24 ⟨w4.heap.size, 0, none⟩ 4 ∧ LetW (puts w24 ⟨w4.heap.size, 0, none⟩ 0 [.int .i64 n20, .int .i64 n21, .slice l22.a l22.len l22.cap, .int .i64 n23]) fun w25 => ∃ n26 : Int, w25.cell? ⟨w3.heap.size, 0, none⟩ = some (.int .i64 n26) ∧ ∃ l27 : Sl, w25.cell? ⟨w3.heap.size, 1, none⟩ = some (.slice l27.a l27.len l27.cap) ∧ ∃ l28 : Sl, w25.cell? ⟨w3.heap.size, 2, none⟩ = some (.slice l28.a l28.len l28.cap) ∧ ∃ l29 : Sl, w25.cell? ⟨w3.heap.size, 3, none⟩ = some (.slice l29.a l29.len l29.cap) ∧ ∃ n30 : Int, w25.cell? ⟨w4.heap.size, 0, none⟩ = some (.int .i64 n30) ∧ ∃ n31 : Int, w25.cell? ⟨w4.heap.size, 1, none⟩ = some (.int .i64 n31) ∧ ∃ l32 : Sl, w25.cell? ⟨w4.heap.size, 2, none⟩ = some (.slice l32.a l32.len l32.cap) ∧ ∃ n33 : Int, w25.cell? ⟨w4.heap.size, 3, none⟩ = some (.int .i64 n33) ∧ K (.tuple #[.agg #[.int .i64 n26, .slice l27.a l27.len l27.cap, .slice l28.a l28.len l28.cap, .slice l29.a l29.len l29.cap], .agg #[.int .i64 n30, .int .i64 n31, .slice l32.a l32.len l32.cap, .int .i64 n33]]) w25) (∃ n34 : Int, w8.cell? ⟨w.heap.size, 0, none⟩ = some (.int .i64 n34) ∧ ∃ l35 : Sl, w8.cell? ⟨w.heap.size, 1, none⟩ = some (.slice l35.a l35.len l35.cap) ∧ ∃ l36 : Sl, w8.cell? ⟨w.heap.size, 2, none⟩ = some (.slice l36.a l36.len l36.cap) ∧ ∃ l37 : Sl, w8.cell? ⟨w.heap.size, 3, none⟩ = some (.slice l37.a l37.len l37.cap) ∧ ∃ n38 : Int, w8.cell? ⟨w2.heap.size, 2, none⟩ = some (.int .i64 n38) ∧ CallW Try.prog 85 #[.agg #[.int .i64 n34, .slice l35.a l35.len l35.cap, .slice l36.a l36.len l36.cap, .slice l37.a l37.len l37.cap], .int .i64 n38] w8 fun v39 w40 => ∃ n41 : Int, v39 = .int .i64 n41 ∧ ∃ l42 : Sl, w40.cell? ⟨w.heap.size, 1, none⟩ = some (.slice l42.a l42.len l42.cap) ∧ 0 ≤ (n41 : Int) ∧ (n41 : Int) < ((l42.len : Nat) : Int) ∧ ∃ q43 : Addr, (l42.a : Option Addr) = some q43 ∧ ∃ l44 : Sl, w40.cell? ((q43.add (Int.toNat n41 * 2)).add 1) = some (.slice l44.a l44.len l44.cap) ∧ BIf ((((l44.len : Nat) : Int) : Int) == 0) (∃ n45 : Int, w40.cell? ⟨w.heap.size, 0, none⟩ = some (.int .i64 n45) ∧ ∃ l46 : Sl, w40.cell? ⟨w.heap.size, 1, none⟩ = some (.slice l46.a l46.len l46.cap) ∧ ∃ l47 : Sl, w40.cell? ⟨w.heap.size, 2, none⟩ = some (.slice l47.a l47.len l47.cap) ∧ ∃ l48 : Sl, w40.cell? ⟨w.heap.size, 3, none⟩ = some (.slice l48.a l48.len l48.cap) ∧ CallW Try.prog 95 #[.agg #[.int .i64 n45, .slice l46.a l46.len l46.cap, .slice l47.a l47.len l47.cap, .slice l48.a l48.len l48.cap], .int .i64 9] w40 fun v49 w50 => ∃ n51 : Int, ∃ l52 : Sl, ∃ l53 : Sl, ∃ l54 : Sl, ∃ n55 : Int, ∃ n56 : Int, ∃ l57 : Sl, ∃ n58 : Int, v49 = .tuple #[.agg #[.int .i64 n51, .slice l52.a l52.len l52.cap, .slice l53.a l53.len l53.cap, .slice l54.a l54.len l54.cap], .agg #[.int .i64 n55, .int .i64 n56, .slice l57.a l57.len l57.cap, .int .i64 n58]] ∧ MayN w50 ⟨w3.heap.size, 0, none⟩ 4 ∧ LetW (puts w50 ⟨w3.heap.size, 0, none⟩ 0 [.int .i64 n51, .slice l52.a l52.len l52.cap, .slice l53.a l53.len l53.cap, .slice l54.a l54.len l54.cap]) fun w59 => MayN w59 ⟨w4.heap.size, 0, none⟩ 4 ∧ LetW (puts w59 ⟨w4.heap.size, 0, none⟩ 0 [.int .i64 n55, .int .i64 n56, .slice l57.a l57.len l57.cap, .int .i64 n58]) fun w60 => ∃ n61 : Int, w60.cell? ⟨w3.heap.size, 0, none⟩ = some (.int .i64 n61) ∧ ∃ l62 : Sl, w60.cell? ⟨w3.heap.size, 1, none⟩ = some (.slice l62.a l62.len l62.cap) ∧ ∃ l63 : Sl, w60.cell? ⟨w3.heap.size, 2, none⟩ = some (.slice l63.a l63.len l63.cap) ∧ ∃ l64 : Sl, w60.cell? ⟨w3.heap.size, 3, none⟩ = some (.slice l64.a l64.len l64.cap) ∧ ∃ n65 : Int, w60.cell? ⟨w4.heap.size, 0, none⟩ = some (.int .i64 n65) ∧ ∃ n66 : Int, w60.cell? ⟨w4.heap.size, 1, none⟩ = some (.int .i64 n66) ∧ ∃ l67 : Sl, w60.cell? ⟨w4.heap.size, 2, none⟩ = some (.slice l67.a l67.len l67.cap) ∧ ∃ n68 : Int, w60.cell? ⟨w4.heap.size, 3, none⟩ = some (.int .i64 n68) ∧ K (.tuple #[.agg #[.int .i64 n61, .slice l62.a l62.len l62.cap, .slice l63.a l63.len l63.cap, .slice l64.a l64.len l64.cap], .agg #[.int .i64 n65, .int .i64 n66, .slice l67.a l67.len l67.cap, .int .i64 n68]]) w60) (∃ l69 : Sl, w40.cell? ⟨w.heap.size, 1, none⟩ = some (.slice l69.a l69.len l69.cap) ∧ 0 ≤ (n41 : Int) ∧ (n41 : Int) < ((l69.len : Nat) : Int) ∧ ∃ q70 : Addr, (l69.a : Option Addr) = some q70 ∧ ∃ l71 : Sl, w40.cell? ((q70.add (Int.toNat n41 * 2)).add 1) = some (.slice l71.a l71.len l71.cap) ∧ 0 ≤ (0 : Int) ∧ (0 : Int) < ((l71.len : Nat) : Int) ∧ ∃ q72 : Addr, (l71.a : Option Addr) = some q72 ∧ ∃ n73 : Int, w40.cell? ((q72.add (Int.toNat 0 * 3)).add 0) = some (.int .i64 n73) ∧ ∃ l74 : Sl, w40.cell? ((q72.add (Int.toNat 0 * 3)).add 1) = some (.slice l74.a l74.len l74.cap) ∧ ∃ n75 : Int, w40.cell? ((q72.add (Int.toNat 0 * 3)).add 2) = some (.int .i64 n75) ∧ LetW (w40.alloc (.cells #[.int .i64 0, .slice none 0 0, .int .i64 0] 95)) fun w76 => MayN w76 ⟨w40.heap.size, 0, none⟩ 3 ∧ LetW (puts w76 ⟨w40.heap.size, 0, none⟩ 0 [.int .i64 n73, .slice l74.a l74.len l74.cap, .int .i64 n75]) fun w77 => ∃ l78 : Sl, w77.drew.cell? ⟨w.heap.size, 1, none⟩ = some (.slice l78.a l78.len l78.cap) ∧ ∃ l79 : Sl, w77.drew.cell? ⟨w.heap.size, 1, none⟩ = some (.slice l79.a l79.len l79.cap) ∧ 0 ≤ (n41 : Int) ∧ (n41 : Int) < ((l79.len : Nat) : Int) ∧ ∃ q80 : Addr, (l79.a : Option Addr) = some q80 ∧ ∃ l81 : Sl, w77.drew.cell? ((q80.add (Int.toNat n41 * 2)).add 1) = some (.slice l81.a l81.len l81.cap) ∧ 0 ≤ (1 : Int) ∧ (1 : Int) ≤ ((l81.len : Nat) : Int) ∧ LetW (w77.drew.alloc (.cells #[] 95)) fun w82 => (∃ l83 : Sl, w82.cell? ((q80.add (Int.toNat n41 * 2)).add 1) = some (.slice l83.a l83.len l83.cap) ∧ (.slice l83.a l83.len l83.cap : Value) = (.slice l81.a l81.len l81.cap : Value)) ∧ (∃ l84 : Sl, w82.cell? ⟨w.heap.size, 1, none⟩ = some (.slice l84.a l84.len l84.cap) ∧ (.slice l84.a l84.len l84.cap : Value) = (.slice l79.a l79.len l79.cap : Value)) ∧ (∃ l85 : Sl, w82.cell? ⟨w.heap.size, 1, none⟩ = some (.slice l85.a l85.len l85.cap) ∧ (.slice l85.a l85.len l85.cap : Value) = (.slice l78.a l78.len l78.cap : Value)) ∧ AppendW 95 ti95 ⟨some ⟨w77.drew.heap.size, 0, none⟩, 0, 0⟩ ⟨cutA l81.a l81.cap (Int.toNat 1) 3, Int.toNat ((l81.len : Nat) : Int) - Int.toNat 1, l81.cap - Int.toNat 1⟩ w82 fun l86 w87 => (∃ l88 : Sl, w87.cell? ⟨w.heap.size, 1, none⟩ = some (.slice l88.a l88.len l88.cap) ∧ (.slice l88.a l88.len l88.cap : Value) = (.slice l78.a l78.len l78.cap : Value)) ∧ 0 ≤ (n41 : Int) ∧ (n41 : Int) < ((l78.len : Nat) : Int) ∧ ∃ q89 : Addr, (l78.a : Option Addr) = some q89 ∧ May w87 ((q89.add (Int.toNat n41 * 2)).add 1) ∧ LetW (w87.setCell ((q89.add (Int.toNat n41 * 2)).add 1) (.slice l86.a l86.len l86.cap)) fun w90 => JoinW [.ptr] (fun J92 => ∃ l158 : Sl, w90.drew.cell? ⟨w40.heap.size, 1, none⟩ = some (.slice l158.a l158.len l158.cap) ∧ ∃ n159 : Int, w90.drew.cell? ⟨w40.heap.size, 0, none⟩ = some (.int .i64 n159) ∧ (LetW (w90.drew.alloc (.cells #[] 5)) fun w170 => (∃ n171 : Int, w170.cell? ⟨w40.heap.size, 0, none⟩ = some (.int .i64 n171) ∧ (.int .i64 n171 : Value) = (.int .i64 n159 : Value)) ∧ (∃ l172 : Sl, w170.cell? ⟨w40.heap.size, 1, none⟩ = some (.slice l172.a l172.len l172.cap) ∧ (.slice l172.a l172.len l172.cap : Value) = (.slice l158.a l158.len l158.cap : Value)) ∧ (AppendW 5 ti5 ⟨some ⟨w90.drew.heap.size, 0, none⟩, 0, 0⟩ l158 w170 fun l180 w181 => (∃ n182 : Int, w181.cell? ⟨w40.heap.size, 0, none⟩ = some (.int .i64 n182) ∧ (.int .i64 n182 : Value) = (.int .i64 n159 : Value)) ∧ (LetW (w181.alloc (.cells #[.int .i64 0, .int .i64 0, .slice none 0 0, .int .i64 0] 63)) fun w183 => (∃ n184 : Int, w183.cell? ⟨w40.heap.size, 0, none⟩ = some (.int .i64 n184) ∧ (.int .i64 n184 : Value) = (.int .i64 n159 : Value)) ∧ (∃ l185 : Sl, w183.cell? ⟨w40.heap.size, 1, none⟩ = some (.slice l185.a l185.len l185.cap) ∧ (.slice l185.a l185.len l185.cap : Value) = (.slice l158.a l158.len l158.cap : Value)) ∧ (MayN w183 ⟨w181.heap.size, 0, none⟩ 4 ∧ LetW (puts w183 ⟨w181.heap.size, 0, none⟩ 0 [.int .i64 0, .int .i64 0, .slice l180.a l180.len l180.cap, .int .i64 n159]) fun w186 => J92 (some ⟨w181.heap.size, 0, none⟩) w186) ∧ (True)) ∧ (True)) ∧ ((LetW (w170.alloc (.cells #[.int .i64 0, .int .i64 0, .slice none 0 0, .int .i64 0] 63)) fun w173 => (∃ n174 : Int, w173.cell? ⟨w40.heap.size, 0, none⟩ = some (.int .i64 n174) ∧ (.int .i64 n174 : Value) = (.int .i64 n159 : Value)) ∧ (∃ l175 : Sl, w173.cell? ⟨w40.heap.size, 1, none⟩ = some (.slice l175.a l175.len l175.cap) ∧ (.slice l175.a l175.len l175.cap : Value) = (.slice l158.a l158.len l158.cap : Value)) ∧ (AppendW 5 ti5 ⟨some ⟨w90.drew.heap.size, 0, none⟩, 0, 0⟩ l158 w173 fun l176 w177 => (∃ n178 : Int, w177.cell? ⟨w40.heap.size, 0, none⟩ = some (.int .i64 n178) ∧ (.int .i64 n178 : Value) = (.int .i64 n159 : Value)) ∧ (MayN w177 ⟨w170.heap.size, 0, none⟩ 4 ∧ LetW (puts w177 ⟨w170.heap.size, 0, none⟩ 0 [.int .i64 0, .int .i64 0, .slice l176.a l176.len l176.cap, .int .i64 n159]) fun w179 => J92 (some ⟨w170.heap.size, 0, none⟩) w179) ∧ (True)) ∧ (True)) ∧ (True))) ∧ ((LetW (w90.drew.alloc (.cells #[.int .i64 0, .int .i64 0, .slice none 0 0, .int .i64 0] 63)) fun w160 => (∃ n161 : Int, w160.cell? ⟨w40.heap.size, 0, none⟩ = some (.int .i64 n161) ∧ (.int .i64 n161 : Value) = (.int .i64 n159 : Value)) ∧ (∃ l162 : Sl, w160.cell? ⟨w40.heap.size, 1, none⟩ = some (.slice l162.a l162.len l162.cap) ∧ (.slice l162.a l162.len l162.cap : Value) = (.slice l158.a l158.len l158.cap : Value)) ∧ (LetW (w160.alloc (.cells #[] 5)) fun w163 => (∃ n164 : Int, w163.cell? ⟨w40.heap.size, 0, none⟩ = some (.int .i64 n164) ∧ (.int .i64 n164 : Value) = (.int .i64 n159 : Value)) ∧ (∃ l165 : Sl, w163.cell? ⟨w40.heap.size, 1, none⟩ = some (.slice l165.a l165.len l165.cap) ∧ (.slice l165.a l165.len l165.cap : Value) = (.slice l158.a l158.len l158.cap : Value)) ∧ (AppendW 5 ti5 ⟨some ⟨w160.heap.size, 0, none⟩, 0, 0⟩ l158 w163 fun l166 w167 => (∃ n168 : Int, w167.cell? ⟨w40.heap.size, 0, none⟩ = some (.int .i64 n168) ∧ (.int .i64 n168 : Value) = (.int .i64 n159 : Value)) ∧ (MayN w167 ⟨w90.drew.heap.size, 0, none⟩ 4 ∧ LetW (puts w167 ⟨w90.drew.heap.size, 0, none⟩ 0 [.int .i64 0, .int .i64 0, .slice l166.a l166.len l166.cap, .int .i64 n159]) fun w169 => J92 (some ⟨w90.drew.heap.size, 0, none⟩) w169) ∧ (True)) ∧ (True)) ∧ (True)) ∧ (True))) (fun (p91 : Option Addr) w93 => ∃ n94 : Int, w93.cell? ⟨w.heap.size, 0, none⟩ = some (.int .i64 n94) ∧ ∃ l95 : Sl, w93.cell? ⟨w.heap.size, 1, none⟩ = some (.slice l95.a l95.len l95.cap) ∧ ∃ l96 : Sl, w93.cell? ⟨w.heap.size, 2, none⟩ = some (.slice l96.a l96.len l96.cap) ∧ ∃ l97 : Sl, w93.cell? ⟨w.heap.size, 3, none⟩ = some (.slice l97.a l97.len l97.cap) ∧ ∃ n98 : Int, w93.cell? ⟨w40.heap.size, 2, none⟩ = some (.int .i64 n98) ∧ CallW Try.prog 86 #[.agg #[.int .i64 n94, .slice l95.a l95.len l95.cap, .slice l96.a l96.len l96.cap, .slice l97.a l97.len l97.cap], .int .i64 n98] w93 fun v99 w100 => ∃ n101 : Int, v99 = .int .i64 n101 ∧ JoinW [] (fun J102 => ∃ n128 : Int, w100.cell? ⟨w40.heap.size, 2, none⟩ = some (.int .i64 n128) ∧ JoinW [.bool] (fun J130 => BIf (decide ((n128 : Int) > 0)) (J130 (decide ((n101 : Int) ≥ 0)) w100) (J130 false w100)) (fun (b129 : Bool) w131 => JoinW [.bool] (fun J133 => BIf b129 (∃ l157 : Sl, w131.cell? ⟨w.heap.size, 2, none⟩ = some (.slice l157.a l157.len l157.cap) ∧ J133 (decide ((((l157.len : Nat) : Int) : Int) < 128)) w131) (J133 false w131)) (fun (b132 : Bool) w134 => BIf b132 (∃ n135 : Int, w134.drew.cell? ⟨w.heap.size, 0, none⟩ = some (.int .i64 n135) ∧ ∃ l136 : Sl, w134.drew.cell? ⟨w.heap.size, 1, none⟩ = some (.slice l136.a l136.len l136.cap) ∧ ∃ l137 : Sl, w134.drew.cell? ⟨w.heap.size, 2, none⟩ = some (.slice l137.a l137.len l137.cap) ∧ ∃ l138 : Sl, w134.drew.cell? ⟨w.heap.size, 3, none⟩ = some (.slice l138.a l138.len l138.cap) ∧ ∃ n139 : Int, w134.drew.cell? ⟨w1.heap.size, 1, none⟩ = some (.int .i64 n139) ∧ ∃ l140 : Sl, w134.drew.cell? ⟨w.heap.size, 2, none⟩ = some (.slice l140.a l140.len l140.cap) ∧ 0 ≤ (n101 : Int) ∧ (n101 : Int) < ((l140.len : Nat) : Int) ∧ ∃ q141 : Addr, (l140.a : Option Addr) = some q141 ∧ ∃ n142 : Int, w134.drew.cell? ((q141.add (Int.toNat n101 * 5)).add 2) = some (.int .i64 n142) ∧ ∃ l143 : Sl, w134.drew.cell? ⟨w.heap.size, 2, none⟩ = some (.slice l143.a l143.len l143.cap) ∧ 0 ≤ (n101 : Int) ∧ (n101 : Int) < ((l143.len : Nat) : Int) ∧ ∃ q144 : Addr, (l143.a : Option Addr) = some q144 ∧ ∃ n145 : Int, w134.drew.cell? ((q144.add (Int.toNat n101 * 5)).add 3) = some (.int .i64 n145) ∧ ∃ n146 : Int, w134.drew.cell? ⟨w40.heap.size, 2, none⟩ = some (.int .i64 n146) ∧ CallW Try.prog 96 #[.agg #[.int .i64 n135, .slice l136.a l136.len l136.cap, .slice l137.a l137.len l137.cap, .slice l138.a l138.len l138.cap], .int .i64 n139, .int .i64 n142, .int .i64 n145, .int .i64 n146] w134.drew fun v147 w148 => ∃ n149 : Int, ∃ l150 : Sl, ∃ l151 : Sl, ∃ l152 : Sl, v147 = .agg #[.int .i64 n149, .slice l150.a l150.len l150.cap, .slice l151.a l151.len l151.cap, .slice l152.a l152.len l152.cap] ∧ MayN w148 ⟨w.heap.size, 0, none⟩ 4 ∧ LetW (puts w148 ⟨w.heap.size, 0, none⟩ 0 [.int .i64 n149, .slice l150.a l150.len l150.cap, .slice l151.a l151.len l151.cap, .slice l152.a l152.len l152.cap]) fun w153 => ∃ n154 : Int, w153.cell? ⟨w.heap.size, 0, none⟩ = some (.int .i64 n154) ∧ addrOf (some (.pointer p91)) fun p155 => May w153 (p155.add 1) ∧ LetW (w153.setCell (p155.add 1) (.int .i64 n154)) fun w156 => J102 w156) (J102 w134)))) (fun w103 => ∃ n104 : Int, w103.drew.cell? ⟨w.heap.size, 0, none⟩ = some (.int .i64 n104) ∧ ∃ l105 : Sl, w103.drew.cell? ⟨w.heap.size, 1, none⟩ = some (.slice l105.a l105.len l105.cap) ∧ ∃ l106 : Sl, w103.drew.cell? ⟨w.heap.size, 2, none⟩ = some (.slice l106.a l106.len l106.cap) ∧ ∃ l107 : Sl, w103.drew.cell? ⟨w.heap.size, 3, none⟩ = some (.slice l107.a l107.len l107.cap) ∧ addrOf (some (.pointer p91)) fun p108 => ∃ n109 : Int, w103.drew.cell? (p108.add 0) = some (.int .i64 n109) ∧ ∃ n110 : Int, w103.drew.cell? (p108.add 1) = some (.int .i64 n110) ∧ ∃ l111 : Sl, w103.drew.cell? (p108.add 2) = some (.slice l111.a l111.len l111.cap) ∧ ∃ n112 : Int, w103.drew.cell? (p108.add 3) = some (.int .i64 n112) ∧ MayN w103.drew ⟨w3.heap.size, 0, none⟩ 4 ∧ LetW (puts w103.drew ⟨w3.heap.size, 0, none⟩ 0 [.int .i64 n104, .slice l105.a l105.len l105.cap, .slice l106.a l106.len l106.cap, .slice l107.a l107.len l107.cap]) fun w113 => (addrOf (some (.pointer p91)) fun p114 => ∃ n115 : Int, w113.cell? (p114.add 0) = some (.int .i64 n115) ∧ ∃ n116 : Int, w113.cell? (p114.add 1) = some (.int .i64 n116) ∧ ∃ l117 : Sl, w113.cell? (p114.add 2) = some (.slice l117.a l117.len l117.cap) ∧ ∃ n118 : Int, w113.cell? (p114.add 3) = some (.int .i64 n118) ∧ (.agg #[.int .i64 n115, .int .i64 n116, .slice l117.a l117.len l117.cap, .int .i64 n118] : Value) = (.agg #[.int .i64 n109, .int .i64 n110, .slice l111.a l111.len l111.cap, .int .i64 n112] : Value)) ∧ MayN w113 ⟨w4.heap.size, 0, none⟩ 4 ∧ LetW (puts w113 ⟨w4.heap.size, 0, none⟩ 0 [.int .i64 n109, .int .i64 n110, .slice l111.a l111.len l111.cap, .int .i64 n112]) fun w119 => ∃ n120 : Int, w119.cell? ⟨w3.heap.size, 0, none⟩ = some (.int .i64 n120) ∧ ∃ l121 : Sl, w119.cell? ⟨w3.heap.size, 1, none⟩ = some (.slice l121.a l121.len l121.cap) ∧ ∃ l122 : Sl, w119.cell? ⟨w3.heap.size, 2, none⟩ = some (.slice l122.a l122.len l122.cap) ∧ ∃ l123 : Sl, w119.cell? ⟨w3.heap.size, 3, none⟩ = some (.slice l123.a l123.len l123.cap) ∧ ∃ n124 : Int, w119.cell? ⟨w4.heap.size, 0, none⟩ = some (.int .i64 n124) ∧ ∃ n125 : Int, w119.cell? ⟨w4.heap.size, 1, none⟩ = some (.int .i64 n125) ∧ ∃ l126 : Sl, w119.cell? ⟨w4.heap.size, 2, none⟩ = some (.slice l126.a l126.len l126.cap) ∧ ∃ n127 : Int, w119.cell? ⟨w4.heap.size, 3, none⟩ = some (.int .i64 n127) ∧ K (.tuple #[.agg #[.int .i64 n120, .slice l121.a l121.len l121.cap, .slice l122.a l122.len l122.cap, .slice l123.a l123.len l123.cap], .agg #[.int .i64 n124, .int .i64 n125, .slice l126.a l126.len l126.cap, .int .i64 n127]]) w119))))
theorem eq118 (a0_0 : Int) (a0_1 : Sl) (a0_2 : Sl) (a0_3 : Sl) (a1_0 : Int) (a1_1 : Int) (a1_2 : Int) (a1_3 : Int) (a1_4 : Int) (a1_5 : Int) (a1_6 : Int) (a1_7 : Sl) (a2_0 : Int) (a2_1 : Int) (a2_2 : Int) (a2_3 : Int) (a2_4 : Int) (w : World) (K : Value → World → Prop) : denFn Try.prog tt Try.f118 an118 [.agg #[.int .i64 a0_0, .slice a0_1.a a0_1.len a0_1.cap, .slice a0_2.a a0_2.len a0_2.cap, .slice a0_3.a a0_3.len a0_3.cap], .agg #[.int .i64 a1_0, .int .i64 a1_1, .int .i64 a1_2, .int .i64 a1_3, .int .i64 a1_4, .int .i64 a1_5, .int .i64 a1_6, .slice a1_7.a a1_7.len a1_7.cap], .agg #[.int .i64 a2_0, .int .i64 a2_1, .int .i64 a2_2, .int .i64 a2_3, .int .i64 a2_4]] w K = W118 a0_0 a0_1 a0_2 a0_3 a1_0 a1_1 a1_2 a1_3 a1_4 a1_5 a1_6 a1_7 a2_0 a2_1 a2_2 a2_3 a2_4 w K := by kernel_rfl
theorem ok118 : OkFn Try.prog 118 := ⟨Try.f118, Try.func118, by kernel_rfl, by kernel_rfl⟩
theorem go118 {a0_0 : Int} {a0_1 : Sl} {a0_2 : Sl} {a0_3 : Sl} {a1_0 : Int} {a1_1 : Int} {a1_2 : Int} {a1_3 : Int} {a1_4 : Int} {a1_5 : Int} {a1_6 : Int} {a1_7 : Sl} {a2_0 : Int} {a2_1 : Int} {a2_2 : Int} {a2_3 : Int} {a2_4 : Int} {w : World} {K : Value → World → Prop} (h : W118 a0_0 a0_1 a0_2 a0_3 a1_0 a1_1 a1_2 a1_3 a1_4 a1_5 a1_6 a1_7 a2_0 a2_1 a2_2 a2_3 a2_4 w K) : CallW Try.prog 118 #[.agg #[.int .i64 a0_0, .slice a0_1.a a0_1.len a0_1.cap, .slice a0_2.a a0_2.len a0_2.cap, .slice a0_3.a a0_3.len a0_3.cap], .agg #[.int .i64 a1_0, .int .i64 a1_1, .int .i64 a1_2, .int .i64 a1_3, .int .i64 a1_4, .int .i64 a1_5, .int .i64 a1_6, .slice a1_7.a a1_7.len a1_7.cap], .agg #[.int .i64 a2_0, .int .i64 a2_1, .int .i64 a2_2, .int .i64 a2_3, .int .i64 a2_4]] w K :=
  .inl ⟨ok118, denFn_sound tt_ok mix Try.func118 (by kernel_rfl) (eq118 a0_0 a0_1 a0_2 a0_3 a1_0 a1_1 a1_2 a1_3 a1_4 a1_5 a1_6 a1_7 a2_0 a2_1 a2_2 a2_3 a2_4 w K ▸ h)⟩

/- loop.example/g00008/spec.l1Some -/
def an119 : Ann := (.seq .leaf (.seq .leaf (.seq (.seq .leaf (.in_ (.loop 3 [(5, .slice), (6, .int .i64)] (.seq (.seq .leaf (.cond .leaf .leaf)) (.seq (.in_ (.seq .leaf .leaf)) .leaf))))) (.seq .leaf .leaf))))
def W119 (a0 : Option Addr) (a1 : Int) (w : World) (K : Value → World → Prop) : Prop :=
  LetW (w.alloc (.cells #[] 5)) fun w1 => LoopW [.slice, .int .i64] (fun J4 => fun (l2 : Sl) (n3 : Int) w5 => BIf (decide ((n3 : Int) < a1)) (CallW Try.prog 102 #[.pointer a0] w5 fun v6 w7 => ∃ n8 : Int, v6 = .int .i64 n8 ∧ LetW (w7.alloc (.cells #[.int .u8 (IntKind.wrap .u8 n8)] 5)) fun w9 => AppendW 5 ti5 l2 ⟨some ⟨w7.heap.size, 0, none⟩, 1, 1⟩ w9 fun l10 w11 => J4 l10 (IntKind.wrap .i64 (n3 + 1)) w11) (K (.slice l2.a l2.len l2.cap) w5)) ((⟨some ⟨w.heap.size, 0, none⟩, 0, 0⟩ : Sl), ((0 : Int), ())) w1
theorem eq119 (a0 : Option Addr) (a1 : Int) (w : World) (K : Value → World → Prop) : denFn Try.prog tt Try.f119 an119 [.pointer a0, .int .i64 a1] w K = W119 a0 a1 w K := by kernel_rfl
theorem ok119 : OkFn Try.prog 119 := ⟨Try.f119, Try.func119, by kernel_rfl, by kernel_rfl⟩
theorem go119 {a0 : Option Addr} {a1 : Int} {w : World} {K : Value → World → Prop} (h : W119 a0 a1 w K) : CallW Try.prog 119 #[.pointer a0, .int .i64 a1] w K :=
  .inl ⟨ok119, denFn_sound tt_ok mix Try.func119 (by kernel_rfl) (eq119 a0 a1 w K ▸ h)⟩

/- (*loop.example/g00008/impl.Ipc).dropCap$1 -/
def an120 : Ann := (.seq .leaf (.seq .leaf .leaf))
def W120 (a0_0 : Int) (a0_1 : Int) (a0_2 : Int) (a0_3 : Int) (a0_4 : Int) (c0 : Addr) (w : World) (K : Value → World → Prop) : Prop :=
  LetW (w.alloc (.cells #[.int .i64 a0_0, .int .i64 a0_1, .int .i64 a0_2, .int .i64 a0_3, .int .i64 a0_4] 67)) fun w1 => ∃ n2 : Int, w1.cell? ⟨w.heap.size, 0, none⟩ = some (.int .i64 n2) ∧ ∃ n3 : Int, w1.cell? c0 = some (.int .i64 n3) ∧ K (.bool ((n2 : Int) != n3)) w1
theorem eq120 (a0_0 : Int) (a0_1 : Int) (a0_2 : Int) (a0_3 : Int) (a0_4 : Int) (c0 : Addr) (w : World) (K : Value → World → Prop) : denFn Try.prog tt Try.f120 an120 [.agg #[.int .i64 a0_0, .int .i64 a0_1, .int .i64 a0_2, .int .i64 a0_3, .int .i64 a0_4], .pointer (some c0)] w K = W120 a0_0 a0_1 a0_2 a0_3 a0_4 c0 w K := by kernel_rfl
theorem ok120 : OkFn Try.prog 120 := ⟨Try.f120, Try.func120, by kernel_rfl, by kernel_rfl⟩
theorem go120 {a0_0 : Int} {a0_1 : Int} {a0_2 : Int} {a0_3 : Int} {a0_4 : Int} {c0 : Addr} {w : World} {K : Value → World → Prop} (h : W120 a0_0 a0_1 a0_2 a0_3 a0_4 c0 w K) : CallW Try.prog 120 #[.agg #[.int .i64 a0_0, .int .i64 a0_1, .int .i64 a0_2, .int .i64 a0_3, .int .i64 a0_4], .pointer (some c0)] w K :=
  .inl ⟨ok120, denFn_sound tt_ok mix Try.func120 (by kernel_rfl) (eq120 a0_0 a0_1 a0_2 a0_3 a0_4 c0 w K ▸ h)⟩

end Go.Proofs.Ytbimoajgofcmbaa

/- The types of the laws' parameters, as values of Lean's. Conditions: none. -/
set_option linter.unusedVariables false
set_option maxRecDepth 100000
namespace Go.Proofs.Ytbimoajgofcmbaa
open Go Go.Den
theorem o5 : Opens Try.prog 5 (cInt .u8) := opens_int Try.underlying5
theorem o57 : Opens Try.prog 57 (cSlice (cInt .u8)) := opens_slice Try.underlying57 (by kernel_rfl) o5
structure DMsg where
  From : Int
  Data : List Int
  Cap : Int
structure DPort where
  Id : Int
  Queue : List DMsg
structure DCap where
  Id : Int
  Holder : Int
  Port : Int
  Rights : Int
  Parent : Int
def DCap.cells (x : DCap) : List Value := [.int .i64 x.Id, .int .i64 x.Holder, .int .i64 x.Port, .int .i64 x.Rights, .int .i64 x.Parent]
structure DPipe where
  Id : Int
  Readers : Int
  Writers : Int
  Data : List Int
structure DIpc where
  Next : Int
  Ports : List DPort
  Caps : List DCap
  Pipes : List DPipe
structure DIpcOp where
  Kind : Int
  Holder : Int
  Id : Int
  To : Int
  Rights : Int
  Cap : Int
  N : Int
  Data : List Int
structure DIpcRes where
  Code : Int
  N : Int
  Data : List Int
  From : Int
end Go.Proofs.Ytbimoajgofcmbaa

/- The law's own functions over trees: copies, sizes, comparisons, marks; printed by a program. Conditions: none. -/
set_option linter.unusedVariables false
set_option linter.unusedSimpArgs false
set_option maxRecDepth 4000
namespace Go.Proofs.Ytbimoajgofcmbaa
open Go Go.Den
/- szByteS -/
/- szMsg -/
/- szMsgS -/
/- szPort -/
/- szPortS -/
/- szCapS -/
/- szPipe -/
/- szPipeS -/
/- szIpc -/
/- toByteS -/
/- toMsg -/
/- toMsgS -/
/- toPort -/
/- toPortS -/
/- toCap -/
/- toCapS -/
/- toPipe -/
/- toPipeS -/
/- toIpc -/
/- eqCap -/
/- eqCapS -/
/- eqByteS -/
/- eqMsg -/
/- eqMsgS -/
/- eqPort -/
/- eqPortS -/
/- eqPipe -/
/- eqPipeS -/
/- eqIpc -/
/- markCapS -/
/- markByteS -/
/- markMsgS -/
/- markPortS -/
/- markPipeS -/
/- markIpc -/
/- heldCapS -/
/- eqInt64S -/
/- markInt64S -/
/- heldInt64S -/
end Go.Proofs.Ytbimoajgofcmbaa

/- Ports and capabilities: the state in memory, look-ups, both sides. Conditions: none. -/
set_option linter.unusedVariables false
set_option linter.unusedSimpArgs false
namespace Go.Proofs.Ytbimoajgofcmbaa
open Go Go.Den
structure MsgsAt (w : World) (s : Sl) (ms : List DMsg) : Prop where
  len : s.len = ms.length
  get : ∀ i x, ms[i]? = some x → ∃ (q : Addr) (t : Sl), s.a = some q ∧ w.cell? ((q.add (i * 3)).add 0) = some (.int .i64 x.From) ∧ w.cell? ((q.add (i * 3)).add 1) = some (.slice t.a t.len t.cap) ∧ w.cell? ((q.add (i * 3)).add 2) = some (.int .i64 x.Cap) ∧ ByAt w t x.Data
theorem MsgsAt.ext {w w' : World} {s : Sl} {ms : List DMsg} (h : MsgsAt w s ms) (e : Ext w w') : MsgsAt w' s ms :=
  ⟨h.len, fun i x hx => by obtain ⟨q, t, h1, h2, h3, h4, h5⟩ := h.get i x hx; exact ⟨q, t, h1, e.cell h2, e.cell h3, e.cell h4, h5.ext e⟩⟩
structure PortsAt (w : World) (s : Sl) (ps : List DPort) : Prop where
  len : s.len = ps.length
  get : ∀ i x, ps[i]? = some x → ∃ (q : Addr) (t : Sl), s.a = some q ∧ w.cell? ((q.add (i * 2)).add 0) = some (.int .i64 x.Id) ∧ w.cell? ((q.add (i * 2)).add 1) = some (.slice t.a t.len t.cap) ∧ MsgsAt w t x.Queue
theorem PortsAt.ext {w w' : World} {s : Sl} {ms : List DPort} (h : PortsAt w s ms) (e : Ext w w') : PortsAt w' s ms :=
  ⟨h.len, fun i x hx => by obtain ⟨q, t, h1, h2, h3, h4⟩ := h.get i x hx; exact ⟨q, t, h1, e.cell h2, e.cell h3, h4.ext e⟩⟩
structure PipesAt (w : World) (s : Sl) (ps : List DPipe) : Prop where
  len : s.len = ps.length
  get : ∀ i x, ps[i]? = some x → ∃ (q : Addr) (t : Sl), s.a = some q ∧ w.cell? ((q.add (i * 4)).add 0) = some (.int .i64 x.Id) ∧ w.cell? ((q.add (i * 4)).add 1) = some (.int .i64 x.Readers) ∧ w.cell? ((q.add (i * 4)).add 2) = some (.int .i64 x.Writers) ∧ w.cell? ((q.add (i * 4)).add 3) = some (.slice t.a t.len t.cap) ∧ ByAt w t x.Data
theorem PipesAt.ext {w w' : World} {s : Sl} {ms : List DPipe} (h : PipesAt w s ms) (e : Ext w w') : PipesAt w' s ms :=
  ⟨h.len, fun i x hx => by obtain ⟨q, t, h1, h2, h3, h4, h5, h6⟩ := h.get i x hx; exact ⟨q, t, h1, e.cell h2, e.cell h3, e.cell h4, e.cell h5, h6.ext e⟩⟩
structure IpcAt (w : World) (sp sc sq : Sl) (d : DIpc) : Prop where
  caps : RecsAt w sc 5 DCap.cells d.Caps
  ports : PortsAt w sp d.Ports
  pipes : PipesAt w sq d.Pipes
  few : d.Ports.length ≤ 1099511627776 ∧ d.Pipes.length ≤ 1099511627776
theorem IpcAt.ext {w w' : World} {sp sc sq : Sl} {d : DIpc} (h : IpcAt w sp sc sq d) (e : Ext w w') : IpcAt w' sp sc sq d := ⟨h.caps.ext e, h.ports.ext e, h.pipes.ext e, h.few⟩
def ipcV (n : Int) (sp sc sq : Sl) : List Value := [.int .i64 n, .slice sp.a sp.len sp.cap, .slice sc.a sc.len sc.cap, .slice sq.a sq.len sq.cap]
def capIx (d : DIpc) (id : Int) : Int := idxFrom (fun c : DCap => c.Id == id) d.Caps 0
def portIx (d : DIpc) (id : Int) : Int := idxFrom (fun c : DPort => c.Id == id) d.Ports 0
def pipeIx (d : DIpc) (id : Int) : Int := idxFrom (fun c : DPipe => c.Id == id) d.Pipes 0
theorem c49 {n : Int} {w : World} : CallW Try.prog 49 #[.int .i64 n] w (fun v w' => v = .bool (decide (n ≥ 0) && decide (n ≤ 1099511627776)) ∧ w' = w) := by
  refine go49 ?_
  unfold W49
  simp only [join_and]
  exact ⟨by trivial, by trivial⟩
theorem c84 {n : Int} {w : World} : CallW Try.prog 84 #[.int .i64 n] w (fun v w' => v = .bool (decide (n ≥ 0) && decide (n < 64)) ∧ w' = w) := by
  refine go84 ?_
  unfold W84
  simp only [join_and]
  exact ⟨by trivial, by trivial⟩
theorem c57 {n : Int} {w : World} : CallW Try.prog 57 #[.int .i64 n] w (fun v w' => v = .bool (decide (n ≥ 0) && decide (n < 64)) ∧ w' = w) := by
  refine go57 ?_
  unfold W57
  simp only [join_and]
  exact ⟨by trivial, by trivial⟩
/-! ## The reference's look-ups -/
theorem c86 {n id : Int} {sp sc sq : Sl} {d : DIpc} {w : World} (hd : IpcAt w sp sc sq d) : CallW Try.prog 86 #[.agg #[.int .i64 n, .slice sp.a sp.len sp.cap, .slice sc.a sc.len sc.cap, .slice sq.a sq.len sq.cap], .int .i64 id] w (fun v w' => v = .int .i64 (capIx d id) ∧ Ext w w') := by
  refine go86 ?_
  unfold W86
  have h := SH.start w
  have hl := hd.caps.len
  have hf := hd.caps.few
  refine h.alloc (fun w1 h ew1 nw1 => ?_)
  refine LoopW.m1 (fun (i : Int) w' => ∃ k : Nat, i = k ∧ k ≤ d.Caps.length ∧ (∀ j y, j < k → d.Caps[j]? = some y → (y.Id == id) = false) ∧ SH w w' [aB w.heap.size ((ipcV n sp sc sq).map Ce.v)]) (fun (i : Int) _ => ((d.Caps.length : Int) - i).toNat) ⟨0, rfl, by omega, (fun j y hj => by omega), h⟩ ?_
  rintro (i : Int) w4 ⟨k, rfl, hk, hno, h⟩ J hJ
  refine ⟨sc, h.cell 0 rfl rfl, ?_⟩
  rw [hl]
  refine BIf.dec (fun hlt => ?_) (fun hge => ?_)
  · obtain ⟨x, hx⟩ : ∃ x, d.Caps[k]? = some x := ⟨_, List.getElem?_eq_getElem (by omega)⟩
    obtain ⟨q, hq, hc⟩ := (hd.caps.ext h.ext).get (by omega) hx
    refine ⟨sc, h.cell 0 rfl rfl, by omega, by omega, q, hq, _, hc 0 _ rfl, ?_⟩
    refine BIf.eq (fun he => ?_) (fun he => ?_)
    · exact ⟨by unfold capIx; rw [idx_at hx (by simpa using he) hno], h.ext⟩
    · rw [w64 (by omega) (by omega)]
      refine hJ _ _ ⟨k + 1, by omega, by omega, fun j y hj hy => ?_, h⟩ (by omega)
      by_cases hjk : j = k
      · subst hjk; rw [hx] at hy; cases hy; simpa using he
      · exact hno j y (by omega) hy
  · refine ⟨by unfold capIx; rw [idx_no (fun j y hy => hno j y (by have := (List.getElem?_eq_some_iff.1 hy).1; omega) hy)], h.ext⟩
theorem c85 {n id : Int} {sp sc sq : Sl} {d : DIpc} {w : World} (hd : IpcAt w sp sc sq d) : CallW Try.prog 85 #[.agg #[.int .i64 n, .slice sp.a sp.len sp.cap, .slice sc.a sc.len sc.cap, .slice sq.a sq.len sq.cap], .int .i64 id] w (fun v w' => v = .int .i64 (portIx d id) ∧ Ext w w') := by
  refine go85 ?_
  unfold W85
  have h := SH.start w
  have hl := hd.ports.len
  have hf := hd.few
  refine h.alloc (fun w1 h ew1 nw1 => ?_)
  refine LoopW.m1 (fun (i : Int) w' => ∃ k : Nat, i = k ∧ k ≤ d.Ports.length ∧ (∀ j y, j < k → d.Ports[j]? = some y → (y.Id == id) = false) ∧ SH w w' [aB w.heap.size ((ipcV n sp sc sq).map Ce.v)]) (fun (i : Int) _ => ((d.Ports.length : Int) - i).toNat) ⟨0, rfl, by omega, (fun j y hj => by omega), h⟩ ?_
  rintro (i : Int) w4 ⟨k, rfl, hk, hno, h⟩ J hJ
  refine ⟨sp, h.cell 0 rfl rfl, ?_⟩
  rw [hl]
  refine BIf.dec (fun hlt => ?_) (fun hge => ?_)
  · obtain ⟨x, hx⟩ : ∃ x, d.Ports[k]? = some x := ⟨_, List.getElem?_eq_getElem (by omega)⟩
    obtain ⟨q, t, hq, hc, _⟩ := (hd.ports.ext h.ext).get k x hx
    refine ⟨sp, h.cell 0 rfl rfl, by omega, by omega, q, hq, _, hc, ?_⟩
    refine BIf.eq (fun he => ?_) (fun he => ?_)
    · exact ⟨by unfold portIx; rw [idx_at hx (by simpa using he) hno], h.ext⟩
    · rw [w64 (by omega) (by omega)]
      refine hJ _ _ ⟨k + 1, by omega, by omega, fun j y hj hy => ?_, h⟩ (by omega)
      by_cases hjk : j = k
      · subst hjk; rw [hx] at hy; cases hy; simpa using he
      · exact hno j y (by omega) hy
  · refine ⟨by unfold portIx; rw [idx_no (fun j y hy => hno j y (by have := (List.getElem?_eq_some_iff.1 hy).1; omega) hy)], h.ext⟩
theorem c88 {n id : Int} {sp sc sq : Sl} {d : DIpc} {w : World} (hd : IpcAt w sp sc sq d) : CallW Try.prog 88 #[.agg #[.int .i64 n, .slice sp.a sp.len sp.cap, .slice sc.a sc.len sc.cap, .slice sq.a sq.len sq.cap], .int .i64 id] w (fun v w' => v = .int .i64 (pipeIx d id) ∧ Ext w w') := by
  refine go88 ?_
  unfold W88
  have h := SH.start w
  have hl := hd.pipes.len
  have hf := hd.few
  refine h.alloc (fun w1 h ew1 nw1 => ?_)
  refine LoopW.m1 (fun (i : Int) w' => ∃ k : Nat, i = k ∧ k ≤ d.Pipes.length ∧ (∀ j y, j < k → d.Pipes[j]? = some y → (y.Id == id) = false) ∧ SH w w' [aB w.heap.size ((ipcV n sp sc sq).map Ce.v)]) (fun (i : Int) _ => ((d.Pipes.length : Int) - i).toNat) ⟨0, rfl, by omega, (fun j y hj => by omega), h⟩ ?_
  rintro (i : Int) w4 ⟨k, rfl, hk, hno, h⟩ J hJ
  refine ⟨sq, h.cell 0 rfl rfl, ?_⟩
  rw [hl]
  refine BIf.dec (fun hlt => ?_) (fun hge => ?_)
  · obtain ⟨x, hx⟩ : ∃ x, d.Pipes[k]? = some x := ⟨_, List.getElem?_eq_getElem (by omega)⟩
    obtain ⟨q, t, hq, hc, _⟩ := (hd.pipes.ext h.ext).get k x hx
    refine ⟨sq, h.cell 0 rfl rfl, by omega, by omega, q, hq, _, hc, ?_⟩
    refine BIf.eq (fun he => ?_) (fun he => ?_)
    · exact ⟨by unfold pipeIx; rw [idx_at hx (by simpa using he) hno], h.ext⟩
    · rw [w64 (by omega) (by omega)]
      refine hJ _ _ ⟨k + 1, by omega, by omega, fun j y hj hy => ?_, h⟩ (by omega)
      by_cases hjk : j = k
      · subst hjk; rw [hx] at hy; cases hy; simpa using he
      · exact hno j y (by omega) hy
  · refine ⟨by unfold pipeIx; rw [idx_no (fun j y hy => hno j y (by have := (List.getElem?_eq_some_iff.1 hy).1; omega) hy)], h.ext⟩
/-! ## The program's look-ups -/
theorem c59 {id : Int} {b : Nat} {sp sc sq : Sl} {d : DIpc} {w : World} (hc2 : w.cell? ⟨b, 2, none⟩ = some (.slice sc.a sc.len sc.cap)) (hd : IpcAt w sp sc sq d) : CallW Try.prog 59 #[.pointer (some ⟨b, 0, none⟩), .int .i64 id] w (fun v w' => v = .pointer (ptrE sc 5 (capIx d id)) ∧ w' = w) := by
  refine go59 ?_
  unfold W59
  have hl := hd.caps.len
  have hf := hd.caps.few
  refine ⟨_, rfl, sc, hc2, ?_⟩
  refine LoopW.m1 (fun (i : Int) w' => ∃ k : Nat, i = k ∧ k ≤ d.Caps.length ∧ (∀ j y, j < k → d.Caps[j]? = some y → (y.Id == id) = false) ∧ w' = w) (fun (i : Int) _ => ((d.Caps.length : Int) - i).toNat) ⟨0, rfl, by omega, (fun j y hj => by omega), rfl⟩ ?_
  rintro (i : Int) w5 ⟨k, rfl, hk, hno, rfl⟩ J hJ
  rw [hl]
  refine BIf.dec (fun hlt => ?_) (fun hge => ?_)
  · obtain ⟨x, hx⟩ : ∃ x, d.Caps[k]? = some x := ⟨_, List.getElem?_eq_getElem (by omega)⟩
    obtain ⟨q, hq, hc⟩ := hd.caps.get (by omega) hx
    refine ⟨_, rfl, sc, hc2, by omega, by omega, q, hq, _, hc 0 _ rfl, ?_⟩
    refine BIf.eq (fun he => ?_) (fun he => ?_)
    · refine ⟨_, rfl, sc, hc2, by omega, by omega, q, hq, ?_, rfl⟩
      unfold capIx; rw [idx_at hx (by simpa using he) hno, ptrE_at hq]; rfl
    · rw [w64 (by omega) (by omega)]
      refine hJ _ _ ⟨k + 1, by omega, by omega, fun j y hj hy => ?_, rfl⟩ (by omega)
      by_cases hjk : j = k
      · subst hjk; rw [hx] at hy; cases hy; simpa using he
      · exact hno j y (by omega) hy
  · refine ⟨?_, rfl⟩
    unfold capIx; rw [idx_no (fun j y hy => hno j y (by have := (List.getElem?_eq_some_iff.1 hy).1; omega) hy), ptrE_neg (by omega)]
theorem c58 {id : Int} {b : Nat} {sp sc sq : Sl} {d : DIpc} {w : World} (hc2 : w.cell? ⟨b, 1, none⟩ = some (.slice sp.a sp.len sp.cap)) (hd : IpcAt w sp sc sq d) : CallW Try.prog 58 #[.pointer (some ⟨b, 0, none⟩), .int .i64 id] w (fun v w' => v = .pointer (ptrE sp 2 (portIx d id)) ∧ w' = w) := by
  refine go58 ?_
  unfold W58
  have hl := hd.ports.len
  have hf := hd.few
  refine ⟨_, rfl, sp, hc2, ?_⟩
  refine LoopW.m1 (fun (i : Int) w' => ∃ k : Nat, i = k ∧ k ≤ d.Ports.length ∧ (∀ j y, j < k → d.Ports[j]? = some y → (y.Id == id) = false) ∧ w' = w) (fun (i : Int) _ => ((d.Ports.length : Int) - i).toNat) ⟨0, rfl, by omega, (fun j y hj => by omega), rfl⟩ ?_
  rintro (i : Int) w5 ⟨k, rfl, hk, hno, rfl⟩ J hJ
  rw [hl]
  refine BIf.dec (fun hlt => ?_) (fun hge => ?_)
  · obtain ⟨x, hx⟩ : ∃ x, d.Ports[k]? = some x := ⟨_, List.getElem?_eq_getElem (by omega)⟩
    obtain ⟨q, t, hq, hc, _⟩ := hd.ports.get k x hx
    refine ⟨_, rfl, sp, hc2, by omega, by omega, q, hq, _, hc, ?_⟩
    refine BIf.eq (fun he => ?_) (fun he => ?_)
    · refine ⟨_, rfl, sp, hc2, by omega, by omega, q, hq, ?_, rfl⟩
      unfold portIx; rw [idx_at hx (by simpa using he) hno, ptrE_at hq]; rfl
    · rw [w64 (by omega) (by omega)]
      refine hJ _ _ ⟨k + 1, by omega, by omega, fun j y hj hy => ?_, rfl⟩ (by omega)
      by_cases hjk : j = k
      · subst hjk; rw [hx] at hy; cases hy; simpa using he
      · exact hno j y (by omega) hy
  · refine ⟨?_, rfl⟩
    unfold portIx; rw [idx_no (fun j y hy => hno j y (by have := (List.getElem?_eq_some_iff.1 hy).1; omega) hy), ptrE_neg (by omega)]
/-! ## Rights -/
def amAt (x y b : Int) : Bool := (Int.tmod (IntKind.i64.wrap (x.tdiv b)) 2 == 1) && (Int.tmod (IntKind.i64.wrap (y.tdiv b)) 2 == 0)
def amongB (x y : Int) : Bool := !amAt x y 1 && !amAt x y 2 && !amAt x y 4
theorem c87 {x y : Int} {w : World} : CallW Try.prog 87 #[.int .i64 x, .int .i64 y] w (fun v w' => v = .bool (amongB x y) ∧ w' = w) := by
  refine go87 ?_
  unfold W87
  refine LoopW.m1 (fun (b : Int) w' => ((b = 1) ∨ (b = 2 ∧ amAt x y 1 = false) ∨ (b = 4 ∧ amAt x y 1 = false ∧ amAt x y 2 = false) ∨ (b = 8 ∧ amAt x y 1 = false ∧ amAt x y 2 = false ∧ amAt x y 4 = false)) ∧ w' = w) (fun (b : Int) _ => (8 - b).toNat) ⟨.inl rfl, rfl⟩ ?_
  rintro (b : Int) w3 ⟨hb, rfl⟩ J hJ
  refine BIf.dec (fun hle => ?_) (fun hgt => ?_)
  · refine ⟨by omega, by decide, ?_⟩
    refine JoinW.cut1 (fun (r : Bool) w' => r = amAt x y b ∧ w' = w3) ?_ ?_
    · unfold amAt
      refine BIf.of (fun hc => ?_) (fun hc => ?_)
      · exact ⟨by omega, by decide, by rw [hc]; simp, rfl⟩
      · exact ⟨by rw [hc]; simp, rfl⟩
    rintro (r : Bool) w6 ⟨rfl, rfl⟩
    refine BIf.of (fun hc => ?_) (fun hc => ?_)
    · refine ⟨?_, rfl⟩
      unfold amongB
      rcases hb with rfl | ⟨rfl, h1⟩ | ⟨rfl, h1, h2⟩ | ⟨rfl, _⟩
      · simp [hc]
      · simp [hc]
      · simp [hc]
      · omega
    · rw [w64 (by omega) (by omega)]
      refine hJ _ _ ⟨?_, rfl⟩ (by omega)
      rcases hb with rfl | ⟨rfl, h1⟩ | ⟨rfl, h1, h2⟩ | ⟨rfl, _⟩
      · exact .inr (.inl ⟨rfl, hc⟩)
      · exact .inr (.inr (.inl ⟨rfl, h1, hc⟩))
      · exact .inr (.inr (.inr ⟨rfl, h1, h2, hc⟩))
      · omega
  · refine ⟨?_, rfl⟩
    unfold amongB
    rcases hb with rfl | ⟨rfl, h1⟩ | ⟨rfl, h1, h2⟩ | ⟨rfl, h1, h2, h3⟩
    · omega
    · omega
    · omega
    · simp [h1, h2, h3]
theorem among_fin : ∀ x y : Fin 8, (andI .i64 ((y.val : Nat) : Int) ((x.val : Nat) : Int) != ((x.val : Nat) : Int)) = !amongB ((x.val : Nat) : Int) ((y.val : Nat) : Int) := by decide
theorem among_eq {x y : Int} (h1 : 1 ≤ x) (h2 : x ≤ 7) (h3 : 1 ≤ y) (h4 : y ≤ 7) : (andI .i64 y x != x) = !amongB x y := by
  have := among_fin ⟨x.toNat, by omega⟩ ⟨y.toNat, by omega⟩
  simp only at this
  rwa [show ((x.toNat : Nat) : Int) = x by omega, show ((y.toNat : Nat) : Int) = y by omega] at this
end Go.Proofs.Ytbimoajgofcmbaa

/- Ports and capabilities: when a state can be, the reference's side. Conditions: none. -/
set_option linter.unusedVariables false
set_option linter.unusedSimpArgs false
namespace Go.Proofs.Ytbimoajgofcmbaa
open Go Go.Den
structure ParOk (d : DIpc) (c : DCap) (k : Nat) (p : DCap) : Prop where
  ix : capIx d c.Parent = k
  at_ : d.Caps[k]? = some p
  lt : c.Parent < c.Id
  port : p.Port = c.Port
  am : amongB c.Rights p.Rights = true
structure CapOk (d : DIpc) (i : Nat) (c : DCap) : Prop where
  id1 : 1 ≤ c.Id
  idN : c.Id ≤ d.Next
  sorted : ∀ z, 0 < i → d.Caps[i - 1]? = some z → z.Id < c.Id
  hold : 0 ≤ c.Holder ∧ c.Holder < 64
  r1 : 1 ≤ c.Rights
  r7 : c.Rights ≤ 7
  port : 0 ≤ portIx d c.Port
  par : c.Parent = 0 ∨ ∃ k p, ParOk d c k p
def MsgOk (d : DIpc) (m : DMsg) : Prop := 0 ≤ m.From ∧ m.From < 64 ∧ m.Data.length ≤ 64 ∧ 0 ≤ m.Cap ∧ m.Cap ≤ d.Next
structure PortOk (d : DIpc) (i : Nat) (p : DPort) : Prop where
  id1 : 1 ≤ p.Id
  idN : p.Id ≤ d.Next
  sorted : ∀ z, 0 < i → d.Ports[i - 1]? = some z → z.Id < p.Id
  few : p.Queue.length ≤ 8
  noCap : capIx d p.Id < 0
  noPipe : pipeIx d p.Id < 0
  msgs : ∀ m, m ∈ p.Queue → MsgOk d m
  some_ : ∃ c, c ∈ d.Caps ∧ c.Port = p.Id
structure PipeOk (d : DIpc) (i : Nat) (p : DPipe) : Prop where
  id1 : 1 ≤ p.Id
  idN : p.Id ≤ d.Next
  sorted : ∀ z, 0 < i → d.Pipes[i - 1]? = some z → z.Id < p.Id
  noCap : capIx d p.Id < 0
  few : p.Data.length ≤ 512
  r : 0 ≤ p.Readers ∧ p.Readers ≤ 64
  w : 0 ≤ p.Writers ∧ p.Writers ≤ 64
  pos : 0 < p.Readers + p.Writers
structure IOk (d : DIpc) : Prop where
  next : 0 ≤ d.Next ∧ d.Next ≤ 1099511627776
  caps : d.Caps.length ≤ 128
  ports : d.Ports.length ≤ 32
  pipes : d.Pipes.length ≤ 32
  cap : ∀ i c, d.Caps[i]? = some c → CapOk d i c
  port : ∀ i p, d.Ports[i]? = some p → PortOk d i p
  pipe : ∀ i p, d.Pipes[i]? = some p → PipeOk d i p
def KB (P : Prop) (w : World) (v : Value) (w' : World) : Prop := ∃ b, v = .bool b ∧ (b = true ↔ P) ∧ Ext w w'
theorem kb_f {P : Prop} {w w' : World} (h : ¬ P) (e : Ext w w') : KB P w (.bool false) w' := ⟨false, rfl, ⟨(fun h => by cases h), fun hp => absurd hp h⟩, e⟩
theorem kb_t {P : Prop} {w w' : World} (h : P) (e : Ext w w') : KB P w (.bool true) w' := ⟨true, rfl, ⟨fun _ => h, fun _ => rfl⟩, e⟩
theorem idx_get {α : Type} {p : α → Bool} {l : List α} (h : 0 ≤ idxFrom p l 0) : ∃ (k : Nat) (x : α), idxFrom p l 0 = k ∧ l[k]? = some x ∧ p x = true := by
  rcases idx_cases p l with ⟨h1, _⟩ | ⟨k, x, h1, h2, h3, _⟩
  · omega
  · exact ⟨k, x, h1, h2, h3⟩
theorem c50 {n : Int} {i : Nat} {sp sc sq : Sl} {d : DIpc} {c : DCap} {w : World} (hd : IpcAt w sp sc sq d) (hn : n = d.Next) (hx : d.Caps[i]? = some c) : CallW Try.prog 50 #[.agg #[.int .i64 n, .slice sp.a sp.len sp.cap, .slice sc.a sc.len sc.cap, .slice sq.a sq.len sq.cap], .int .i64 (i : Int)] w (KB (CapOk d i c) w) := by
  refine go50 ?_
  unfold W50
  have h := SH.start w
  have hl := hd.caps.len
  have hf := hd.caps.few
  have hil := (List.getElem?_eq_some_iff.1 hx).1
  obtain ⟨q, hq, hc⟩ := hd.caps.get (by omega) hx
  refine h.alloc (fun w1 h ew1 nw1 => ?_)
  refine ⟨sc, h.cell 0 rfl rfl, by omega, by omega, q, hq, ?_⟩
  rw [Int.toNat_natCast]
  refine ⟨_, h.ext.cell (hc 0 _ rfl), _, h.ext.cell (hc 1 _ rfl), _, h.ext.cell (hc 2 _ rfl), _, h.ext.cell (hc 3 _ rfl), _, h.ext.cell (hc 4 _ rfl), ?_⟩
  refine h.alloc (fun w9 h ew9 nw9 => ?_)
  refine h.put 0 rfl rfl rfl (fun w10 h nw10 => ?_)
  generalize w1.heap.size = cb at *
  have h := h.drew
  subst hn
  obtain ⟨J, hJJ⟩ : ∃ J : Bool → World → Prop, J = fun b w' => (b = false ↔ (1 ≤ c.Id ∧ c.Id ≤ d.Next ∧ (∀ z, 0 < i → d.Caps[i - 1]? = some z → z.Id < c.Id) ∧ (0 ≤ c.Holder ∧ c.Holder < 64) ∧ 1 ≤ c.Rights ∧ c.Rights ≤ 7 ∧ 0 ≤ portIx d c.Port)) ∧ SH w w' [aB cb (c.cells.map Ce.v), aB w.heap.size ((ipcV d.Next sp sc sq).map Ce.v)] := ⟨_, rfl⟩
  have mkJ : ∀ b w', (b = false ↔ (1 ≤ c.Id ∧ c.Id ≤ d.Next ∧ (∀ z, 0 < i → d.Caps[i - 1]? = some z → z.Id < c.Id) ∧ (0 ≤ c.Holder ∧ c.Holder < 64) ∧ 1 ≤ c.Rights ∧ c.Rights ≤ 7 ∧ 0 ≤ portIx d c.Port)) → SH w w' [aB cb (c.cells.map Ce.v), aB w.heap.size ((ipcV d.Next sp sc sq).map Ce.v)] → J b w' := fun b w' h1 h2 => by rw [hJJ]; exact ⟨h1, h2⟩
  refine JoinW.cut1 J ?_ ?_
  · refine ⟨_, h.cell 0 rfl rfl, BIf.dec (fun hb => mkJ _ _ ⟨(fun hh => by cases hh), fun hh => by omega⟩ h) (fun hb => ?_)⟩
    refine ⟨_, h.cell 0 rfl rfl, _, h.cell 1 rfl rfl, BIf.dec (fun hb2 => mkJ _ _ ⟨(fun hh => by cases hh), fun hh => by omega⟩ h) (fun hb2 => ?_)⟩
    have tail : ∀ (J : Bool → World → Prop), (∀ b w', (b = false ↔ (0 ≤ c.Holder ∧ c.Holder < 64) ∧ 1 ≤ c.Rights ∧ c.Rights ≤ 7 ∧ 0 ≤ portIx d c.Port) → SH w w' [aB cb (c.cells.map Ce.v), aB w.heap.size ((ipcV d.Next sp sc sq).map Ce.v)] → J b w') →
        ∃ n57 : Int, w10.drew.cell? ⟨cb, 1, none⟩ = some (.int .i64 n57) ∧ CallW Try.prog 84 #[.int .i64 n57] w10.drew fun v58 w59 => ∃ b60 : Bool, v58 = .bool b60 ∧ BIf (!b60) (J true w59) (∃ n61 : Int, w59.cell? ⟨cb, 3, none⟩ = some (.int .i64 n61) ∧ BIf (decide (n61 < 1)) (J true w59) (∃ n62 : Int, w59.cell? ⟨cb, 3, none⟩ = some (.int .i64 n62) ∧ BIf (decide (n62 > 7)) (J true w59) (∃ n63 : Int, w59.cell? ⟨w.heap.size, 0, none⟩ = some (.int .i64 n63) ∧ ∃ l64 : Sl, w59.cell? ⟨w.heap.size, 1, none⟩ = some (.slice l64.a l64.len l64.cap) ∧ ∃ l65 : Sl, w59.cell? ⟨w.heap.size, 2, none⟩ = some (.slice l65.a l65.len l65.cap) ∧ ∃ l66 : Sl, w59.cell? ⟨w.heap.size, 3, none⟩ = some (.slice l66.a l66.len l66.cap) ∧ ∃ n67 : Int, w59.cell? ⟨cb, 2, none⟩ = some (.int .i64 n67) ∧ CallW Try.prog 85 #[.agg #[.int .i64 n63, .slice l64.a l64.len l64.cap, .slice l65.a l65.len l65.cap, .slice l66.a l66.len l66.cap], .int .i64 n67] w59 fun v68 w69 => ∃ n70 : Int, v68 = .int .i64 n70 ∧ J (decide (n70 < 0)) w69))) := by
      intro J hJ
      refine ⟨_, h.cell 0 rfl rfl, c84.mono ?_⟩
      rintro _ w59 ⟨rfl, rfl⟩
      refine ⟨_, rfl, BIf.of (fun hb3 => hJ _ _ ⟨(fun hh => by cases hh), fun hh => ?_⟩ h) (fun hb3 => ?_)⟩
      · simp only [Bool.not_eq_true', Bool.and_eq_false_iff, decide_eq_false_iff_not] at hb3; omega
      simp only [Bool.not_eq_false', Bool.and_eq_true, decide_eq_true_eq] at hb3
      refine ⟨_, h.cell 0 rfl rfl, BIf.dec (fun hb4 => hJ _ _ ⟨(fun hh => by cases hh), fun hh => by omega⟩ h) (fun hb4 => ?_)⟩
      refine ⟨_, h.cell 0 rfl rfl, BIf.dec (fun hb5 => hJ _ _ ⟨(fun hh => by cases hh), fun hh => by omega⟩ h) (fun hb5 => ?_)⟩
      refine ⟨_, h.cell 1 rfl rfl, sp, h.cell 1 rfl rfl, sc, h.cell 1 rfl rfl, sq, h.cell 1 rfl rfl, _, h.cell 0 rfl rfl, (c85 (hd.ext h.ext)).mono ?_⟩
      rintro _ w69 ⟨rfl, e⟩
      refine ⟨_, rfl, hJ _ _ ?_ (h.to e)⟩
      rw [decide_eq_false_iff_not]; omega
    refine BIf.dec (fun hi0 => ?_) (fun hi0 => ?_)
    · obtain ⟨z, hz⟩ : ∃ z, d.Caps[i - 1]? = some z := ⟨_, List.getElem?_eq_getElem (by omega)⟩
      obtain ⟨q', hq', hc'⟩ := hd.caps.get (by omega) hz
      rw [w64 (n := (i : Int) - 1) (by omega) (by omega), show ((i : Int) - 1).toNat = i - 1 by omega]
      refine ⟨sc, h.cell 1 rfl rfl, by omega, by omega, q', hq', _, h.ext.cell (hc' 0 _ rfl), _, h.cell 0 rfl rfl, ?_⟩
      refine BIf.dec (fun hb3 => mkJ _ _ ⟨(fun hh => by cases hh), fun hh => by have := hh.2.2.1 z (by omega) hz; omega⟩ h) (fun hb3 => ?_)
      refine tail J (fun b w' hh hs => mkJ _ _ ?_ hs)
      rw [hh]
      exact ⟨fun hh => ⟨by omega, by omega, fun y _ hy => by rw [hz] at hy; cases hy; omega, hh⟩, fun hh => hh.2.2.2⟩
    · refine tail J (fun b w' hh hs => mkJ _ _ ?_ hs)
      rw [hh]
      exact ⟨fun hh => ⟨by omega, by omega, fun y hy _ => by omega, hh⟩, fun hh => hh.2.2.2⟩
  subst hJJ
  rintro (b : Bool) w13 ⟨hiff, h⟩
  refine BIf.of (fun hb => kb_f (fun hok => ?_) h.ext) (fun hb => ?_)
  · rw [hiff.2 ⟨hok.id1, hok.idN, hok.sorted, hok.hold, hok.r1, hok.r7, hok.port⟩] at hb; cases hb
  obtain ⟨g1, g2, g3, g4, g5, g6, g7⟩ := hiff.1 hb
  refine ⟨_, h.cell 0 rfl rfl, BIf.eq (fun h0 => kb_t ⟨g1, g2, g3, g4, g5, g6, g7, .inl h0⟩ h.ext) (fun h0 => ?_)⟩
  refine ⟨_, h.cell 1 rfl rfl, sp, h.cell 1 rfl rfl, sc, h.cell 1 rfl rfl, sq, h.cell 1 rfl rfl, _, h.cell 0 rfl rfl, (c86 (hd.ext h.ext)).mono ?_⟩
  rintro _ w21 ⟨rfl, e⟩
  have h := (h.to e)
  refine ⟨_, rfl, BIf.dec (fun hge => ?_) (fun hlt => ?_)⟩
  · have h := h.drew
    obtain ⟨k, p, hk, hp, _⟩ := idx_get hge
    have hk' : capIx d c.Parent = k := hk
    obtain ⟨q', hq', hc'⟩ := hd.caps.get (by omega) hp
    have hkl := (List.getElem?_eq_some_iff.1 hp).1
    rw [hk']
    have no : ∀ (hn : ∀ p', d.Caps[k]? = some p' → ¬ (c.Parent < c.Id ∧ p'.Port = c.Port ∧ amongB c.Rights p'.Rights = true)), ¬ CapOk d i c := by
      intro hn hok
      rcases hok.par with h0' | ⟨k', p', hpo⟩
      · exact h0 h0'
      · have := hpo.ix
        rw [hk'] at this
        obtain rfl : k = k' := by omega
        exact hn p' hpo.at_ ⟨hpo.lt, hpo.port, hpo.am⟩
    refine ⟨_, h.cell 0 rfl rfl, _, h.cell 0 rfl rfl, BIf.dec (fun hlt => ?_) (fun hnl => kb_f (no (fun p' _ hh => hnl hh.1)) h.ext)⟩
    refine ⟨sc, h.cell 1 rfl rfl, by omega, by omega, q', hq', _, h.ext.cell (hc' 2 _ rfl), _, h.cell 0 rfl rfl, ?_⟩
    refine BIf.eq (fun hpe => ?_) (fun hpe => kb_f (no (fun p' hp' hh => by rw [hp] at hp'; cases hp'; exact hpe hh.2.1)) h.ext)
    refine ⟨_, h.cell 0 rfl rfl, sc, h.cell 1 rfl rfl, by omega, by omega, q', hq', _, h.ext.cell (hc' 3 _ rfl), c87.mono ?_⟩
    rintro _ w34 ⟨rfl, rfl⟩
    refine ⟨_, rfl, _, rfl, ?_, h.ext⟩
    constructor
    · intro ha; exact ⟨g1, g2, g3, g4, g5, g6, g7, .inr ⟨k, p, hk', hp, hlt, hpe, ha⟩⟩
    · intro hok
      rcases hok.par with h0' | ⟨k', p', hpo⟩
      · exact absurd h0' h0
      · have := hpo.ix
        rw [hk'] at this
        obtain rfl : k = k' := by omega
        have hat := hpo.at_
        rw [hp] at hat
        cases hat
        exact hpo.am
  · refine kb_f (fun hok => ?_) h.drew.ext
    rcases hok.par with h0' | ⟨k', p', hpo⟩
    · exact h0 h0'
    · have := hpo.ix; omega
theorem c51 {n : Int} {i : Nat} {sp sc sq : Sl} {d : DIpc} {x : DPort} {w : World} (hd : IpcAt w sp sc sq d) (hn : n = d.Next) (hx : d.Ports[i]? = some x) : CallW Try.prog 51 #[.agg #[.int .i64 n, .slice sp.a sp.len sp.cap, .slice sc.a sc.len sc.cap, .slice sq.a sq.len sq.cap], .int .i64 (i : Int)] w (KB (PortOk d i x) w) := by
  refine go51 ?_
  unfold W51
  have h := SH.start w
  have hl := hd.ports.len
  have hf := hd.few
  have hcl := hd.caps.len
  have hcf := hd.caps.few
  have hil := (List.getElem?_eq_some_iff.1 hx).1
  obtain ⟨q, tq, hq, hc0, hc1, hms⟩ := hd.ports.get i x hx
  have hml := hms.len
  refine h.alloc (fun w1 h ew1 nw1 => ?_)
  refine ⟨sp, h.cell 0 rfl rfl, by omega, by omega, q, hq, ?_⟩
  rw [Int.toNat_natCast]
  refine ⟨_, h.ext.cell hc0, tq, h.ext.cell hc1, ?_⟩
  refine h.alloc (fun w6 h ew6 nw6 => ?_)
  refine h.put 0 rfl rfl rfl (fun w7 h nw7 => ?_)
  generalize w1.heap.size = cb at *
  have h := h.drew
  subst hn
  obtain ⟨J, hJJ⟩ : ∃ J : Bool → World → Prop, J = fun b w' => (b = false ↔ (1 ≤ x.Id ∧ x.Id ≤ d.Next ∧ (∀ z, 0 < i → d.Ports[i - 1]? = some z → z.Id < x.Id) ∧ x.Queue.length ≤ 8 ∧ capIx d x.Id < 0 ∧ pipeIx d x.Id < 0)) ∧ SH w w' [aB cb ([.int .i64 x.Id, .slice tq.a tq.len tq.cap].map Ce.v), aB w.heap.size ((ipcV d.Next sp sc sq).map Ce.v)] := ⟨_, rfl⟩
  have mkJ : ∀ b w', (b = false ↔ (1 ≤ x.Id ∧ x.Id ≤ d.Next ∧ (∀ z, 0 < i → d.Ports[i - 1]? = some z → z.Id < x.Id) ∧ x.Queue.length ≤ 8 ∧ capIx d x.Id < 0 ∧ pipeIx d x.Id < 0)) → SH w w' [aB cb ([.int .i64 x.Id, .slice tq.a tq.len tq.cap].map Ce.v), aB w.heap.size ((ipcV d.Next sp sc sq).map Ce.v)] → J b w' := fun b w' h1 h2 => by rw [hJJ]; exact ⟨h1, h2⟩
  refine JoinW.cut1 J ?_ ?_
  · refine ⟨_, h.cell 0 rfl rfl, BIf.dec (fun hb => mkJ _ _ ⟨(fun hh => by cases hh), fun hh => by omega⟩ h) (fun hb => ?_)⟩
    refine ⟨_, h.cell 0 rfl rfl, _, h.cell 1 rfl rfl, BIf.dec (fun hb2 => mkJ _ _ ⟨(fun hh => by cases hh), fun hh => by omega⟩ h) (fun hb2 => ?_)⟩
    have tail : ∀ (J : Bool → World → Prop), (∀ b w', (b = false ↔ x.Queue.length ≤ 8 ∧ capIx d x.Id < 0 ∧ pipeIx d x.Id < 0) → SH w w' [aB cb ([.int .i64 x.Id, .slice tq.a tq.len tq.cap].map Ce.v), aB w.heap.size ((ipcV d.Next sp sc sq).map Ce.v)] → J b w') →
        ∃ l71 : Sl, w7.drew.cell? ⟨cb, 1, none⟩ = some (.slice l71.a l71.len l71.cap) ∧ BIf (decide ((((l71.len : Nat) : Int) : Int) > 8)) (J true w7.drew) (∃ n72 : Int, w7.drew.cell? ⟨w.heap.size, 0, none⟩ = some (.int .i64 n72) ∧ ∃ l73 : Sl, w7.drew.cell? ⟨w.heap.size, 1, none⟩ = some (.slice l73.a l73.len l73.cap) ∧ ∃ l74 : Sl, w7.drew.cell? ⟨w.heap.size, 2, none⟩ = some (.slice l74.a l74.len l74.cap) ∧ ∃ l75 : Sl, w7.drew.cell? ⟨w.heap.size, 3, none⟩ = some (.slice l75.a l75.len l75.cap) ∧ ∃ n76 : Int, w7.drew.cell? ⟨cb, 0, none⟩ = some (.int .i64 n76) ∧ CallW Try.prog 86 #[.agg #[.int .i64 n72, .slice l73.a l73.len l73.cap, .slice l74.a l74.len l74.cap, .slice l75.a l75.len l75.cap], .int .i64 n76] w7.drew fun v77 w78 => ∃ n79 : Int, v77 = .int .i64 n79 ∧ BIf (decide ((n79 : Int) ≥ 0)) (J true w78) (∃ n80 : Int, w78.cell? ⟨w.heap.size, 0, none⟩ = some (.int .i64 n80) ∧ ∃ l81 : Sl, w78.cell? ⟨w.heap.size, 1, none⟩ = some (.slice l81.a l81.len l81.cap) ∧ ∃ l82 : Sl, w78.cell? ⟨w.heap.size, 2, none⟩ = some (.slice l82.a l82.len l82.cap) ∧ ∃ l83 : Sl, w78.cell? ⟨w.heap.size, 3, none⟩ = some (.slice l83.a l83.len l83.cap) ∧ ∃ n84 : Int, w78.cell? ⟨cb, 0, none⟩ = some (.int .i64 n84) ∧ CallW Try.prog 88 #[.agg #[.int .i64 n80, .slice l81.a l81.len l81.cap, .slice l82.a l82.len l82.cap, .slice l83.a l83.len l83.cap], .int .i64 n84] w78 fun v85 w86 => ∃ n87 : Int, v85 = .int .i64 n87 ∧ J (decide ((n87 : Int) ≥ 0)) w86)) := by
      intro J hJ
      refine ⟨tq, h.cell 0 rfl rfl, BIf.dec (fun hb3 => hJ _ _ ⟨(fun hh => by cases hh), fun hh => by omega⟩ h) (fun hb3 => ?_)⟩
      refine ⟨_, h.cell 1 rfl rfl, sp, h.cell 1 rfl rfl, sc, h.cell 1 rfl rfl, sq, h.cell 1 rfl rfl, _, h.cell 0 rfl rfl, (c86 (hd.ext h.ext)).mono ?_⟩
      rintro _ w78 ⟨rfl, e⟩
      have h := h.to e
      refine ⟨_, rfl, BIf.dec (fun hb4 => hJ _ _ ⟨(fun hh => by cases hh), fun hh => by omega⟩ h) (fun hb4 => ?_)⟩
      refine ⟨_, h.cell 1 rfl rfl, sp, h.cell 1 rfl rfl, sc, h.cell 1 rfl rfl, sq, h.cell 1 rfl rfl, _, h.cell 0 rfl rfl, (c88 (hd.ext h.ext)).mono ?_⟩
      rintro _ w86 ⟨rfl, e⟩
      refine ⟨_, rfl, hJ _ _ ?_ (h.to e)⟩
      rw [decide_eq_false_iff_not]; omega
    refine BIf.dec (fun hi0 => ?_) (fun hi0 => ?_)
    · obtain ⟨z, hz⟩ : ∃ z, d.Ports[i - 1]? = some z := ⟨_, List.getElem?_eq_getElem (by omega)⟩
      obtain ⟨q', _, hq', hc', _⟩ := hd.ports.get _ z hz
      rw [w64 (n := (i : Int) - 1) (by omega) (by omega), show ((i : Int) - 1).toNat = i - 1 by omega]
      refine ⟨sp, h.cell 1 rfl rfl, by omega, by omega, q', hq', _, h.ext.cell hc', _, h.cell 0 rfl rfl, ?_⟩
      refine BIf.dec (fun hb3 => mkJ _ _ ⟨(fun hh => by cases hh), fun hh => by have := hh.2.2.1 z (by omega) hz; omega⟩ h) (fun hb3 => ?_)
      refine tail J (fun b w' hh hs => mkJ _ _ ?_ hs)
      rw [hh]
      exact ⟨fun hh => ⟨by omega, by omega, fun y _ hy => by rw [hz] at hy; cases hy; omega, hh⟩, fun hh => hh.2.2.2⟩
    · refine tail J (fun b w' hh hs => mkJ _ _ ?_ hs)
      rw [hh]
      exact ⟨fun hh => ⟨by omega, by omega, fun y hy _ => by omega, hh⟩, fun hh => hh.2.2.2⟩
  subst hJJ
  rintro (b : Bool) w10 ⟨hiff, h⟩
  refine BIf.of (fun hb => kb_f (fun hok => ?_) h.ext) (fun hb => ?_)
  · rw [hiff.2 ⟨hok.id1, hok.idN, hok.sorted, hok.few, hok.noCap, hok.noPipe⟩] at hb; cases hb
  obtain ⟨g1, g2, g3, g4, g5, g6⟩ := hiff.1 hb
  refine LoopW.m1 (fun (k : Int) w' => ∃ j : Nat, k = j ∧ j ≤ x.Queue.length ∧ (∀ y, y ∈ x.Queue.take j → MsgOk d y) ∧ SH w w' [aB cb ([.int .i64 x.Id, .slice tq.a tq.len tq.cap].map Ce.v), aB w.heap.size ((ipcV d.Next sp sc sq).map Ce.v)]) (fun (k : Int) _ => ((x.Queue.length : Int) - k).toNat) ⟨0, rfl, by omega, (fun y hy => by simp at hy), h⟩ ?_
  rintro (k : Int) w13 ⟨j, rfl, hj, hall, h⟩ J hJ
  refine ⟨tq, h.cell 0 rfl rfl, ?_⟩
  rw [hml]
  refine BIf.dec (fun hlt => ?_) (fun hge => ?_)
  · obtain ⟨y, hy⟩ : ∃ y, x.Queue[j]? = some y := ⟨_, List.getElem?_eq_getElem (by omega)⟩
    obtain ⟨r, u, hr, hm0, hm1, hm2, hby⟩ := (hms.ext h.ext).get j y hy
    have hbl := hby.len
    refine ⟨tq, h.cell 0 rfl rfl, by omega, by omega, r, hr, _, hm0, u, hm1, _, hm2, ?_⟩
    refine h.alloc (fun w20 h ew20 nw20 => ?_)
    refine h.put 0 rfl rfl rfl (fun w21 h nw21 => ?_)
    generalize w13.heap.size = mb at *
    refine ⟨_, h.cell 0 rfl rfl, c84.mono ?_⟩
    rintro _ w24 ⟨rfl, rfl⟩
    refine ⟨_, rfl, ?_⟩
    refine join_or_ex u (h.cell 0 rfl rfl) ?_
    refine join_or_ex y.Cap (h.cell 0 rfl rfl) ?_
    refine JoinW.cut1 (fun (b : Bool) w' => (b = false ↔ MsgOk d y) ∧ w' = w24) ?_ ?_
    · rw [hbl]
      refine BIf.of (fun hc => ⟨⟨(fun hh => by cases hh), fun hh => ?_⟩, rfl⟩) (fun hc => ⟨_, h.cell 0 rfl rfl, _, h.cell 2 rfl rfl, ?_, rfl⟩)
      · obtain ⟨m1, m2, m3, m4, m5⟩ := hh
        simp only [Bool.or_eq_true, Bool.not_eq_true', Bool.and_eq_false_iff, decide_eq_false_iff_not, decide_eq_true_eq] at hc
        omega
      · simp only [Bool.or_eq_false_iff, Bool.not_eq_false', Bool.and_eq_true, decide_eq_false_iff_not, decide_eq_true_eq] at hc
        rw [decide_eq_false_iff_not]
        unfold MsgOk
        omega
    rintro (b2 : Bool) w34 ⟨hmi, rfl⟩
    refine BIf.of (fun hc => kb_f (fun hok => ?_) h.ext) (fun hc => ?_)
    · rw [hmi.2 (hok.msgs y (List.mem_of_getElem? hy))] at hc; cases hc
    · rw [w64 (by omega) (by omega)]
      refine hJ _ _ ⟨j + 1, by omega, by omega, fun z hz => ?_, h.drop⟩ (by omega)
      rw [List.take_add_one, hy] at hz
      rcases List.mem_append.1 hz with hz | hz
      · exact hall z hz
      · simp at hz; subst hz; exact hmi.1 hc
  · rw [List.take_of_length_le (by omega)] at hall
    refine LoopW.m1 (fun (k : Int) w' => ∃ j : Nat, k = j ∧ j ≤ d.Caps.length ∧ (∀ y, y ∈ d.Caps.take j → y.Port ≠ x.Id) ∧ SH w w' [aB cb ([.int .i64 x.Id, .slice tq.a tq.len tq.cap].map Ce.v), aB w.heap.size ((ipcV d.Next sp sc sq).map Ce.v)]) (fun (k : Int) _ => ((d.Caps.length : Int) - k).toNat) ⟨0, rfl, by omega, (fun y hy => by simp at hy), h⟩ ?_
    rintro (k2 : Int) w41 ⟨j2, rfl, hj2, hno, h⟩ J2 hJ2
    refine ⟨sc, h.cell 1 rfl rfl, ?_⟩
    rw [hcl]
    refine BIf.dec (fun hlt2 => ?_) (fun hge2 => ?_)
    · have h := h.drew
      obtain ⟨y, hy⟩ : ∃ y, d.Caps[j2]? = some y := ⟨_, List.getElem?_eq_getElem (by omega)⟩
      obtain ⟨r, hr, hcc⟩ := (hd.caps.ext h.ext).get (by omega) hy
      refine ⟨sc, h.cell 1 rfl rfl, by omega, by omega, r, hr, _, hcc 2 _ rfl, _, h.cell 0 rfl rfl, ?_⟩
      refine BIf.eq (fun he => kb_t ⟨g1, g2, g3, g4, g5, g6, hall, y, List.mem_of_getElem? hy, he⟩ h.ext) (fun he => ?_)
      rw [w64 (by omega) (by omega)]
      refine hJ2 _ _ ⟨j2 + 1, by omega, by omega, fun z hz => ?_, h⟩ (by omega)
      rw [List.take_add_one, hy] at hz
      rcases List.mem_append.1 hz with hz | hz
      · exact hno z hz
      · simp at hz; subst hz; exact he
    · rw [List.take_of_length_le (by omega)] at hno
      exact kb_f (fun hok => by obtain ⟨c, h1, h2⟩ := hok.some_; exact hno c h1 h2) h.ext
theorem c52 {n : Int} {i : Nat} {sp sc sq : Sl} {d : DIpc} {x : DPipe} {w : World} (hd : IpcAt w sp sc sq d) (hn : n = d.Next) (hx : d.Pipes[i]? = some x) (hwf : (Lit.int .i64 x.Readers).wf = true ∧ (Lit.int .i64 x.Writers).wf = true) : CallW Try.prog 52 #[.agg #[.int .i64 n, .slice sp.a sp.len sp.cap, .slice sc.a sc.len sc.cap, .slice sq.a sq.len sq.cap], .int .i64 (i : Int)] w (KB (PipeOk d i x) w) := by
  refine go52 ?_
  unfold W52
  have h := SH.start w
  have hl := hd.pipes.len
  have hf := hd.few
  have hil := (List.getElem?_eq_some_iff.1 hx).1
  obtain ⟨q, tq, hq, hc0, hc1, hc2, hc3, hby⟩ := hd.pipes.get i x hx
  have hbl := hby.len
  refine h.alloc (fun w1 h ew1 nw1 => ?_)
  refine ⟨sq, h.cell 0 rfl rfl, by omega, by omega, q, hq, ?_⟩
  rw [Int.toNat_natCast]
  refine ⟨_, h.ext.cell hc0, _, h.ext.cell hc1, _, h.ext.cell hc2, tq, h.ext.cell hc3, ?_⟩
  refine h.alloc (fun w8 h ew8 nw8 => ?_)
  refine h.put 0 rfl rfl rfl (fun w9 h nw9 => ?_)
  generalize w1.heap.size = cb at *
  have h := h.drew
  subst hn
  obtain ⟨J, hJJ⟩ : ∃ J : Bool → World → Prop, J = fun b w' => (b = false ↔ (1 ≤ x.Id ∧ x.Id ≤ d.Next ∧ (∀ z, 0 < i → d.Pipes[i - 1]? = some z → z.Id < x.Id) ∧ capIx d x.Id < 0 ∧ x.Data.length ≤ 512)) ∧ SH w w' [aB cb ([.int .i64 x.Id, .int .i64 x.Readers, .int .i64 x.Writers, .slice tq.a tq.len tq.cap].map Ce.v), aB w.heap.size ((ipcV d.Next sp sc sq).map Ce.v)] := ⟨_, rfl⟩
  have mkJ : ∀ b w', (b = false ↔ (1 ≤ x.Id ∧ x.Id ≤ d.Next ∧ (∀ z, 0 < i → d.Pipes[i - 1]? = some z → z.Id < x.Id) ∧ capIx d x.Id < 0 ∧ x.Data.length ≤ 512)) → SH w w' [aB cb ([.int .i64 x.Id, .int .i64 x.Readers, .int .i64 x.Writers, .slice tq.a tq.len tq.cap].map Ce.v), aB w.heap.size ((ipcV d.Next sp sc sq).map Ce.v)] → J b w' := fun b w' h1 h2 => by rw [hJJ]; exact ⟨h1, h2⟩
  refine JoinW.cut1 J ?_ ?_
  · refine ⟨_, h.cell 0 rfl rfl, BIf.dec (fun hb => mkJ _ _ ⟨(fun hh => by cases hh), fun hh => by omega⟩ h) (fun hb => ?_)⟩
    refine ⟨_, h.cell 0 rfl rfl, _, h.cell 1 rfl rfl, BIf.dec (fun hb2 => mkJ _ _ ⟨(fun hh => by cases hh), fun hh => by omega⟩ h) (fun hb2 => ?_)⟩
    have tail : ∀ (J : Bool → World → Prop), (∀ b w', (b = false ↔ capIx d x.Id < 0 ∧ x.Data.length ≤ 512) → SH w w' [aB cb ([.int .i64 x.Id, .int .i64 x.Readers, .int .i64 x.Writers, .slice tq.a tq.len tq.cap].map Ce.v), aB w.heap.size ((ipcV d.Next sp sc sq).map Ce.v)] → J b w') →
        ∃ n72 : Int, w9.drew.cell? ⟨w.heap.size, 0, none⟩ = some (.int .i64 n72) ∧ ∃ l73 : Sl, w9.drew.cell? ⟨w.heap.size, 1, none⟩ = some (.slice l73.a l73.len l73.cap) ∧ ∃ l74 : Sl, w9.drew.cell? ⟨w.heap.size, 2, none⟩ = some (.slice l74.a l74.len l74.cap) ∧ ∃ l75 : Sl, w9.drew.cell? ⟨w.heap.size, 3, none⟩ = some (.slice l75.a l75.len l75.cap) ∧ ∃ n76 : Int, w9.drew.cell? ⟨cb, 0, none⟩ = some (.int .i64 n76) ∧ CallW Try.prog 86 #[.agg #[.int .i64 n72, .slice l73.a l73.len l73.cap, .slice l74.a l74.len l74.cap, .slice l75.a l75.len l75.cap], .int .i64 n76] w9.drew fun v77 w78 => ∃ n79 : Int, v77 = .int .i64 n79 ∧ BIf (decide ((n79 : Int) ≥ 0)) (J true w78) (∃ l55 : Sl, w78.cell? ⟨cb, 3, none⟩ = some (.slice l55.a l55.len l55.cap) ∧ J (decide ((((l55.len : Nat) : Int) : Int) > 512)) w78) := by
      intro J hJ
      refine ⟨_, h.cell 1 rfl rfl, sp, h.cell 1 rfl rfl, sc, h.cell 1 rfl rfl, sq, h.cell 1 rfl rfl, _, h.cell 0 rfl rfl, (c86 (hd.ext h.ext)).mono ?_⟩
      rintro _ w78 ⟨rfl, e⟩
      have h := h.to e
      refine ⟨_, rfl, BIf.dec (fun hb4 => hJ _ _ ⟨(fun hh => by cases hh), fun hh => by omega⟩ h) (fun hb4 => ?_)⟩
      refine ⟨tq, h.cell 0 rfl rfl, hJ _ _ ?_ h⟩
      rw [decide_eq_false_iff_not]; omega
    refine BIf.dec (fun hi0 => ?_) (fun hi0 => ?_)
    · obtain ⟨z, hz⟩ : ∃ z, d.Pipes[i - 1]? = some z := ⟨_, List.getElem?_eq_getElem (by omega)⟩
      obtain ⟨q', _, hq', hc', _⟩ := hd.pipes.get _ z hz
      rw [w64 (n := (i : Int) - 1) (by omega) (by omega), show ((i : Int) - 1).toNat = i - 1 by omega]
      refine ⟨sq, h.cell 1 rfl rfl, by omega, by omega, q', hq', _, h.ext.cell hc', _, h.cell 0 rfl rfl, ?_⟩
      refine BIf.dec (fun hb3 => mkJ _ _ ⟨(fun hh => by cases hh), fun hh => by have := hh.2.2.1 z (by omega) hz; omega⟩ h) (fun hb3 => ?_)
      refine tail J (fun b w' hh hs => mkJ _ _ ?_ hs)
      rw [hh]
      exact ⟨fun hh => ⟨by omega, by omega, fun y _ hy => by rw [hz] at hy; cases hy; omega, hh⟩, fun hh => hh.2.2.2⟩
    · refine tail J (fun b w' hh hs => mkJ _ _ ?_ hs)
      rw [hh]
      exact ⟨fun hh => ⟨by omega, by omega, fun y hy _ => by omega, hh⟩, fun hh => hh.2.2.2⟩
  subst hJJ
  rintro (b : Bool) w12 ⟨hiff, h⟩
  refine BIf.of (fun hb => kb_f (fun hok => ?_) h.ext) (fun hb => ?_)
  · rw [hiff.2 ⟨hok.id1, hok.idN, hok.sorted, hok.noCap, hok.few⟩] at hb; cases hb
  obtain ⟨g1, g2, g3, g4, g5⟩ := hiff.1 hb
  refine ⟨_, h.cell 0 rfl rfl, ?_⟩
  refine join_and_ex x.Readers (h.cell 0 rfl rfl) ?_
  refine join_and_ex x.Writers (h.cell 0 rfl rfl) ?_
  refine join_and_ex x.Writers (h.cell 0 rfl rfl) ?_
  refine JoinW.cut1 (fun (b : Bool) w' => (b = true ↔ (0 ≤ x.Readers ∧ x.Readers ≤ 64) ∧ (0 ≤ x.Writers ∧ x.Writers ≤ 64) ∧ 0 < x.Readers + x.Writers) ∧ w' = w12) ?_ ?_
  · refine BIf.of (fun hc => ⟨_, h.cell 0 rfl rfl, _, h.cell 0 rfl rfl, ?_, rfl⟩) (fun hc => ⟨⟨(fun hh => by cases hh), fun hh => ?_⟩, rfl⟩)
    · simp only [Bool.and_eq_true, decide_eq_true_eq] at hc
      rw [decide_eq_true_eq, w64 (by omega) (by omega)]; omega
    · simp only [Bool.and_eq_false_iff, decide_eq_false_iff_not] at hc; omega
  rintro (b2 : Bool) w25 ⟨hb2, rfl⟩
  refine ⟨_, rfl, ?_, h.ext⟩
  rw [hb2]
  exact ⟨fun hh => ⟨g1, g2, g3, g4, g5, hh.1, hh.2.1, hh.2.2⟩, fun hok => ⟨hok.r, hok.w, hok.pos⟩⟩
theorem c10 {sp sc sq : Sl} {d : DIpc} {w : World} (hd : IpcAt w sp sc sq d) (hwf : ∀ x, x ∈ d.Pipes → (Lit.int .i64 x.Readers).wf = true ∧ (Lit.int .i64 x.Writers).wf = true) : CallW Try.prog 10 #[.agg #[.int .i64 d.Next, .slice sp.a sp.len sp.cap, .slice sc.a sc.len sc.cap, .slice sq.a sq.len sq.cap]] w (KB (IOk d) w) := by
  refine go10 ?_
  unfold W10
  have h := SH.start w
  have hpl := hd.ports.len
  have hcl := hd.caps.len
  have hql := hd.pipes.len
  have hf := hd.few
  have hcf := hd.caps.few
  refine h.alloc (fun w1 h ew1 nw1 => ?_)
  refine ⟨_, h.cell 0 rfl rfl, c49.mono ?_⟩
  rintro _ w4 ⟨rfl, rfl⟩
  refine ⟨_, rfl, ?_⟩
  refine join_or_ex sc (h.cell 0 rfl rfl) ?_
  refine join_or_ex sp (h.cell 0 rfl rfl) ?_
  refine join_or_ex sq (h.cell 0 rfl rfl) ?_
  rw [hpl, hcl, hql]
  refine BIf.of (fun hc => kb_f (fun hok => ?_) h.ext) (fun hc => ?_)
  · have g1 := hok.next; have g2 := hok.caps; have g3 := hok.ports; have g4 := hok.pipes
    simp only [Bool.or_eq_true, Bool.not_eq_true', Bool.and_eq_false_iff, decide_eq_false_iff_not, decide_eq_true_eq] at hc
    omega
  have hc : (0 ≤ d.Next ∧ d.Next ≤ 1099511627776) ∧ d.Caps.length ≤ 128 ∧ d.Ports.length ≤ 32 ∧ d.Pipes.length ≤ 32 := by
    simp only [Bool.or_eq_false_iff, Bool.not_eq_false', Bool.and_eq_true, decide_eq_false_iff_not, decide_eq_true_eq] at hc
    omega
  obtain ⟨g1, g2, g3, g4⟩ := hc
  refine LoopW.m1 (fun (i : Int) w' => ∃ k : Nat, i = k ∧ k ≤ d.Caps.length ∧ (∀ j y, j < k → d.Caps[j]? = some y → CapOk d j y) ∧ SH w w' [aB w.heap.size ((ipcV d.Next sp sc sq).map Ce.v)]) (fun (i : Int) _ => ((d.Caps.length : Int) - i).toNat) ⟨0, rfl, by omega, (fun j y hj => by omega), h⟩ ?_
  rintro (i : Int) w17 ⟨k, rfl, hk, hall, h⟩ J hJ
  refine ⟨sc, h.cell 0 rfl rfl, ?_⟩
  rw [hcl]
  refine BIf.dec (fun hlt => ?_) (fun hge => ?_)
  · obtain ⟨y, hy⟩ : ∃ y, d.Caps[k]? = some y := ⟨_, List.getElem?_eq_getElem (by omega)⟩
    refine ⟨_, h.cell 0 rfl rfl, sp, h.cell 0 rfl rfl, sc, h.cell 0 rfl rfl, sq, h.cell 0 rfl rfl, (c50 (hd.ext h.ext) rfl hy).mono ?_⟩
    rintro _ w24 ⟨b, rfl, hiff, e⟩
    have h := h.to e
    refine ⟨_, rfl, BIf.of (fun hb => kb_f (fun hok => ?_) h.ext) (fun hb => ?_)⟩
    · rw [hiff.2 (hok.cap k y hy)] at hb; cases hb
    rw [w64 (by omega) (by omega)]
    refine hJ _ _ ⟨k + 1, by omega, by omega, fun j z hj hz => ?_, h⟩ (by omega)
    by_cases hjk : j = k
    · subst hjk; rw [hy] at hz; cases hz; exact hiff.1 (by simpa using hb)
    · exact hall j z (by omega) hz
  have hcaps : ∀ j y, d.Caps[j]? = some y → CapOk d j y := fun j y hy => hall j y (by have := (List.getElem?_eq_some_iff.1 hy).1; omega) hy
  clear hJ J
  refine LoopW.m1 (fun (i : Int) w' => ∃ k : Nat, i = k ∧ k ≤ d.Ports.length ∧ (∀ j y, j < k → d.Ports[j]? = some y → PortOk d j y) ∧ SH w w' [aB w.heap.size ((ipcV d.Next sp sc sq).map Ce.v)]) (fun (i : Int) _ => ((d.Ports.length : Int) - i).toNat) ⟨0, rfl, by omega, (fun j y hj => by omega), h⟩ ?_
  rintro (i : Int) w28 ⟨k2, rfl, hk2, hall2, h⟩ J hJ
  refine ⟨sp, h.cell 0 rfl rfl, ?_⟩
  rw [hpl]
  refine BIf.dec (fun hlt => ?_) (fun hge2 => ?_)
  · obtain ⟨y, hy⟩ : ∃ y, d.Ports[k2]? = some y := ⟨_, List.getElem?_eq_getElem (by omega)⟩
    refine ⟨_, h.cell 0 rfl rfl, sp, h.cell 0 rfl rfl, sc, h.cell 0 rfl rfl, sq, h.cell 0 rfl rfl, (c51 (hd.ext h.ext) rfl hy).mono ?_⟩
    rintro _ w24 ⟨b, rfl, hiff, e⟩
    have h := h.to e
    refine ⟨_, rfl, BIf.of (fun hb => kb_f (fun hok => ?_) h.ext) (fun hb => ?_)⟩
    · rw [hiff.2 (hok.port k2 y hy)] at hb; cases hb
    rw [w64 (by omega) (by omega)]
    refine hJ _ _ ⟨k2 + 1, by omega, by omega, fun j z hj hz => ?_, h⟩ (by omega)
    by_cases hjk : j = k2
    · subst hjk; rw [hy] at hz; cases hz; exact hiff.1 (by simpa using hb)
    · exact hall2 j z (by omega) hz
  have hports : ∀ j y, d.Ports[j]? = some y → PortOk d j y := fun j y hy => hall2 j y (by have := (List.getElem?_eq_some_iff.1 hy).1; omega) hy
  clear hJ J
  refine LoopW.m1 (fun (i : Int) w' => ∃ k : Nat, i = k ∧ k ≤ d.Pipes.length ∧ (∀ j y, j < k → d.Pipes[j]? = some y → PipeOk d j y) ∧ SH w w' [aB w.heap.size ((ipcV d.Next sp sc sq).map Ce.v)]) (fun (i : Int) _ => ((d.Pipes.length : Int) - i).toNat) ⟨0, rfl, by omega, (fun j y hj => by omega), h⟩ ?_
  rintro (i : Int) w39 ⟨k3, rfl, hk3, hall3, h⟩ J hJ
  refine ⟨sq, h.cell 0 rfl rfl, ?_⟩
  rw [hql]
  refine BIf.dec (fun hlt => ?_) (fun hge3 => ?_)
  · obtain ⟨y, hy⟩ : ∃ y, d.Pipes[k3]? = some y := ⟨_, List.getElem?_eq_getElem (by omega)⟩
    refine ⟨_, h.cell 0 rfl rfl, sp, h.cell 0 rfl rfl, sc, h.cell 0 rfl rfl, sq, h.cell 0 rfl rfl, (c52 (hd.ext h.ext) rfl hy (hwf y (List.mem_of_getElem? hy))).mono ?_⟩
    rintro _ w24 ⟨b, rfl, hiff, e⟩
    have h := h.to e
    refine ⟨_, rfl, BIf.of (fun hb => kb_f (fun hok => ?_) h.ext) (fun hb => ?_)⟩
    · rw [hiff.2 (hok.pipe k3 y hy)] at hb; cases hb
    rw [w64 (by omega) (by omega)]
    refine hJ _ _ ⟨k3 + 1, by omega, by omega, fun j z hj hz => ?_, h⟩ (by omega)
    by_cases hjk : j = k3
    · subst hjk; rw [hy] at hz; cases hz; exact hiff.1 (by simpa using hb)
    · exact hall3 j z (by omega) hz
  exact kb_t ⟨g1, g2, g3, g4, hcaps, hports, fun j y hy => hall3 j y (by have := (List.getElem?_eq_some_iff.1 hy).1; omega) hy⟩ h.ext
end Go.Proofs.Ytbimoajgofcmbaa

/- Ports and capabilities: when a state can be, the program's side. Conditions: none. -/
set_option linter.unusedVariables false
set_option linter.unusedSimpArgs false
namespace Go.Proofs.Ytbimoajgofcmbaa
open Go Go.Den
def okId (last id n : Int) (ks : List Int) : Bool := ((decide (id > last) && decide (id ≥ 1)) && decide (id ≤ n)) && !decide (id ∈ ks)
theorem join_and_ex1 {α : Type} {c : Bool} {P : α → Prop} {R : (Bool → World → Prop) → α → Prop} {r : Bool} {w : World} {k : Bool → World → Prop} (n : α) (hn : P n) (hr : ∀ J : Bool → World → Prop, J r w → R J n) (h : k (c && r) w) : JoinW [.bool] (fun J => BIf c (∃ n, P n ∧ R J n) (J false w)) k := by
  refine ⟨k, fun _ _ h => h, ?_⟩
  cases c
  · exact h
  · exact ⟨n, hn, hr k h⟩
theorem c56 {w0 w : World} {As : List Asr} {a m t s lb mc mb sb : Nat} {last id n : Int} {ks : List Int} {sp sc sq : Sl} (h : SH w0 w As) (hl : As[a]? = some (aB lb ([.int .i64 last].map Ce.v))) (hm : As[m]? = some (aB mc ([.map (some mb)].map Ce.v))) (ht : As[t]? = some (aSet mb ks)) (hs : As[s]? = some (aB sb ((ipcV n sp sc sq).map Ce.v))) (hat : a ≠ t) :
    CallW Try.prog 56 #[.pointer (some ⟨lb, 0, none⟩), .int .i64 id, .pointer (some ⟨sb, 0, none⟩), .pointer (some ⟨mc, 0, none⟩)] w (fun v w' => v = .bool (okId last id n ks) ∧ SH w0 w' ((As.set t (aSet mb (insK ks id))).set a (aB lb ([.int .i64 id].map Ce.v)))) := by
  refine go56 ?_
  unfold W56
  refine ⟨_, rfl, _, h.cell a hl rfl, ?_⟩
  simp only [join_and]
  refine join_and_ex n (h.cell s hs rfl) ?_
  refine join_and_ex1 (r := !decide (id ∈ ks)) (some mb) (h.cell m hm rfl) (fun J hJ => ?_) ?_
  · exact h.getSet t ht id (fun o ho => ⟨_, ho, hJ⟩)
  refine ⟨some mb, h.cell m hm rfl, ?_⟩
  refine h.putSet t ht id (fun w13 h nw13 => ?_)
  have hl' : (As.set t (aSet mb (insK ks id)))[a]? = some (aB lb ([.int .i64 last].map Ce.v)) := by rw [List.getElem?_set_ne (by omega)]; exact hl
  refine ⟨_, rfl, h.setV a hl' rfl (fun w15 h nw15 => ?_)⟩
  exact ⟨rfl, h⟩
/-! ## The program's own conditions -/
structure CapI (d : DIpc) (i : Nat) (c : DCap) : Prop where
  id1 : 1 ≤ c.Id
  idN : c.Id ≤ d.Next
  sorted : ∀ z, 0 < i → d.Caps[i - 1]? = some z → z.Id < c.Id
  hold : 0 ≤ c.Holder ∧ c.Holder < 64
  r1 : 1 ≤ c.Rights
  r7 : c.Rights ≤ 7
  port : 0 ≤ portIx d c.Port
  par : c.Parent = 0 ∨ ∃ (k : Nat) (p : DCap), capIx d c.Parent = k ∧ d.Caps[k]? = some p ∧ p.Port = c.Port ∧ p.Id < c.Id ∧ andI .i64 p.Rights c.Rights = c.Rights
structure PortI (d : DIpc) (i : Nat) (p : DPort) : Prop where
  id1 : 1 ≤ p.Id
  idN : p.Id ≤ d.Next
  sorted : ∀ z, 0 < i → d.Ports[i - 1]? = some z → z.Id < p.Id
  few : p.Queue.length ≤ 8
  noCap : ∀ c, c ∈ d.Caps → c.Id ≠ p.Id
  msgs : ∀ m, m ∈ p.Queue → MsgOk d m
  some_ : ∃ c, c ∈ d.Caps ∧ c.Port = p.Id
structure PipeI (d : DIpc) (i : Nat) (p : DPipe) : Prop where
  id1 : 1 ≤ p.Id
  idN : p.Id ≤ d.Next
  sorted : ∀ z, 0 < i → d.Pipes[i - 1]? = some z → z.Id < p.Id
  noCap : ∀ c, c ∈ d.Caps → c.Id ≠ p.Id
  noPort : ∀ c, c ∈ d.Ports → c.Id ≠ p.Id
  few : p.Data.length ≤ 512
  r : 0 ≤ p.Readers ∧ p.Readers ≤ 64
  w : 0 ≤ p.Writers ∧ p.Writers ≤ 64
  pos : 0 < p.Readers + p.Writers
theorem idx_neg {α : Type} {p : α → Bool} {l : List α} : idxFrom p l 0 < 0 ↔ ∀ x, x ∈ l → p x = false := by
  rcases idx_cases p l with ⟨h1, h2⟩ | ⟨k, x, h1, h2, h3, _⟩
  · exact ⟨fun _ => h2, fun _ => by omega⟩
  · refine ⟨fun h => by omega, fun h => ?_⟩
    rw [h x (List.mem_of_getElem? h2)] at h3; cases h3
theorem capIx_neg {d : DIpc} {id : Int} : capIx d id < 0 ↔ ∀ c, c ∈ d.Caps → c.Id ≠ id := by
  unfold capIx; rw [idx_neg]; simp
theorem pipeIx_neg {d : DIpc} {id : Int} : pipeIx d id < 0 ↔ ∀ c, c ∈ d.Pipes → c.Id ≠ id := by
  unfold pipeIx; rw [idx_neg]; simp
theorem ix_id {d : DIpc} {id : Int} {k : Nat} {p : DCap} (h : capIx d id = k) (hp : d.Caps[k]? = some p) : p.Id = id := by
  unfold capIx at h
  rcases idx_cases (fun c : DCap => c.Id == id) d.Caps with ⟨h1, _⟩ | ⟨k', x, h1, h2, h3, _⟩
  · omega
  · obtain rfl : k = k' := by omega
    rw [hp] at h2; cases h2; simpa using h3
theorem capI_of {d : DIpc} (h : ∀ i c, d.Caps[i]? = some c → CapOk d i c) : ∀ i c, d.Caps[i]? = some c → CapI d i c := fun i c hc => by
  have g := h i c hc
  refine ⟨g.id1, g.idN, g.sorted, g.hold, g.r1, g.r7, g.port, ?_⟩
  rcases g.par with h0 | ⟨k, p, hp⟩
  · exact .inl h0
  · have gp := h k p hp.at_
    have := among_eq g.r1 g.r7 gp.r1 gp.r7
    rw [hp.am] at this
    exact .inr ⟨k, p, hp.ix, hp.at_, hp.port, by rw [ix_id hp.ix hp.at_]; exact hp.lt, by simpa using this⟩
theorem capOk_of {d : DIpc} (h : ∀ i c, d.Caps[i]? = some c → CapI d i c) : ∀ i c, d.Caps[i]? = some c → CapOk d i c := fun i c hc => by
  have g := h i c hc
  refine ⟨g.id1, g.idN, g.sorted, g.hold, g.r1, g.r7, g.port, ?_⟩
  rcases g.par with h0 | ⟨k, p, h1, h2, h3, h4, h5⟩
  · exact .inl h0
  · have gp := h k p h2
    have := among_eq g.r1 g.r7 gp.r1 gp.r7
    rw [h5] at this
    exact .inr ⟨k, p, h1, h2, by rw [← ix_id h1 h2]; exact h4, h3, by simpa using this⟩
theorem portI_of {d : DIpc} (h : IOk d) : ∀ i p, d.Ports[i]? = some p → PortI d i p := fun i p hp => by
  have g := h.port i p hp
  exact ⟨g.id1, g.idN, g.sorted, g.few, capIx_neg.1 g.noCap, g.msgs, g.some_⟩
theorem pipeI_of {d : DIpc} (h : IOk d) : ∀ i p, d.Pipes[i]? = some p → PipeI d i p := fun i p hp => by
  have g := h.pipe i p hp
  refine ⟨g.id1, g.idN, g.sorted, capIx_neg.1 g.noCap, fun c hc he => ?_, g.few, g.r, g.w, g.pos⟩
  obtain ⟨j, hj, rfl⟩ := List.getElem_of_mem hc
  have := (h.port j _ (List.getElem?_eq_getElem hj)).noPipe
  exact pipeIx_neg.1 this p (List.mem_of_getElem? hp) he.symm
theorem IOk_of {d : DIpc} (h1 : 0 ≤ d.Next ∧ d.Next ≤ 1099511627776) (h2 : d.Caps.length ≤ 128) (h3 : d.Ports.length ≤ 32) (h4 : d.Pipes.length ≤ 32) (hc : ∀ i c, d.Caps[i]? = some c → CapI d i c) (hp : ∀ i p, d.Ports[i]? = some p → PortI d i p) (hq : ∀ i p, d.Pipes[i]? = some p → PipeI d i p) : IOk d := by
  refine ⟨h1, h2, h3, h4, capOk_of hc, fun i p hi => ?_, fun i p hi => ?_⟩
  · have g := hp i p hi
    refine ⟨g.id1, g.idN, g.sorted, g.few, capIx_neg.2 g.noCap, pipeIx_neg.2 (fun c hcm he => ?_), g.msgs, g.some_⟩
    obtain ⟨j, hj, rfl⟩ := List.getElem_of_mem hcm
    exact (hq j _ (List.getElem?_eq_getElem hj)).noPort p (List.mem_of_getElem? hi) he.symm
  · have g := hq i p hi
    exact ⟨g.id1, g.idN, g.sorted, capIx_neg.2 g.noCap, g.few, g.r, g.w, g.pos⟩
theorem port_some {d : DIpc} {sp : Sl} {w : World} {id : Int} (h : PortsAt w sp d.Ports) : Option.isNone (ptrE sp 2 (portIx d id)) = decide (portIx d id < 0) := by
  refine ptrE_none (fun h0 => ?_)
  obtain ⟨k, x, _, hx, _⟩ := idx_get (p := fun c : DPort => c.Id == id) (l := d.Ports) h0
  obtain ⟨q, _, hq, _⟩ := h.get k x hx
  rw [hq]; simp
theorem cap_some {d : DIpc} {sp sc sq : Sl} {w : World} {id : Int} (h : IpcAt w sp sc sq d) : Option.isNone (ptrE sc 5 (capIx d id)) = decide (capIx d id < 0) := by
  refine ptrE_none (fun h0 => ?_)
  obtain ⟨k, x, _, hx, _⟩ := idx_get (p := fun c : DCap => c.Id == id) (l := d.Caps) h0
  obtain ⟨q, hq, _⟩ := h.caps.get (by omega) hx
  rw [hq]; simp
/-- What has been seen. -/
def Seen (ks : List Int) (P : Int → Prop) : Prop := ∀ x, x ∈ ks ↔ P x
theorem seen_ins {ks : List Int} {P Q : Int → Prop} {n : Int} (h : Seen ks P) (hq : ∀ x, Q x ↔ P x ∨ x = n) : Seen (insK ks n) Q := fun x => by rw [mem_insK, h x, hq]
structure LastI {α : Type} (f : α → Int) (l : List α) (k : Nat) (last : Int) : Prop where
  z : k = 0 → last = 0
  prev : ∀ y, 0 < k → l[k - 1]? = some y → last = f y
  le : ∀ j y, j < k → l[j]? = some y → f y ≤ last
theorem LastI.step {α : Type} {f : α → Int} {l : List α} {k : Nat} {last : Int} {x : α} (h : LastI f l k last) (hx : l[k]? = some x) (hlt : last < f x) : LastI f l (k + 1) (f x) :=
  ⟨by omega, (fun y _ hy => by rw [Nat.add_sub_cancel, hx] at hy; cases hy; rfl), fun j y hj hy => by
    by_cases hjk : j = k
    · subst hjk; rw [hx] at hy; cases hy; exact Int.le_refl _
    · have := h.le j y (by omega) hy; omega⟩
theorem LastI.sorted {α : Type} {f : α → Int} {l : List α} {k : Nat} {last id : Int} (h : LastI f l k last) (hk : k ≤ l.length) (h1 : 1 ≤ id) : (last < id) ↔ ∀ z, 0 < k → l[k - 1]? = some z → f z < id := by
  constructor
  · intro hlt z hk hz; have := h.prev z hk hz; omega
  · intro hh
    rcases Nat.eq_zero_or_pos k with h0 | h0
    · rw [h.z h0]; omega
    · obtain ⟨y, hy⟩ : ∃ y, l[k - 1]? = some y := ⟨_, List.getElem?_eq_getElem (by omega)⟩
      rw [h.prev y h0 hy]; exact hh y h0 hy
end Go.Proofs.Ytbimoajgofcmbaa

/- Ports and capabilities: when a state can be, the program's check. Conditions: none. -/
set_option linter.unusedVariables false
set_option linter.unusedSimpArgs false
namespace Go.Proofs.Ytbimoajgofcmbaa
open Go Go.Den
theorem okId_iff {last id n : Int} {ks : List Int} : okId last id n ks = true ↔ last < id ∧ 1 ≤ id ∧ id ≤ n ∧ id ∉ ks := by
  unfold okId
  simp only [Bool.and_eq_true, Bool.not_eq_true', decide_eq_true_eq, decide_eq_false_iff_not]
  constructor
  · rintro ⟨⟨⟨h1, h2⟩, h3⟩, h4⟩; exact ⟨by omega, by omega, by omega, h4⟩
  · rintro ⟨h1, h2, h3, h4⟩; exact ⟨⟨⟨by omega, by omega⟩, by omega⟩, h4⟩
def SeenC (d : DIpc) (k : Nat) (x : Int) : Prop := ∃ j y, j < k ∧ d.Caps[j]? = some y ∧ y.Id = x
def SeenP (d : DIpc) (k : Nat) (x : Int) : Prop := (∃ c, c ∈ d.Caps ∧ c.Id = x) ∨ ∃ j y, j < k ∧ d.Ports[j]? = some y ∧ y.Id = x
def SeenQ (d : DIpc) (k : Nat) (x : Int) : Prop := (∃ c, c ∈ d.Caps ∧ c.Id = x) ∨ (∃ c, c ∈ d.Ports ∧ c.Id = x) ∨ ∃ j y, j < k ∧ d.Pipes[j]? = some y ∧ y.Id = x
theorem all_snoc {α : Type} {l : List α} {k : Nat} {x : α} {P : Nat → α → Prop} (h : ∀ j y, j < k → l[j]? = some y → P j y) (hx : l[k]? = some x) (hp : P k x) : ∀ j y, j < k + 1 → l[j]? = some y → P j y := fun j y hj hy => by
  by_cases hjk : j = k
  · subst hjk; rw [hx] at hy; cases hy; exact hp
  · exact h j y (by omega) hy
set_option maxRecDepth 2000 in
theorem c12 {sp sc sq : Sl} {d : DIpc} {w : World} (hd : IpcAt w sp sc sq d) (hwf : ∀ x, x ∈ d.Pipes → (Lit.int .i64 x.Readers).wf = true ∧ (Lit.int .i64 x.Writers).wf = true) : CallW Try.prog 12 #[.agg #[.int .i64 d.Next, .slice sp.a sp.len sp.cap, .slice sc.a sc.len sc.cap, .slice sq.a sq.len sq.cap]] w (KB (IOk d) w) := by
  refine go12 ?_
  unfold W12
  have h := SH.start w
  have hpl := hd.ports.len
  have hcl := hd.caps.len
  have hql := hd.pipes.len
  have hf := hd.few
  have hcf := hd.caps.few
  refine h.alloc (fun w1 h ew1 nw1 => ?_)
  generalize w.heap.size = sb at *
  have h : SH w w1 [aB sb ((ipcV d.Next sp sc sq).map Ce.v)] := h
  refine ⟨_, h.cell 0 rfl rfl, ?_⟩
  refine join_or_ex d.Next (h.cell 0 rfl rfl) ?_
  refine join_or_ex sc (h.cell 0 rfl rfl) ?_
  refine join_or_ex sp (h.cell 0 rfl rfl) ?_
  refine join_or_ex sq (h.cell 0 rfl rfl) ?_
  rw [hpl, hcl, hql]
  refine BIf.of (fun hc => kb_f (fun hok => ?_) h.ext) (fun hc => ?_)
  · have g1 := hok.next; have g2 := hok.caps; have g3 := hok.ports; have g4 := hok.pipes
    simp only [Bool.or_eq_true, decide_eq_true_eq] at hc
    omega
  have hc : (0 ≤ d.Next ∧ d.Next ≤ 1099511627776) ∧ d.Caps.length ≤ 128 ∧ d.Ports.length ≤ 32 ∧ d.Pipes.length ≤ 32 := by
    simp only [Bool.or_eq_false_iff, decide_eq_false_iff_not] at hc
    omega
  obtain ⟨g1, g2, g3, g4⟩ := hc
  refine h.newMap (fun w15 h nw15 => ?_)
  generalize w1.heap.size = mb at *
  refine h.alloc (fun w16 h ew16 nw16 => ?_)
  generalize w15.heap.size = mc at *
  refine h.setV 0 rfl rfl (fun w17 h nw17 => ?_)
  refine h.alloc (fun w18 h ew18 nw18 => ?_)
  generalize w17.heap.size = lb at *
  refine h.setV 0 rfl rfl (fun w19 h nw19 => ?_)
  have h : SH w w19 [aB lb ([.int .i64 0].map Ce.v), aB mc ([.map (some mb)].map Ce.v), aSet mb [], aB sb ((ipcV d.Next sp sc sq).map Ce.v)] := h
  refine ⟨sc, h.cell 3 rfl rfl, ?_⟩
  refine LoopW.m1 (fun (i : Int) w' => ∃ (k : Nat) (last : Int) (ks : List Int), i = k ∧ k ≤ d.Caps.length ∧ LastI DCap.Id d.Caps k last ∧ Seen ks (SeenC d k) ∧ (∀ j y, j < k → d.Caps[j]? = some y → CapI d j y) ∧ SH w w' [aB lb ([.int .i64 last].map Ce.v), aB mc ([.map (some mb)].map Ce.v), aSet mb ks, aB sb ((ipcV d.Next sp sc sq).map Ce.v)]) (fun (i : Int) _ => ((d.Caps.length : Int) - i).toNat) ⟨0, 0, [], rfl, by omega, ⟨fun _ => rfl, (fun y h0 => by omega), (fun j y hj => by omega)⟩, (fun x => ⟨(fun hx => by cases hx), (fun ⟨j, y, hj, _⟩ => by omega)⟩), (fun j y hj => by omega), h⟩ ?_
  rintro (i : Int) w23 ⟨k, last, ks, rfl, hk, hlast, hseen, hall, h⟩ J hJ
  rw [hcl]
  refine BIf.dec (fun hlt => ?_) (fun hge => ?_)
  · obtain ⟨x, hx⟩ : ∃ x, d.Caps[k]? = some x := ⟨_, List.getElem?_eq_getElem (by omega)⟩
    obtain ⟨q, hq, hcc⟩ := hd.caps.get (by omega) hx
    refine ⟨by omega, by omega, q, hq, ?_⟩
    rw [Int.toNat_natCast]
    refine ⟨_, h.ext.cell (hcc 0 _ rfl), _, h.ext.cell (hcc 1 _ rfl), _, h.ext.cell (hcc 2 _ rfl), _, h.ext.cell (hcc 3 _ rfl), _, h.ext.cell (hcc 4 _ rfl), ?_⟩
    refine h.alloc (fun w30 h ew30 nw30 => ?_)
    refine h.put 0 rfl rfl rfl (fun w31 h nw31 => ?_)
    generalize w23.heap.size = cb at *
    refine ⟨_, h.cell 0 rfl rfl, (c56 h (a := 1) (m := 2) (t := 3) (s := 4) rfl rfl rfl rfl (by omega)).mono ?_⟩
    rintro _ w34 ⟨rfl, h⟩
    have h : SH w w34 [aB cb (x.cells.map Ce.v), aB lb ([.int .i64 x.Id].map Ce.v), aB mc ([.map (some mb)].map Ce.v), aSet mb (insK ks x.Id), aB sb ((ipcV d.Next sp sc sq).map Ce.v)] := h
    refine ⟨_, rfl, ?_⟩
    refine join_or_callR x.Holder (h.cell 0 rfl rfl) c57 ?_
    refine join_or_callP x.Port (h.cell 0 rfl rfl) (c58 (h.cell 4 rfl rfl) (hd.ext h.ext)) ?_
    refine join_or_ex x.Rights (h.cell 0 rfl rfl) ?_
    refine join_or_ex x.Rights (h.cell 0 rfl rfl) ?_
    rw [port_some hd.ports]
    have hiff : (((((!okId last x.Id d.Next ks) || !(decide (x.Holder ≥ 0) && decide (x.Holder < 64))) || decide (portIx d x.Port < 0)) || decide (x.Rights < 1)) || decide (x.Rights > 7)) = false ↔ 1 ≤ x.Id ∧ x.Id ≤ d.Next ∧ (∀ z, 0 < k → d.Caps[k - 1]? = some z → z.Id < x.Id) ∧ (0 ≤ x.Holder ∧ x.Holder < 64) ∧ 1 ≤ x.Rights ∧ x.Rights ≤ 7 ∧ 0 ≤ portIx d x.Port := by
      simp only [Bool.or_eq_false_iff, Bool.not_eq_false', Bool.and_eq_true, decide_eq_true_eq, decide_eq_false_iff_not, okId_iff]
      constructor
      · rintro ⟨⟨⟨⟨⟨a1, a2, a3, a4⟩, a5⟩, a6⟩, a7⟩, a8⟩
        exact ⟨a2, a3, (hlast.sorted hk a2).1 a1, by omega, by omega, by omega, by omega⟩
      · rintro ⟨a2, a3, a1, a5, a7, a8, a6⟩
        have hlt := (hlast.sorted hk a2).2 a1
        refine ⟨⟨⟨⟨⟨hlt, a2, a3, fun hm => ?_⟩, by omega⟩, by omega⟩, by omega⟩, by omega⟩
        obtain ⟨j, y, hj, hy, he⟩ := (hseen _).1 hm
        have := hlast.le j y hj hy; omega
    refine BIf.of (fun hb => kb_f (fun hok => ?_) h.ext) (fun hb => ?_)
    · have g := capI_of hok.cap k x hx
      rw [hiff.2 ⟨g.id1, g.idN, g.sorted, g.hold, g.r1, g.r7, g.port⟩] at hb; cases hb
    obtain ⟨a1, a2, a3, a4, a5, a6, a7⟩ := hiff.1 hb
    have hseen' : Seen (insK ks x.Id) (SeenC d (k + 1)) := seen_ins hseen (fun y => by
      constructor
      · rintro ⟨j, z, hj, hz, he⟩
        by_cases hjk : j = k
        · subst hjk; rw [hx] at hz; cases hz; exact .inr he.symm
        · exact .inl ⟨j, z, by omega, hz, he⟩
      · rintro (⟨j, z, hj, hz, he⟩ | rfl)
        · exact ⟨j, z, by omega, hz, he⟩
        · exact ⟨k, x, by omega, hx, rfl⟩)
    have next : ∀ w', CapI d k x → SH w w' [aB cb (x.cells.map Ce.v), aB lb ([.int .i64 x.Id].map Ce.v), aB mc ([.map (some mb)].map Ce.v), aSet mb (insK ks x.Id), aB sb ((ipcV d.Next sp sc sq).map Ce.v)] → J (IntKind.i64.wrap ((k : Int) + 1)) w' := fun w' hci hs => by
      rw [w64 (by omega) (by omega)]
      exact hJ _ _ ⟨k + 1, x.Id, _, by omega, by omega, hlast.step hx ((hlast.sorted hk a1).2 a3), hseen', all_snoc hall hx hci, hs.drop⟩ (by omega)
    refine ⟨_, h.cell 0 rfl rfl, BIf.ne (fun h0 => ?_) (fun h0 => next _ ⟨a1, a2, a3, a4, a5, a6, a7, .inl h0⟩ h)⟩
    refine ⟨_, h.cell 0 rfl rfl, (c59 (h.cell 4 rfl rfl) (hd.ext h.ext)).mono ?_⟩
    rintro _ w51 ⟨rfl, rfl⟩
    refine ⟨_, rfl, ?_⟩
    have h := h.drew
    obtain ⟨J54, hJ54⟩ : ∃ J54 : Bool → World → Prop, J54 = fun b w' => (b = false ↔ ∃ (j : Nat) (p : DCap), capIx d x.Parent = j ∧ d.Caps[j]? = some p ∧ p.Port = x.Port ∧ p.Id < x.Id ∧ andI .i64 p.Rights x.Rights = x.Rights) ∧ w' = w51.drew := ⟨_, rfl⟩
    have mk : ∀ b : Bool, (b = false ↔ ∃ (j : Nat) (p : DCap), capIx d x.Parent = j ∧ d.Caps[j]? = some p ∧ p.Port = x.Port ∧ p.Id < x.Id ∧ andI .i64 p.Rights x.Rights = x.Rights) → J54 b w51.drew := fun b hb => by rw [hJ54]; exact ⟨hb, rfl⟩
    refine JoinW.cut1 J54 ?_ ?_
    · refine BIf.of (fun hn => mk _ ⟨(fun hh => by cases hh), fun ⟨j, p, hj, _⟩ => ?_⟩) (fun hn => ?_)
      · rw [cap_some hd, decide_eq_true_eq] at hn; omega
      rw [cap_some hd, decide_eq_false_iff_not] at hn
      obtain ⟨j, p, hj, hp, _⟩ := idx_get (p := fun c : DCap => c.Id == x.Parent) (l := d.Caps) (show 0 ≤ capIx d x.Parent by omega)
      have hj : capIx d x.Parent = j := hj
      obtain ⟨q', hq', hc'⟩ := hd.caps.get (by omega) hp
      rw [hj, ptrE_at hq']
      have uniq : ∀ {j' : Nat} {p' : DCap}, capIx d x.Parent = j' → d.Caps[j']? = some p' → p' = p := fun {j' p'} h1 h2 => by
        obtain rfl : j = j' := by omega
        rw [hp] at h2; cases h2; rfl
      refine ⟨_, rfl, _, h.ext.cell (hc' 2 _ rfl), _, h.cell 0 rfl rfl, ?_⟩
      refine BIf.ne (fun hne => mk _ ⟨(fun hh => by cases hh), fun ⟨j', p', b1, b2, b3, _⟩ => ?_⟩) (fun he => ?_)
      · rw [uniq b1 b2] at b3; exact (hne b3).elim
      refine ⟨_, rfl, _, h.ext.cell (hc' 0 _ rfl), _, h.cell 0 rfl rfl, ?_⟩
      refine BIf.dec (fun hge => mk _ ⟨(fun hh => by cases hh), fun ⟨j', p', b1, b2, b3, b4, _⟩ => ?_⟩) (fun hlt2 => ?_)
      · rw [uniq b1 b2] at b4; omega
      refine ⟨_, rfl, _, h.ext.cell (hc' 3 _ rfl), _, h.cell 0 rfl rfl, _, h.cell 0 rfl rfl, ?_⟩
      refine mk _ ?_
      simp only [bne_eq_false_iff_eq]
      constructor
      · intro hh; exact ⟨j, p, hj, hp, he, by omega, hh⟩
      · rintro ⟨j', p', b1, b2, b3, b4, b5⟩
        rw [uniq b1 b2] at b5; exact b5
    subst hJ54
    rintro (b53 : Bool) w55 ⟨hpi, rfl⟩
    refine BIf.of (fun hb => kb_f (fun hok => ?_) h.ext) (fun hb => next _ ⟨a1, a2, a3, a4, a5, a6, a7, .inr (hpi.1 hb)⟩ h)
    rcases (capI_of hok.cap k x hx).par with h0' | hpar
    · exact h0 h0'
    · rw [hpi.2 hpar] at hb; cases hb
  have hcaps : ∀ j y, d.Caps[j]? = some y → CapI d j y := fun j y hy => hall j y (by have := (List.getElem?_eq_some_iff.1 hy).1; omega) hy
  have hseenP : Seen ks (SeenP d 0) := fun y => by
    rw [hseen y]
    constructor
    · rintro ⟨j, z, hj, hz, he⟩; exact .inl ⟨z, List.mem_of_getElem? hz, he⟩
    · rintro (⟨c, hc, he⟩ | ⟨j, z, hj, _⟩)
      · obtain ⟨j, hj, rfl⟩ := List.getElem_of_mem hc
        exact ⟨j, _, by omega, List.getElem?_eq_getElem hj, he⟩
      · omega
  clear hJ J hseen hlast
  refine h.setV 0 rfl rfl (fun w76 h nw76 => ?_)
  have h : SH w w76 [aB lb ([.int .i64 0].map Ce.v), aB mc ([.map (some mb)].map Ce.v), aSet mb ks, aB sb ((ipcV d.Next sp sc sq).map Ce.v)] := h
  refine ⟨sp, h.cell 3 rfl rfl, ?_⟩
  refine LoopW.m1 (fun (i : Int) w' => ∃ (k : Nat) (last : Int) (ks : List Int), i = k ∧ k ≤ d.Ports.length ∧ LastI DPort.Id d.Ports k last ∧ Seen ks (SeenP d k) ∧ (∀ j y, j < k → d.Ports[j]? = some y → PortI d j y) ∧ SH w w' [aB lb ([.int .i64 last].map Ce.v), aB mc ([.map (some mb)].map Ce.v), aSet mb ks, aB sb ((ipcV d.Next sp sc sq).map Ce.v)]) (fun (i : Int) _ => ((d.Ports.length : Int) - i).toNat) ⟨0, 0, ks, rfl, by omega, ⟨fun _ => rfl, (fun y h0 => by omega), (fun j y hj => by omega)⟩, hseenP, (fun j y hj => by omega), h⟩ ?_
  clear hseenP h
  rintro (i : Int) w80 ⟨k2, last, ks, rfl, hk2, hlast, hseen, hall2, h⟩ J hJ
  rw [hpl]
  refine BIf.dec (fun hlt => ?_) (fun hge2 => ?_)
  · obtain ⟨x, hx⟩ : ∃ x, d.Ports[k2]? = some x := ⟨_, List.getElem?_eq_getElem (by omega)⟩
    obtain ⟨q, tq, hq, hc0, hc1, hms⟩ := hd.ports.get k2 x hx
    have hml := hms.len
    refine ⟨by omega, by omega, q, hq, ?_⟩
    rw [Int.toNat_natCast]
    refine ⟨_, h.ext.cell hc0, tq, h.ext.cell hc1, ?_⟩
    refine h.alloc (fun w84 h ew84 nw84 => ?_)
    refine h.put 0 rfl rfl rfl (fun w85 h nw85 => ?_)
    generalize w80.heap.size = cb at *
    refine ⟨_, h.cell 0 rfl rfl, (c56 h (a := 1) (m := 2) (t := 3) (s := 4) rfl rfl rfl rfl (by omega)).mono ?_⟩
    rintro _ w88 ⟨rfl, h⟩
    have h : SH w w88 [aB cb ([.int .i64 x.Id, .slice tq.a tq.len tq.cap].map Ce.v), aB lb ([.int .i64 x.Id].map Ce.v), aB mc ([.map (some mb)].map Ce.v), aSet mb (insK ks x.Id), aB sb ((ipcV d.Next sp sc sq).map Ce.v)] := h
    refine ⟨_, rfl, ?_⟩
    refine join_or_ex tq (h.cell 0 rfl rfl) ?_
    rw [hml]
    have hiff : ((!okId last x.Id d.Next ks) || decide (((x.Queue.length : Nat) : Int) > 8)) = false ↔ 1 ≤ x.Id ∧ x.Id ≤ d.Next ∧ (∀ z, 0 < k2 → d.Ports[k2 - 1]? = some z → z.Id < x.Id) ∧ x.Queue.length ≤ 8 ∧ (∀ c, c ∈ d.Caps → c.Id ≠ x.Id) := by
      simp only [Bool.or_eq_false_iff, Bool.not_eq_false', decide_eq_false_iff_not, okId_iff]
      constructor
      · rintro ⟨⟨a1, a2, a3, a4⟩, a5⟩
        exact ⟨a2, a3, (hlast.sorted hk2 a2).1 a1, by omega, fun c hc he => a4 ((hseen _).2 (.inl ⟨c, hc, he⟩))⟩
      · rintro ⟨a2, a3, a1, a5, a6⟩
        have hlt := (hlast.sorted hk2 a2).2 a1
        refine ⟨⟨hlt, a2, a3, fun hm => ?_⟩, by omega⟩
        rcases (hseen _).1 hm with ⟨c, hc, he⟩ | ⟨j, y, hj, hy, he⟩
        · exact a6 c hc he
        · have := hlast.le j y hj hy; omega
    refine BIf.of (fun hb => kb_f (fun hok => ?_) h.ext) (fun hb => ?_)
    · have g := portI_of hok k2 x hx
      rw [hiff.2 ⟨g.id1, g.idN, g.sorted, g.few, g.noCap⟩] at hb; cases hb
    obtain ⟨a1, a2, a3, a4, a5⟩ := hiff.1 hb
    have hseen' : Seen (insK ks x.Id) (SeenP d (k2 + 1)) := seen_ins hseen (fun y => by
      constructor
      · rintro (hh | ⟨j, z, hj, hz, he⟩)
        · exact .inl (.inl hh)
        · by_cases hjk : j = k2
          · subst hjk; rw [hx] at hz; cases hz; exact .inr he.symm
          · exact .inl (.inr ⟨j, z, by omega, hz, he⟩)
      · rintro ((hh | ⟨j, z, hj, hz, he⟩) | rfl)
        · exact .inl hh
        · exact .inr ⟨j, z, by omega, hz, he⟩
        · exact .inr ⟨k2, x, by omega, hx, rfl⟩)
    refine ⟨sc, h.cell 4 rfl rfl, ?_⟩
    refine LoopW.m2 (fun (b : Bool) (i : Int) w' => ∃ j : Nat, i = j ∧ j ≤ d.Caps.length ∧ (b = true ↔ ∃ c, c ∈ d.Caps.take j ∧ c.Port = x.Id) ∧ SH w w' [aB cb ([.int .i64 x.Id, .slice tq.a tq.len tq.cap].map Ce.v), aB lb ([.int .i64 x.Id].map Ce.v), aB mc ([.map (some mb)].map Ce.v), aSet mb (insK ks x.Id), aB sb ((ipcV d.Next sp sc sq).map Ce.v)]) (fun (b : Bool) (i : Int) _ => ((d.Caps.length : Int) - i).toNat) ⟨0, rfl, by omega, ⟨(fun hh => by cases hh), (fun ⟨c, hc, _⟩ => by simp at hc)⟩, h⟩ ?_
    rintro (b94 : Bool) (i : Int) w97 ⟨j, rfl, hj, hb94, h⟩ J96 hJ96
    rw [hcl]
    refine BIf.dec (fun hlt2 => ?_) (fun hge3 => ?_)
    · obtain ⟨y, hy⟩ : ∃ y, d.Caps[j]? = some y := ⟨_, List.getElem?_eq_getElem (by omega)⟩
      obtain ⟨q', hq', hc'⟩ := hd.caps.get (by omega) hy
      refine ⟨by omega, by omega, q', hq', ?_⟩
      rw [Int.toNat_natCast]
      refine ⟨_, h.ext.cell (hc' 0 _ rfl), _, h.ext.cell (hc' 1 _ rfl), _, h.ext.cell (hc' 2 _ rfl), _, h.ext.cell (hc' 3 _ rfl), _, h.ext.cell (hc' 4 _ rfl), ?_⟩
      refine h.alloc (fun w104 h ew104 nw104 => ?_)
      refine h.put 0 rfl rfl rfl (fun w105 h nw105 => ?_)
      refine join_or_ex2 y.Port x.Id (h.cell 0 rfl rfl) (h.cell 1 rfl rfl) ?_
      rw [w64 (by omega) (by omega)]
      refine hJ96 _ _ _ ⟨j + 1, by omega, by omega, ?_, h.drop⟩ (by omega)
      rw [List.take_add_one, hy]
      simp only [Bool.or_eq_true, hb94, beq_iff_eq, List.mem_append, Option.toList, List.mem_singleton]
      constructor
      · rintro (⟨c, hc, he⟩ | he)
        · exact ⟨c, .inl hc, he⟩
        · exact ⟨y, .inr rfl, he⟩
      · rintro ⟨c, hc | rfl, he⟩
        · exact .inl ⟨c, hc, he⟩
        · exact .inr he
    rw [List.take_of_length_le (by omega)] at hb94
    refine BIf.of (fun hb => kb_f (fun hok => ?_) h.ext) (fun hb => ?_)
    · rw [hb94.2 (portI_of hok k2 x hx).some_] at hb; cases hb
    have hsome : ∃ c, c ∈ d.Caps ∧ c.Port = x.Id := hb94.1 (by simpa using hb)
    refine ⟨tq, h.cell 0 rfl rfl, ?_⟩
    refine LoopW.m1 (fun (i : Int) w' => ∃ j : Nat, i = j ∧ j ≤ x.Queue.length ∧ (∀ y, y ∈ x.Queue.take j → MsgOk d y) ∧ SH w w' [aB cb ([.int .i64 x.Id, .slice tq.a tq.len tq.cap].map Ce.v), aB lb ([.int .i64 x.Id].map Ce.v), aB mc ([.map (some mb)].map Ce.v), aSet mb (insK ks x.Id), aB sb ((ipcV d.Next sp sc sq).map Ce.v)]) (fun (i : Int) _ => ((x.Queue.length : Int) - i).toNat) ⟨0, rfl, by omega, (fun y hy => by simp at hy), h⟩ ?_
    rintro (i : Int) w114 ⟨j3, rfl, hj3, hmsg, h⟩ J113 hJ113
    rw [hml]
    refine BIf.dec (fun hlt3 => ?_) (fun hge4 => ?_)
    · obtain ⟨y, hy⟩ : ∃ y, x.Queue[j3]? = some y := ⟨_, List.getElem?_eq_getElem (by omega)⟩
      obtain ⟨r, u, hr, hm0, hm1, hm2, hby⟩ := (hms.ext h.ext).get j3 y hy
      have hbl := hby.len
      refine ⟨by omega, by omega, r, hr, _, hm0, u, hm1, _, hm2, ?_⟩
      refine h.alloc (fun w119 h ew119 nw119 => ?_)
      refine h.put 0 rfl rfl rfl (fun w120 h nw120 => ?_)
      generalize w114.heap.size = yb at *
      refine ⟨_, h.cell 0 rfl rfl, c57.mono ?_⟩
      rintro _ w123 ⟨rfl, rfl⟩
      refine ⟨_, rfl, ?_⟩
      refine join_or_ex u (h.cell 0 rfl rfl) ?_
      refine join_or_ex y.Cap (h.cell 0 rfl rfl) ?_
      refine join_or_ex2 y.Cap d.Next (h.cell 0 rfl rfl) (h.cell 5 rfl rfl) ?_
      rw [hbl]
      have hmi : ((((!(decide (y.From ≥ 0) && decide (y.From < 64))) || decide (((y.Data.length : Nat) : Int) > 64)) || decide (y.Cap < 0)) || decide (y.Cap > d.Next)) = false ↔ MsgOk d y := by
        unfold MsgOk
        simp only [Bool.or_eq_false_iff, Bool.not_eq_false', Bool.and_eq_true, decide_eq_true_eq, decide_eq_false_iff_not]
        omega
      refine BIf.of (fun hb => kb_f (fun hok => ?_) h.ext) (fun hb => ?_)
      · rw [hmi.2 ((portI_of hok k2 x hx).msgs y (List.mem_of_getElem? hy))] at hb; cases hb
      rw [w64 (by omega) (by omega)]
      refine hJ113 _ _ ⟨j3 + 1, by omega, by omega, fun z hz => ?_, h.drop⟩ (by omega)
      rw [List.take_add_one, hy] at hz
      rcases List.mem_append.1 hz with hz | hz
      · exact hmsg z hz
      · simp at hz; subst hz; exact hmi.1 hb
    rw [List.take_of_length_le (by omega)] at hmsg
    rw [w64 (by omega) (by omega)]
    exact hJ _ _ ⟨k2 + 1, x.Id, _, by omega, by omega, hlast.step hx ((hlast.sorted hk2 a1).2 a3), hseen', all_snoc hall2 hx ⟨a1, a2, a3, a4, a5, hmsg, hsome⟩, h.drop⟩ (by omega)
  have hports : ∀ j y, d.Ports[j]? = some y → PortI d j y := fun j y hy => hall2 j y (by have := (List.getElem?_eq_some_iff.1 hy).1; omega) hy
  have hseenQ : Seen ks (SeenQ d 0) := fun y => by
    rw [hseen y]
    constructor
    · rintro (hh | ⟨j, z, hj, hz, he⟩)
      · exact .inl hh
      · exact .inr (.inl ⟨z, List.mem_of_getElem? hz, he⟩)
    · rintro (hh | ⟨c, hc, he⟩ | ⟨j, z, hj, _⟩)
      · exact .inl hh
      · obtain ⟨j, hj, rfl⟩ := List.getElem_of_mem hc
        exact .inr ⟨j, _, by omega, List.getElem?_eq_getElem hj, he⟩
      · omega
  clear hJ J hseen hlast
  refine h.setV 0 rfl rfl (fun w139 h nw139 => ?_)
  have h : SH w w139 [aB lb ([.int .i64 0].map Ce.v), aB mc ([.map (some mb)].map Ce.v), aSet mb ks, aB sb ((ipcV d.Next sp sc sq).map Ce.v)] := h
  refine ⟨sq, h.cell 3 rfl rfl, ?_⟩
  refine LoopW.m1 (fun (i : Int) w' => ∃ (k : Nat) (last : Int) (ks : List Int), i = k ∧ k ≤ d.Pipes.length ∧ LastI DPipe.Id d.Pipes k last ∧ Seen ks (SeenQ d k) ∧ (∀ j y, j < k → d.Pipes[j]? = some y → PipeI d j y) ∧ SH w w' [aB lb ([.int .i64 last].map Ce.v), aB mc ([.map (some mb)].map Ce.v), aSet mb ks, aB sb ((ipcV d.Next sp sc sq).map Ce.v)]) (fun (i : Int) _ => ((d.Pipes.length : Int) - i).toNat) ⟨0, 0, ks, rfl, by omega, ⟨fun _ => rfl, (fun y h0 => by omega), (fun j y hj => by omega)⟩, hseenQ, (fun j y hj => by omega), h⟩ ?_
  clear hseenQ h
  rintro (i : Int) w143 ⟨k3, last, ks, rfl, hk3, hlast, hseen, hall3, h⟩ J hJ
  rw [hql]
  refine BIf.dec (fun hlt => ?_) (fun hge3 => ?_)
  · obtain ⟨x, hx⟩ : ∃ x, d.Pipes[k3]? = some x := ⟨_, List.getElem?_eq_getElem (by omega)⟩
    obtain ⟨q, tq, hq, hc0, hc1, hc2, hc3, hby⟩ := hd.pipes.get k3 x hx
    have hbl := hby.len
    have hw := hwf x (List.mem_of_getElem? hx)
    refine ⟨by omega, by omega, q, hq, ?_⟩
    rw [Int.toNat_natCast]
    refine ⟨_, h.ext.cell hc0, _, h.ext.cell hc1, _, h.ext.cell hc2, tq, h.ext.cell hc3, ?_⟩
    refine h.alloc (fun w149 h ew149 nw149 => ?_)
    refine h.put 0 rfl rfl rfl (fun w150 h nw150 => ?_)
    generalize w143.heap.size = cb at *
    refine ⟨_, h.cell 0 rfl rfl, (c56 h (a := 1) (m := 2) (t := 3) (s := 4) rfl rfl rfl rfl (by omega)).mono ?_⟩
    rintro _ w153 ⟨rfl, h⟩
    have h : SH w w153 [aB cb ([.int .i64 x.Id, .int .i64 x.Readers, .int .i64 x.Writers, .slice tq.a tq.len tq.cap].map Ce.v), aB lb ([.int .i64 x.Id].map Ce.v), aB mc ([.map (some mb)].map Ce.v), aSet mb (insK ks x.Id), aB sb ((ipcV d.Next sp sc sq).map Ce.v)] := h
    refine ⟨_, rfl, ?_⟩
    refine join_or_ex x.Readers (h.cell 0 rfl rfl) ?_
    refine join_or_ex x.Readers (h.cell 0 rfl rfl) ?_
    refine join_or_ex x.Writers (h.cell 0 rfl rfl) ?_
    refine join_or_ex x.Writers (h.cell 0 rfl rfl) ?_
    refine join_or_ex2 x.Readers x.Writers (h.cell 0 rfl rfl) (h.cell 0 rfl rfl) ?_
    refine join_or_ex tq (h.cell 0 rfl rfl) ?_
    rw [hbl]
    have hiff : (((((((!okId last x.Id d.Next ks) || decide (x.Readers < 0)) || decide (x.Readers > 64)) || decide (x.Writers < 0)) || decide (x.Writers > 64)) || (IntKind.i64.wrap (x.Readers + x.Writers) == 0)) || decide (((x.Data.length : Nat) : Int) > 512)) = false ↔ PipeI d k3 x := by
      simp only [Bool.or_eq_false_iff, Bool.not_eq_false', decide_eq_false_iff_not, okId_iff, beq_eq_false_iff_ne]
      constructor
      · rintro ⟨⟨⟨⟨⟨⟨⟨a1, a2, a3, a4⟩, b1⟩, b2⟩, b3⟩, b4⟩, b5⟩, b6⟩
        rw [w64 (by omega) (by omega)] at b5
        exact ⟨a2, a3, (hlast.sorted hk3 a2).1 a1, fun c hc he => a4 ((hseen _).2 (.inl ⟨c, hc, he⟩)), fun c hc he => a4 ((hseen _).2 (.inr (.inl ⟨c, hc, he⟩))), by omega, by omega, by omega, by omega⟩
      · rintro ⟨a2, a3, a1, a5, a6, b6, b1, b2, b3⟩
        have hlt := (hlast.sorted hk3 a2).2 a1
        rw [w64 (by omega) (by omega)]
        refine ⟨⟨⟨⟨⟨⟨⟨hlt, a2, a3, fun hm => ?_⟩, by omega⟩, by omega⟩, by omega⟩, by omega⟩, by omega⟩, by omega⟩
        rcases (hseen _).1 hm with ⟨c, hc, he⟩ | ⟨c, hc, he⟩ | ⟨j, y, hj, hy, he⟩
        · exact a5 c hc he
        · exact a6 c hc he
        · have := hlast.le j y hj hy; omega
    refine BIf.of (fun hb => kb_f (fun hok => ?_) h.ext) (fun hb => ?_)
    · rw [hiff.2 (pipeI_of hok k3 x hx)] at hb; cases hb
    have hpi := hiff.1 hb
    have hseen' : Seen (insK ks x.Id) (SeenQ d (k3 + 1)) := seen_ins hseen (fun y => by
      constructor
      · rintro (hh | hh | ⟨j, z, hj, hz, he⟩)
        · exact .inl (.inl hh)
        · exact .inl (.inr (.inl hh))
        · by_cases hjk : j = k3
          · subst hjk; rw [hx] at hz; cases hz; exact .inr he.symm
          · exact .inl (.inr (.inr ⟨j, z, by omega, hz, he⟩))
      · rintro ((hh | hh | ⟨j, z, hj, hz, he⟩) | rfl)
        · exact .inl hh
        · exact .inr (.inl hh)
        · exact .inr (.inr ⟨j, z, by omega, hz, he⟩)
        · exact .inr (.inr ⟨k3, x, by omega, hx, rfl⟩))
    rw [w64 (by omega) (by omega)]
    exact hJ _ _ ⟨k3 + 1, x.Id, _, by omega, by omega, hlast.step hx ((hlast.sorted hk3 hpi.id1).2 hpi.sorted), hseen', all_snoc hall3 hx hpi, h.drop⟩ (by omega)
  exact kb_t (IOk_of g1 g2 g3 g4 hcaps hports (fun j y hy => hall3 j y (by have := (List.getElem?_eq_some_iff.1 hy).1; omega) hy)) h.ext
end Go.Proofs.Ytbimoajgofcmbaa

/- Capabilities of a holder, capabilities below another, both sides. Conditions: none. -/
set_option linter.unusedVariables false
set_option linter.unusedSimpArgs false
namespace Go.Proofs.Ytbimoajgofcmbaa
open Go Go.Den
structure PipeWf (d : DIpc) : Prop where
  pipes : ∀ x, x ∈ d.Pipes → (Lit.int .i64 x.Readers).wf = true ∧ (Lit.int .i64 x.Writers).wf = true
open Classical in
noncomputable def capsOfF (d : DIpc) (hl : Int) : List DCap := if IOk d then d.Caps.filter (fun c => c.Holder == hl) else []
def CapsR (l : List DCap) (w : World) (v : Value) (w' : World) : Prop := ∃ t : Sl, v = .slice t.a t.len t.cap ∧ SH w w' [aRow t 5 (recs DCap.cells l)]
theorem capsR_nil {w w' : World} {F : List Asr} (a : Option Addr) (h : SH w w' F) : CapsR [] w (.slice a 0 0) w' := ⟨⟨a, 0, 0⟩, rfl, ((SH.start w).to h.ext).nil a 5⟩
theorem filter_snoc {α : Type} {p : α → Bool} {l : List α} {k : Nat} {x : α} (hx : l[k]? = some x) : (l.take (k + 1)).filter p = (l.take k).filter p ++ (if p x = true then [x] else []) := by
  rw [List.take_add_one, hx, List.filter_append]
  simp only [Option.toList, List.filter_cons, List.filter_nil]
theorem filter_len {α : Type} {p : α → Bool} {l : List α} {k : Nat} : ((l.take k).filter p).length ≤ k := by
  have := List.length_filter_le p (l.take k)
  rw [List.length_take] at this; omega
theorem plain_cap (x : DCap) : ∀ v, v ∈ x.cells → plainB v = true := by
  intro v hv
  simp only [DCap.cells, List.mem_cons, List.not_mem_nil, or_false] at hv
  rcases hv with rfl | rfl | rfl | rfl | rfl <;> rfl
theorem c14 {sp sc sq : Sl} {d : DIpc} {hl : Int} {w : World} (hd : IpcAt w sp sc sq d) (hwf : PipeWf d) : CallW Try.prog 14 #[.agg #[.int .i64 d.Next, .slice sp.a sp.len sp.cap, .slice sc.a sc.len sc.cap, .slice sq.a sq.len sq.cap], .int .i64 hl] w (CapsR (capsOfF d hl) w) := by
  refine go14 ?_
  unfold W14
  have h := SH.start w
  have hcl := hd.caps.len
  have hcf := hd.caps.few
  refine h.alloc (fun w1 h ew1 nw1 => ?_)
  refine h.alloc (fun w2 h ew2 nw2 => ?_)
  have h := h.drop
  refine ⟨_, h.cell 0 rfl rfl, sp, h.cell 0 rfl rfl, sc, h.cell 0 rfl rfl, sq, h.cell 0 rfl rfl, (c10 (hd.ext h.ext) hwf.pipes).mono ?_⟩
  rintro _ w7 ⟨b, rfl, hiff, e⟩
  have h := h.to e
  refine ⟨_, rfl, BIf.of (fun hb => ?_) (fun hb => ?_)⟩
  · have : capsOfF d hl = [] := by unfold capsOfF; rw [if_neg (fun hok => by rw [hiff.2 hok] at hb; cases hb)]
    rw [this]; exact capsR_nil _ h
  have hok : IOk d := hiff.1 (by simpa using hb)
  have hF : capsOfF d hl = d.Caps.filter (fun c => c.Holder == hl) := by unfold capsOfF; rw [if_pos hok]
  rw [hF]
  refine LoopW.m2 (fun (s : Sl) (i : Int) w' => ∃ k : Nat, i = k ∧ k ≤ d.Caps.length ∧ SH w w' [aRow s 5 (recs DCap.cells ((d.Caps.take k).filter (fun c => c.Holder == hl))), aB w.heap.size ((ipcV d.Next sp sc sq).map Ce.v)]) (fun (s : Sl) (i : Int) _ => ((d.Caps.length : Int) - i).toNat) ⟨0, rfl, by omega, h.nil _ 5⟩ ?_
  rintro (s : Sl) (i : Int) w13 ⟨k, rfl, hk, h⟩ J hJ
  refine ⟨sc, h.cell 1 rfl rfl, ?_⟩
  rw [hcl]
  refine BIf.dec (fun hlt => ?_) (fun hge => ?_)
  · obtain ⟨x, hx⟩ : ∃ x, d.Caps[k]? = some x := ⟨_, List.getElem?_eq_getElem (by omega)⟩
    obtain ⟨q, hq, hc⟩ := hd.caps.get (by omega) hx
    rw [Int.toNat_natCast]
    refine ⟨sc, h.cell 1 rfl rfl, by omega, by omega, q, hq, _, h.ext.cell (hc 1 _ rfl), ?_⟩
    rw [w64 (by omega) (by omega)]
    refine BIf.of (fun he => ?_) (fun he => ?_)
    · refine ⟨sc, h.cell 1 rfl rfl, by omega, by omega, q, hq, _, h.ext.cell (hc 0 _ rfl), _, h.ext.cell (hc 1 _ rfl), _, h.ext.cell (hc 2 _ rfl), _, h.ext.cell (hc 3 _ rfl), _, h.ext.cell (hc 4 _ rfl), ?_⟩
      have hfl := filter_len (p := fun c : DCap => c.Holder == hl) (l := d.Caps) (k := k)
      refine LetW_iff.2 (SH.appendR1 (f := DCap.cells) (x := x) h rfl rfl rfl (by decide) (by show _ * 40 ≤ _; omega) (plain_cap x) (fun s' w30 h hl' _ => ?_))
      refine hJ _ _ _ ⟨k + 1, by omega, by omega, ?_⟩ (by omega)
      rw [filter_snoc hx, if_pos he]; exact h
    · refine hJ _ _ _ ⟨k + 1, by omega, by omega, ?_⟩ (by omega)
      rw [filter_snoc hx, if_neg (by simp only [he]; decide), List.append_nil]; exact h
  · rw [List.take_of_length_le (by omega)] at h
    exact ⟨s, rfl, h.one⟩
end Go.Proofs.Ytbimoajgofcmbaa

/- Capabilities below another, both sides. Conditions: none. -/
set_option linter.unusedVariables false
set_option linter.unusedSimpArgs false
namespace Go.Proofs.Ytbimoajgofcmbaa
open Go Go.Den
/-- A number of a capability that is below another one. -/
inductive Und (d : DIpc) (top : Int) : Int → Prop where
  | base {k : Nat} {c : DCap} : d.Caps[k]? = some c → c.Parent ≠ 0 → c.Parent = top → Und d top c.Id
  | step {k : Nat} {c : DCap} : d.Caps[k]? = some c → c.Parent ≠ 0 → Und d top c.Parent → Und d top c.Id
theorem cap_lt {d : DIpc} (h : IOk d) : ∀ (n i j : Nat) (a b : DCap), j = i + n + 1 → d.Caps[i]? = some a → d.Caps[j]? = some b → a.Id < b.Id
  | 0, i, j, a, b, hj, ha, hb => (h.cap j b hb).sorted a (by omega) (by rw [show j - 1 = i by omega]; exact ha)
  | n + 1, i, j, a, b, hj, ha, hb => by
    have hjl := (List.getElem?_eq_some_iff.1 hb).1
    obtain ⟨c, hc⟩ : ∃ c, d.Caps[j - 1]? = some c := ⟨_, List.getElem?_eq_getElem (by omega)⟩
    have h1 := cap_lt h n i (j - 1) a c (by omega) ha hc
    have h2 := (h.cap j b hb).sorted c (by omega) hc
    omega
theorem cap_mono {d : DIpc} (h : IOk d) {i j : Nat} {a b : DCap} (ha : d.Caps[i]? = some a) (hb : d.Caps[j]? = some b) : (a.Id < b.Id ↔ i < j) ∧ (a.Id = b.Id ↔ i = j) := by
  rcases Nat.lt_trichotomy i j with hlt | rfl | hgt
  · have := cap_lt h (j - i - 1) i j a b (by omega) ha hb; constructor <;> constructor <;> intro _ <;> omega
  · rw [ha] at hb; cases hb; simp
  · have := cap_lt h (i - j - 1) j i b a (by omega) hb ha; constructor <;> constructor <;> intro _ <;> omega
theorem par_at {d : DIpc} (h : IOk d) {i : Nat} {c : DCap} (hc : d.Caps[i]? = some c) (h0 : c.Parent ≠ 0) : ∃ (k : Nat) (p : DCap), capIx d c.Parent = k ∧ d.Caps[k]? = some p ∧ p.Id = c.Parent ∧ k < i := by
  rcases (h.cap i c hc).par with h1 | ⟨k, p, hp⟩
  · exact absurd h1 h0
  · have hid := ix_id hp.ix hp.at_
    exact ⟨k, p, hp.ix, hp.at_, hid, (cap_mono h hp.at_ hc).1.1 (by rw [hid]; exact hp.lt)⟩
theorem und_iff {d : DIpc} (h : IOk d) {top : Int} {i : Nat} {c : DCap} (hc : d.Caps[i]? = some c) : Und d top c.Id ↔ c.Parent ≠ 0 ∧ (c.Parent = top ∨ Und d top c.Parent) := by
  constructor
  · intro hu
    generalize hx : c.Id = x at hu
    cases hu with
    | base hk h0 ht =>
      have := (cap_mono h hc hk).2.1 hx
      subst this; rw [hc] at hk; cases hk; exact ⟨h0, .inl ht⟩
    | step hk h0 ht =>
      have := (cap_mono h hc hk).2.1 hx
      subst this; rw [hc] at hk; cases hk; exact ⟨h0, .inr ht⟩
  · rintro ⟨h0, h1 | h1⟩
    · exact .base hc h0 h1
    · exact .step hc h0 h1
theorem und_gt {d : DIpc} (h : IOk d) {top x : Int} (hu : Und d top x) : top < x := by
  induction hu with
  | base hk h0 ht =>
    obtain ⟨j, p, _, hp, hid, hj⟩ := par_at h hk h0
    have := (cap_mono h hp hk).1.2 hj
    omega
  | step hk h0 _ ih =>
    obtain ⟨j, p, _, hp, hid, hj⟩ := par_at h hk h0
    have := (cap_mono h hp hk).1.2 hj
    omega
theorem und_cap {d : DIpc} (h : IOk d) {top x : Int} (hu : Und d top x) : ∃ c, c ∈ d.Caps ∧ c.Id = top := by
  induction hu with
  | base hk h0 ht =>
    obtain ⟨j, p, _, hp, hid, hj⟩ := par_at h hk h0
    exact ⟨p, List.mem_of_getElem? hp, by omega⟩
  | step _ _ _ ih => exact ih
open Classical in
noncomputable def belowF (d : DIpc) (top : Int) : List Int := if IOk d then (d.Caps.filter (fun c => decide (Und d top c.Id))).map DCap.Id else []
theorem c65 {n : Int} {sp sc sq : Sl} {d : DIpc} {top : Int} {i : Nat} {c : DCap} {w : World} (hd : IpcAt w sp sc sq d) (hok : IOk d) (hc : d.Caps[i]? = some c) : CallW Try.prog 65 #[.agg #[.int .i64 n, .slice sp.a sp.len sp.cap, .slice sc.a sc.len sc.cap, .slice sq.a sq.len sq.cap], .int .i64 c.Id, .int .i64 top] w (KB (Und d top c.Id) w) := by
  refine go65 ?_
  unfold W65
  have h := SH.start w
  have hcl := hd.caps.len
  have hcf := hok.caps
  have hil := (List.getElem?_eq_some_iff.1 hc).1
  refine h.alloc (fun w1 h ew1 nw1 => ?_)
  refine LoopW.m2 (fun (x m : Int) w' => ∃ (k j : Nat) (y : DCap), m = k ∧ k + j ≤ i ∧ d.Caps[j]? = some y ∧ x = y.Id ∧ (Und d top c.Id ↔ Und d top x) ∧ SH w w' [aB w.heap.size ((ipcV n sp sc sq).map Ce.v)]) (fun (x m : Int) _ => ((i : Int) + 1 - m).toNat) ⟨0, i, c, rfl, by omega, hc, rfl, Iff.rfl, h⟩ ?_
  rintro (x : Int) (m : Int) w5 ⟨k, j, y, rfl, hkj, hy, rfl, hiff, h⟩ J hJ
  refine ⟨sc, h.cell 0 rfl rfl, ?_⟩
  rw [hcl]
  refine BIf.t (decide_eq_true (by omega)) ?_
  refine ⟨_, h.cell 0 rfl rfl, sp, h.cell 0 rfl rfl, sc, h.cell 0 rfl rfl, sq, h.cell 0 rfl rfl, (c86 (hd.ext h.ext)).mono ?_⟩
  rintro _ w12 ⟨rfl, e⟩
  have h := h.to e
  have hix : capIx d y.Id = j := by
    obtain ⟨k', y', h1, h2, h3⟩ := idx_get (p := fun c : DCap => c.Id == y.Id) (l := d.Caps) (by
      rcases idx_cases (fun c : DCap => c.Id == y.Id) d.Caps with ⟨_, hn⟩ | ⟨k', x', h1, _⟩
      · have := hn y (List.mem_of_getElem? hy); simp at this
      · rw [h1]; omega)
    have h3 : y'.Id = y.Id := by simpa using h3
    have := (cap_mono hok h2 hy).2.1 h3
    show idxFrom _ _ _ = _
    rw [h1, this]
  rw [hix]
  obtain ⟨q, hq, hcc⟩ := hd.caps.get (by omega) hy
  have hjl := (List.getElem?_eq_some_iff.1 hy).1
  refine ⟨_, rfl, ?_⟩
  refine JoinW.cut1 (fun (b : Bool) w' => b = (y.Parent == 0) ∧ w' = w12) ?_ ?_
  · refine BIf.f (decide_eq_false (by omega)) ?_
    exact ⟨sc, h.cell 0 rfl rfl, by omega, by omega, q, hq, _, h.ext.cell (hcc 4 _ rfl), rfl, rfl⟩
  rintro (b : Bool) w16 ⟨rfl, rfl⟩
  refine BIf.of (fun h0 => kb_f (fun hu => ?_) h.ext) (fun h0 => ?_)
  · have := ((und_iff hok hy).1 (hiff.1 hu)).1
    exact this (by simpa using h0)
  have h0 : y.Parent ≠ 0 := by simpa using h0
  refine ⟨sc, h.cell 0 rfl rfl, by omega, by omega, q, hq, _, h.ext.cell (hcc 4 _ rfl), ?_⟩
  refine BIf.eq (fun he => kb_t (hiff.2 ((und_iff hok hy).2 ⟨h0, .inl he⟩)) h.ext) (fun he => ?_)
  obtain ⟨j', p, _, hp, hid, hj'⟩ := par_at hok hy h0
  rw [w64 (by omega) (by omega)]
  refine hJ _ _ _ ⟨k + 1, j', p, by omega, by omega, hp, hid.symm, ?_, h⟩ (by omega)
  rw [hiff, und_iff hok hy]
  exact ⟨fun hh => by rcases hh.2 with h1 | h1; exact absurd h1 he; exact h1, fun hh => ⟨h0, .inr hh⟩⟩
def IdsR (l : List Int) (w : World) (v : Value) (w' : World) : Prop := ∃ t : Sl, v = .slice t.a t.len t.cap ∧ SH w w' [aRow t 1 (nums .i64 l)]
theorem idsR_nil {w w' : World} {F : List Asr} (a : Option Addr) (h : SH w w' F) : IdsR [] w (.slice a 0 0) w' := ⟨⟨a, 0, 0⟩, rfl, ((SH.start w).to h.ext).nil a 1⟩
/-- What the program's pass over the capabilities has marked. -/
structure Marks (d : DIpc) (top : Int) (k : Nat) (ks : List Int) : Prop where
  pos : ∀ x, x ∈ ks → 1 ≤ x
  of : ∀ x, x ∈ ks → x = top ∨ ∃ j y, j < k ∧ d.Caps[j]? = some y ∧ y.Id = x
  iff : ∀ j y, j < k → d.Caps[j]? = some y → (y.Id ∈ ks ↔ y.Id = top ∨ Und d top y.Id)
  top_ : top ∈ ks
  nd : ks.Nodup
theorem insK_nd {ks : List Int} {n : Int} (h : ks.Nodup) : (insK ks n).Nodup := by
  unfold insK
  split
  · exact h
  · rename_i hn
    rw [List.nodup_append]
    exact ⟨h, by simp, fun a ha b hb hab => by rw [List.mem_singleton.1 hb] at hab; exact hn (hab ▸ ha)⟩
theorem c66 {b : Nat} {top : Int} {sp sc sq : Sl} {d : DIpc} {w : World} (hc2 : w.cell? ⟨b, 2, none⟩ = some (.slice sc.a sc.len sc.cap)) (hd : IpcAt w sp sc sq d) (hok : IOk d) (htop : ∃ c, c ∈ d.Caps ∧ c.Id = top) :
    CallW Try.prog 66 #[.pointer (some ⟨b, 0, none⟩), .int .i64 top] w (fun v w' => ∃ (m : Nat) (ks : List Int), v = .map (some m) ∧ (∀ (j : Nat) (y : DCap), d.Caps[j]? = some y → (y.Id ∈ ks ↔ Und d top y.Id)) ∧ ks.Nodup ∧ (∀ x, x ∈ ks → ∃ c, c ∈ d.Caps ∧ c.Id = x) ∧ SH w w' [aSet m ks]) := by
  refine go66 ?_
  unfold W66
  have h := SH.start w
  have hcl := hd.caps.len
  have hcf := hd.caps.few
  obtain ⟨ct, hct, rfl⟩ := htop
  obtain ⟨it, hit, rfl⟩ := List.getElem_of_mem hct
  have htc := List.getElem?_eq_getElem hit
  have ht1 := (hok.cap it _ htc).id1
  generalize d.Caps[it] = ct at *
  refine h.newMap (fun w1 h nw1 => ?_)
  generalize w.heap.size = m at *
  refine h.putSet 0 rfl ct.Id (fun w2 h nw2 => ?_)
  refine ⟨_, rfl, sc, h.ext.cell hc2, ?_⟩
  refine LoopW.m1 (fun (i : Int) w' => ∃ (k : Nat) (ks : List Int), i = k ∧ k ≤ d.Caps.length ∧ Marks d ct.Id k ks ∧ SH w w' [aSet m ks]) (fun (i : Int) _ => ((d.Caps.length : Int) - i).toNat) ⟨0, _, rfl, by omega, ⟨fun x hx => ?_, fun x hx => .inl (by simpa [insK] using hx), (fun j y hj => by omega), by simp [insK], by simp [insK]⟩, h⟩ ?_
  · have : x = ct.Id := by simpa [insK] using hx
    omega
  rintro (i : Int) w7 ⟨k, ks, rfl, hk, hm, h⟩ J hJ
  rw [hcl]
  refine BIf.dec (fun hlt => ?_) (fun hge => ?_)
  · obtain ⟨x, hx⟩ : ∃ x, d.Caps[k]? = some x := ⟨_, List.getElem?_eq_getElem (by omega)⟩
    obtain ⟨q, hq, hc⟩ := hd.caps.get (by omega) hx
    refine ⟨by omega, by omega, q, hq, ?_⟩
    rw [Int.toNat_natCast]
    refine ⟨_, h.ext.cell (hc 0 _ rfl), _, h.ext.cell (hc 1 _ rfl), _, h.ext.cell (hc 2 _ rfl), _, h.ext.cell (hc 3 _ rfl), _, h.ext.cell (hc 4 _ rfl), ?_⟩
    refine h.alloc (fun w14 h ew14 nw14 => ?_)
    refine h.put 0 rfl rfl rfl (fun w15 h nw15 => ?_)
    generalize w7.heap.size = cb at *
    have h : SH w w15 [aB cb (x.cells.map Ce.v), aSet m ks] := h
    rw [w64 (by omega) (by omega)]
    have hpar : x.Parent ∈ ks ↔ x.Parent ≠ 0 ∧ (x.Parent = ct.Id ∨ Und d ct.Id x.Parent) := by
      by_cases h0 : x.Parent = 0
      · constructor
        · intro hh; have := hm.pos _ hh; omega
        · intro hh; exact absurd h0 hh.1
      · obtain ⟨j, p, _, hp, hid, hj⟩ := par_at hok hx h0
        have := hm.iff j p hj hp
        rw [hid] at this
        rw [this]
        exact ⟨fun hh => ⟨h0, hh⟩, fun hh => hh.2⟩
    have hnot : x.Id ∈ ks → x.Id = ct.Id := fun hh => by
      rcases hm.of _ hh with h1 | ⟨j, y, hj, hy, he⟩
      · exact h1
      · have := (cap_mono hok hy hx).2.1 he; omega
    refine ⟨_, h.cell 0 rfl rfl, h.getSet 1 rfl _ (fun o ho => ⟨_, ho, ?_⟩)⟩
    refine BIf.dec (fun hin => ?_) (fun hin => ?_)
    · refine ⟨_, h.cell 0 rfl rfl, h.putSet 1 rfl _ (fun w20 h nw20 => ?_)⟩
      refine hJ _ _ ⟨k + 1, _, by omega, by omega, ⟨fun y hy => ?_, fun y hy => ?_, fun j y hj hy => ?_, mem_insK.2 (.inl hm.top_), insK_nd hm.nd⟩, h.drop⟩ (by omega)
      · rcases mem_insK.1 hy with hy | rfl
        · exact hm.pos y hy
        · exact (hok.cap k x hx).id1
      · rcases mem_insK.1 hy with hy | rfl
        · rcases hm.of y hy with h1 | ⟨j, z, hj, hz⟩
          · exact .inl h1
          · exact .inr ⟨j, z, by omega, hz⟩
        · exact .inr ⟨k, x, by omega, hx, rfl⟩
      · rw [mem_insK]
        by_cases hjk : j = k
        · subst hjk; rw [hx] at hy; cases hy
          exact ⟨fun _ => .inr ((und_iff hok hx).2 (hpar.1 hin)), fun _ => .inr rfl⟩
        · rw [← hm.iff j y (by omega) hy]
          exact ⟨fun hh => by
            rcases hh with hh | hh
            · exact hh
            · have := (cap_mono hok hy hx).2.1 hh; omega, .inl⟩
    · refine hJ _ _ ⟨k + 1, ks, by omega, by omega, ⟨hm.pos, fun y hy => ?_, fun j y hj hy => ?_, hm.top_, hm.nd⟩, h.drop⟩ (by omega)
      · rcases hm.of y hy with h1 | ⟨j, z, hj, hz⟩
        · exact .inl h1
        · exact .inr ⟨j, z, by omega, hz⟩
      · by_cases hjk : j = k
        · subst hjk; rw [hx] at hy; cases hy
          constructor
          · intro hh; exact .inl (hnot hh)
          · rintro (hh | hh)
            · rw [hh]; exact hm.top_
            · exact absurd (hpar.2 ((und_iff hok hx).1 hh)) hin
        · exact hm.iff j y (by omega) hy
  · obtain rfl : k = d.Caps.length := by omega
    refine h.delSet 0 rfl _ (fun w21 h nw21 => ?_)
    refine ⟨m, _, rfl, fun j y hy => ?_, hm.nd.erase _, fun x hx => ?_, h⟩
    · rw [hm.nd.mem_erase_iff, hm.iff j y (List.getElem?_eq_some_iff.1 hy).1 hy]
      constructor
      · rintro ⟨h1, h2 | h2⟩
        · exact absurd h2 h1
        · exact h2
      · intro hu
        exact ⟨fun he => by have := und_gt hok hu; omega, .inr hu⟩
    · rcases hm.of x (List.mem_of_mem_erase hx) with h1 | ⟨j, y, _, hy, he⟩
      · exact ⟨ct, List.mem_of_getElem? htc, h1.symm⟩
      · exact ⟨y, List.mem_of_getElem? hy, he⟩
open Classical in
theorem c21 {sp sc sq : Sl} {d : DIpc} {top : Int} {w : World} (hd : IpcAt w sp sc sq d) (hwf : PipeWf d) : CallW Try.prog 21 #[.agg #[.int .i64 d.Next, .slice sp.a sp.len sp.cap, .slice sc.a sc.len sc.cap, .slice sq.a sq.len sq.cap], .int .i64 top] w (IdsR (belowF d top) w) := by
  refine go21 ?_
  unfold W21
  have h := SH.start w
  have hcl := hd.caps.len
  have hcf := hd.caps.few
  refine h.alloc (fun w1 h ew1 nw1 => ?_)
  refine ⟨_, h.cell 0 rfl rfl, sp, h.cell 0 rfl rfl, sc, h.cell 0 rfl rfl, sq, h.cell 0 rfl rfl, (c12 (hd.ext h.ext) hwf.pipes).mono ?_⟩
  rintro _ w7 ⟨b, rfl, hiff, e⟩
  have h : SH w w7 [aB w.heap.size ((ipcV d.Next sp sc sq).map Ce.v)] := h.to e
  refine ⟨_, rfl, ?_⟩
  refine JoinW.cut1 (fun (r : Bool) w' => r = ((!b) || decide (capIx d top < 0)) ∧ w' = w7) ?_ ?_
  · refine BIf.of (fun hb => ⟨by rw [hb]; rfl, rfl⟩) (fun hb => ?_)
    refine (c59 (h.cell 0 rfl rfl) (hd.ext h.ext)).mono ?_
    rintro _ w36 ⟨rfl, rfl⟩
    exact ⟨_, rfl, by rw [cap_some hd, hb]; rfl, rfl⟩
  rintro (r : Bool) w11 ⟨rfl, rfl⟩
  refine BIf.of (fun hb => ?_) (fun hb => ?_)
  · have : belowF d top = [] := by
      unfold belowF
      split
      · rename_i hok
        have hb' : capIx d top < 0 := by
          rw [hiff.2 hok] at hb; simpa using hb
        rw [List.map_eq_nil_iff, List.filter_eq_nil_iff]
        intro c hc hu
        obtain ⟨c', hc', he⟩ := und_cap hok (of_decide_eq_true hu)
        exact capIx_neg.1 hb' c' hc' he
      · rfl
    rw [this]; exact idsR_nil _ h
  simp only [Bool.or_eq_false_iff, Bool.not_eq_false', decide_eq_false_iff_not] at hb
  have hok : IOk d := hiff.1 hb.1
  have hF : belowF d top = (d.Caps.filter (fun c => decide (Und d top c.Id))).map DCap.Id := by unfold belowF; rw [if_pos hok]
  rw [hF]
  have htop : ∃ c, c ∈ d.Caps ∧ c.Id = top := by
    obtain ⟨k', y', _, h2, h3⟩ := idx_get (p := fun c : DCap => c.Id == top) (l := d.Caps) (show 0 ≤ capIx d top by omega)
    exact ⟨y', List.mem_of_getElem? h2, by simpa using h3⟩
  refine (c66 (h.cell 0 rfl rfl) (hd.ext h.ext) hok htop).mono ?_
  rintro _ w13 ⟨m, ks, rfl, hks, _, _, g⟩
  have h : SH w w13 [aSet m ks, aB w.heap.size ((ipcV d.Next sp sc sq).map Ce.v)] := h.seq g
  refine ⟨some m, rfl, sc, h.cell 1 rfl rfl, ?_⟩
  refine LoopW.m2 (fun (s : Sl) (i : Int) w' => ∃ k : Nat, i = k ∧ k ≤ d.Caps.length ∧ SH w w' [aRow s 1 (nums .i64 (((d.Caps.take k).filter (fun c => decide (Und d top c.Id))).map DCap.Id)), aSet m ks]) (fun (s : Sl) (i : Int) _ => ((d.Caps.length : Int) - i).toNat) ⟨0, rfl, by omega, h.one.nil _ 1⟩ ?_
  rintro (s : Sl) (i : Int) w19 ⟨k, rfl, hk, h⟩ J hJ
  rw [hcl]
  refine BIf.dec (fun hlt => ?_) (fun hge => ?_)
  · obtain ⟨x, hx⟩ : ∃ x, d.Caps[k]? = some x := ⟨_, List.getElem?_eq_getElem (by omega)⟩
    obtain ⟨q, hq, hc⟩ := hd.caps.get (by omega) hx
    refine ⟨by omega, by omega, q, hq, ?_⟩
    rw [Int.toNat_natCast]
    refine ⟨_, h.ext.cell (hc 0 _ rfl), _, h.ext.cell (hc 1 _ rfl), _, h.ext.cell (hc 2 _ rfl), _, h.ext.cell (hc 3 _ rfl), _, h.ext.cell (hc 4 _ rfl), ?_⟩
    refine h.alloc (fun w26 h ew26 nw26 => ?_)
    refine h.put 0 rfl rfl rfl (fun w27 h nw27 => ?_)
    generalize w19.heap.size = cb at *
    rw [w64 (by omega) (by omega)]
    have hfl := filter_len (p := fun c : DCap => decide (Und d top c.Id)) (l := d.Caps) (k := k)
    refine ⟨_, h.cell 0 rfl rfl, h.getSet 2 rfl _ (fun o ho => ⟨_, ho, ?_⟩)⟩
    refine BIf.dec (fun he => ?_) (fun he => ?_)
    · refine ⟨_, h.cell 0 rfl rfl, ?_⟩
      refine LetW_iff.2 (SH.appendN1 h.p1 rfl rfl (by decide) (by rw [List.length_map]; show _ * 8 ≤ _; omega) (fun s' w30 h hl' _ => ?_))
      refine hJ _ _ _ ⟨k + 1, by omega, by omega, ?_⟩ (by omega)
      rw [filter_snoc hx, if_pos (decide_eq_true ((hks k x hx).1 he)), List.map_append]; exact h.p1.drop
    · refine hJ _ _ _ ⟨k + 1, by omega, by omega, ?_⟩ (by omega)
      rw [filter_snoc hx, if_neg (fun hh => he ((hks k x hx).2 (of_decide_eq_true hh))), List.append_nil]; exact h.drop
  · rw [List.take_of_length_le (by omega)] at h
    exact ⟨s, rfl, h.one⟩
end Go.Proofs.Ytbimoajgofcmbaa

/- The laws IpcOk, CapsOf, CapsBelow: both sides in one form. Conditions: none. -/
set_option linter.unusedVariables false
set_option linter.unusedSimpArgs false
namespace Go.Proofs.Ytbimoajgofcmbaa
open Go Go.Den
/-! ## IpcOk -/
/-! ## How many marks -/
/-! ## CapsOf, CapsBelow -/
theorem capsOf_sub {d : DIpc} {hl : Int} : (∀ c, c ∈ capsOfF d hl → c ∈ d.Caps) ∧ (capsOfF d hl).length ≤ d.Caps.length := by
  unfold capsOfF
  split
  · exact ⟨fun c hc => (List.mem_filter.1 hc).1, List.length_filter_le _ _⟩
  · exact ⟨(fun c hc => by cases hc), Nat.zero_le _⟩
theorem below_sub {d : DIpc} {top : Int} : (∀ n, n ∈ belowF d top → ∃ c, c ∈ d.Caps ∧ c.Id = n) ∧ (belowF d top).length ≤ d.Caps.length := by
  unfold belowF
  split
  · refine ⟨fun n hn => ?_, by rw [List.length_map]; exact List.length_filter_le _ _⟩
    obtain ⟨c, hc, rfl⟩ := List.mem_map.1 hn
    exact ⟨c, (List.mem_filter.1 hc).1, rfl⟩
  · exact ⟨(fun c hc => by cases hc), Nat.zero_le _⟩
end Go.Proofs.Ytbimoajgofcmbaa

/- Ports, capabilities, pipes: what a step does (plain). Conditions: none. -/
set_option linter.unusedVariables false
set_option linter.unusedSimpArgs false
namespace Go.Proofs.Ytbimoajgofcmbaa
open Go Go.Den
abbrev IRes := DIpc × DIpcRes
def resE (c : Int) : DIpcRes := ⟨c, 0, [], 0⟩
def resN (n : Int) : DIpcRes := ⟨0, n, [], 0⟩
/-- The one at a place that may be none (below zero). -/
def atI {α : Type} (l : List α) (i : Int) : Option α := if i < 0 then none else l[i.toNat]?
theorem atI_nat {α : Type} {l : List α} {i : Nat} : atI l (i : Int) = l[i]? := by unfold atI; rw [if_neg (by omega), Int.toNat_natCast]
def capOf (d : DIpc) (id : Int) : Option DCap := atI d.Caps (capIx d id)
def pipeOf (d : DIpc) (id : Int) : Option DPipe := atI d.Pipes (pipeIx d id)
def portOf (d : DIpc) (id : Int) : Option DPort := atI d.Ports (portIx d id)
theorem capIx_cases (d : DIpc) (id : Int) : (capIx d id = -1 ∧ capOf d id = none ∧ ∀ c, c ∈ d.Caps → c.Id ≠ id) ∨ ∃ (k : Nat) (c : DCap), capIx d id = k ∧ d.Caps[k]? = some c ∧ capOf d id = some c ∧ c.Id = id := by
  unfold capOf capIx
  rcases idxFrom_spec (fun c : DCap => c.Id == id) d.Caps 0 with ⟨h1, h2⟩ | ⟨i, x, h1, h2, h3, _⟩
  · refine .inl ⟨h1, by rw [h1]; rfl, fun c hc e => ?_⟩
    have := h2 c hc
    simp [e] at this
  · rw [Nat.zero_add] at h1
    exact .inr ⟨i, x, h1, h2, by rw [h1, atI_nat]; exact h2, by simpa using h3⟩
theorem portIx_cases (d : DIpc) (id : Int) : (portIx d id = -1 ∧ portOf d id = none ∧ ∀ c, c ∈ d.Ports → c.Id ≠ id) ∨ ∃ (k : Nat) (c : DPort), portIx d id = k ∧ d.Ports[k]? = some c ∧ portOf d id = some c ∧ c.Id = id := by
  unfold portOf portIx
  rcases idxFrom_spec (fun c : DPort => c.Id == id) d.Ports 0 with ⟨h1, h2⟩ | ⟨i, x, h1, h2, h3, _⟩
  · refine .inl ⟨h1, by rw [h1]; rfl, fun c hc e => ?_⟩
    have := h2 c hc
    simp [e] at this
  · rw [Nat.zero_add] at h1
    exact .inr ⟨i, x, h1, h2, by rw [h1, atI_nat]; exact h2, by simpa using h3⟩
theorem pipeIx_cases (d : DIpc) (id : Int) : (pipeIx d id = -1 ∧ pipeOf d id = none ∧ ∀ c, c ∈ d.Pipes → c.Id ≠ id) ∨ ∃ (k : Nat) (c : DPipe), pipeIx d id = k ∧ d.Pipes[k]? = some c ∧ pipeOf d id = some c ∧ c.Id = id := by
  unfold pipeOf pipeIx
  rcases idxFrom_spec (fun c : DPipe => c.Id == id) d.Pipes 0 with ⟨h1, h2⟩ | ⟨i, x, h1, h2, h3, _⟩
  · refine .inl ⟨h1, by rw [h1]; rfl, fun c hc e => ?_⟩
    have := h2 c hc
    simp [e] at this
  · rw [Nat.zero_add] at h1
    exact .inr ⟨i, x, h1, h2, by rw [h1, atI_nat]; exact h2, by simpa using h3⟩
def addCap (d : DIpc) (hl p r par : Int) : DIpc := ⟨d.Next + 1, d.Ports, d.Caps ++ [⟨d.Next + 1, hl, p, r, par⟩], d.Pipes⟩
def hasCap (cs : List DCap) (p : DPort) : Bool := cs.any (fun c => c.Port == p.Id)
/-- Ports without a Cap go. -/
def cleanF (d : DIpc) : DIpc := ⟨d.Next, d.Ports.filter (hasCap d.Caps), d.Caps, d.Pipes⟩
def reCap (id par : Int) (x : DCap) : DCap := if x.Parent = id then ⟨x.Id, x.Holder, x.Port, x.Rights, par⟩ else x
def dropC (cs : List DCap) (id par : Int) : List DCap := (cs.filter (fun x => x.Id != id)).map (reCap id par)
def dropF (d : DIpc) (id : Int) : DIpc := match capOf d id with
  | none => d
  | some c => ⟨d.Next, d.Ports, dropC d.Caps id c.Parent, d.Pipes⟩
open Classical in
noncomputable def revC (d : DIpc) (top : Int) : List DCap := d.Caps.filter (fun c => !decide (Und d top c.Id))
noncomputable def revF (d : DIpc) (top : Int) : IRes := (⟨d.Next, d.Ports, revC d top, d.Pipes⟩, resN ((d.Caps.length : Int) - ((revC d top).length : Int)))
def giveI (d : DIpc) (o : DIpcOp) (c : DCap) : IRes :=
  if o.To < 0 ∨ 64 ≤ o.To ∨ o.Rights < 1 ∨ 7 < o.Rights then (d, resE 1)
  else if amongB 4 c.Rights = false ∨ amongB o.Rights c.Rights = false then (d, resE 2)
  else if 128 ≤ d.Caps.length then (d, resE 18)
  else (addCap d o.To c.Port o.Rights c.Id, resN (d.Next + 1))
def heardB (d : DIpc) (c : DCap) : Bool := d.Caps.any (fun x => x.Port == c.Port && amongB 2 x.Rights)
def setQ (d : DIpc) (k : Nat) (p : DPort) (q : List DMsg) : DIpc := ⟨d.Next, d.Ports.set k ⟨p.Id, q⟩, d.Caps, d.Pipes⟩
def pushI (d : DIpc) (o : DIpcOp) (c : DCap) : IRes :=
  if heardB d c = false then (d, resE 10)
  else match portOf d c.Port with
    | none => (d, resE 10)
    | some p => if 8 ≤ p.Queue.length then (d, resE 9) else (setQ d (portIx d c.Port).toNat p (p.Queue ++ [⟨o.Holder, o.Data, o.Cap⟩]), resN 0)
def sendI (d : DIpc) (o : DIpcOp) (c : DCap) : IRes :=
  if amongB 1 c.Rights = false then (d, resE 2)
  else if 64 < o.Data.length then (d, resE 16)
  else if o.Cap ≠ 0 then (match capOf d o.Cap with
    | none => (d, resE 5)
    | some k => if k.Holder ≠ o.Holder then (d, resE 5) else if amongB 4 k.Rights = false then (d, resE 2) else pushI d o c)
  else pushI d o c
def recvI (d : DIpc) (o : DIpcOp) (c : DCap) : IRes :=
  if amongB 2 c.Rights = false then (d, resE 2)
  else match portOf d c.Port with
    | none => (d, resE 9)
    | some p => match p.Queue with
      | [] => (d, resE 9)
      | m :: r => match capOf d m.Cap with
        | none => (setQ d (portIx d c.Port).toNat p r, ⟨0, 0, m.Data, m.From⟩)
        | some x => if 0 < m.Cap ∧ d.Caps.length < 128 then (addCap (setQ d (portIx d c.Port).toNat p r) o.Holder x.Port x.Rights m.Cap, ⟨0, d.Next + 1, m.Data, m.From⟩) else (setQ d (portIx d c.Port).toNat p r, ⟨0, 0, m.Data, m.From⟩)
noncomputable def capI (d : DIpc) (o : DIpcOp) (c : DCap) : IRes :=
  if o.Kind = 2 then giveI d o c
  else if o.Kind = 3 then revF d o.Id
  else if o.Kind = 4 then (cleanF (dropF d o.Id), resN 0)
  else if o.Kind = 5 then sendI d o c
  else recvI d o c
def idsOf (d : DIpc) (hl : Int) : List Int := (d.Caps.filter (fun c => c.Holder == hl)).map DCap.Id
def goneI (d : DIpc) (o : DIpcOp) : IRes := (cleanF ((idsOf d o.Holder).foldl dropF d), resN ((idsOf d o.Holder).length : Int))
def setP (d : DIpc) (k : Nat) (p : DPipe) : DIpc := ⟨d.Next, d.Ports, d.Caps, d.Pipes.set k p⟩
def endsI (d : DIpc) (o : DIpcOp) (k : Nat) (p : DPipe) : IRes :=
  if o.To < -p.Readers ∨ 64 - p.Readers < o.To ∨ o.N < -p.Writers ∨ 64 - p.Writers < o.N then (d, resE 1)
  else if (p.Readers + o.To) + (p.Writers + o.N) = 0 then (⟨d.Next, d.Ports, d.Caps, d.Pipes.eraseIdx k⟩, resN 0)
  else (setP d k ⟨p.Id, p.Readers + o.To, p.Writers + o.N, p.Data⟩, resN 0)
def wlen (o : DIpcOp) (p : DPipe) : Nat := min (512 - p.Data.length) o.Data.length
def writeI (d : DIpc) (o : DIpcOp) (k : Nat) (p : DPipe) : IRes :=
  if p.Readers = 0 then (d, resE 10)
  else if wlen o p = 0 ∧ 0 < o.Data.length then (d, resE 9)
  else (setP d k ⟨p.Id, p.Readers, p.Writers, p.Data ++ o.Data.take (wlen o p)⟩, resN (wlen o p : Nat))
def rlen (o : DIpcOp) (p : DPipe) : Nat := min o.N.toNat p.Data.length
def readI (d : DIpc) (o : DIpcOp) (k : Nat) (p : DPipe) : IRes :=
  if o.N < 0 ∨ 1024 < o.N then (d, resE 1)
  else if p.Data.length = 0 ∧ 0 < p.Writers ∧ 0 < o.N then (d, resE 9)
  else (setP d k ⟨p.Id, p.Readers, p.Writers, p.Data.drop (rlen o p)⟩, ⟨0, 0, p.Data.take (rlen o p), 0⟩)
def pipeI (d : DIpc) (o : DIpcOp) (k : Nat) (p : DPipe) : IRes :=
  if o.Kind = 9 then endsI d o k p else if o.Kind = 10 then writeI d o k p else readI d o k p
def newPort (d : DIpc) (o : DIpcOp) : IRes :=
  if 32 ≤ d.Ports.length ∨ 128 ≤ d.Caps.length then (d, resE 18)
  else (⟨d.Next + 2, d.Ports ++ [⟨d.Next + 1, []⟩], d.Caps ++ [⟨d.Next + 2, o.Holder, d.Next + 1, 7, 0⟩], d.Pipes⟩, resN (d.Next + 2))
def newPipe (d : DIpc) : IRes :=
  if 32 ≤ d.Pipes.length then (d, resE 18)
  else (⟨d.Next + 1, d.Ports, d.Caps, d.Pipes ++ [⟨d.Next + 1, 1, 1, []⟩]⟩, resN (d.Next + 1))
def BadO (o : DIpcOp) : Prop := o.Holder < 0 ∨ 64 ≤ o.Holder ∨ o.Kind < 1 ∨ 11 < o.Kind
instance (o : DIpcOp) : Decidable (BadO o) := by unfold BadO; infer_instance
noncomputable def stepI (d : DIpc) (o : DIpcOp) : IRes :=
  if BadO o then (d, resE 1)
  else if o.Kind = 1 then newPort d o
  else if o.Kind = 7 then goneI d o
  else if o.Kind = 8 then newPipe d
  else if 9 ≤ o.Kind then (match pipeOf d o.Id with
    | none => (d, resE 5)
    | some p => pipeI d o (pipeIx d o.Id).toNat p)
  else match capOf d o.Id with
    | none => (d, resE 5)
    | some c => if c.Holder ≠ o.Holder then (d, resE 5) else capI d o c
end Go.Proofs.Ytbimoajgofcmbaa

/- Ports, capabilities, pipes: the state in parts of one's own, rows and bags; it is lent. Conditions: none. -/
set_option linter.unusedVariables false
set_option linter.unusedSimpArgs false
namespace Go.Proofs.Ytbimoajgofcmbaa
open Go Go.Den
structure RMsg where
  From : Int
  D : Sl
  Cap : Int
  Data : List Int
def RMsg.cells (x : RMsg) : List Value := [.int .i64 x.From, .slice x.D.a x.D.len x.D.cap, .int .i64 x.Cap]
def RMsg.abs (x : RMsg) : DMsg := ⟨x.From, x.Data, x.Cap⟩
structure RPort where
  Id : Int
  q : Sl
  Q : List RMsg
def RPort.cells (x : RPort) : List Value := [.int .i64 x.Id, .slice x.q.a x.q.len x.q.cap]
def RPort.abs (x : RPort) : DPort := ⟨x.Id, x.Q.map RMsg.abs⟩
structure RPipe where
  Id : Int
  R : Int
  W : Int
  D : Sl
  Data : List Int
def RPipe.cells (x : RPipe) : List Value := [.int .i64 x.Id, .int .i64 x.R, .int .i64 x.W, .slice x.D.a x.D.len x.D.cap]
def RPipe.abs (x : RPipe) : DPipe := ⟨x.Id, x.R, x.W, x.Data⟩
structure RIpc where
  Next : Int
  Ports : List RPort
  Caps : List DCap
  Pipes : List RPipe
def RIpc.abs (r : RIpc) : DIpc := ⟨r.Next, r.Ports.map RPort.abs, r.Caps, r.Pipes.map RPipe.abs⟩
abbrev rD (t : Sl) (l : List Int) : Asr := aRow t 1 (nums .u8 l)
def msgA (x : RMsg) : Asr := rD x.D x.Data
abbrev rM (t : Sl) (l : List RMsg) : Asr := aRow t 3 (recs RMsg.cells l)
def portA (x : RPort) : Asr := All [rM x.q x.Q, aBag msgA x.Q]
def pipeA (x : RPipe) : Asr := rD x.D x.Data
abbrev rP (t : Sl) (l : List RPort) : Asr := aRow t 2 (recs RPort.cells l)
abbrev rC (t : Sl) (l : List DCap) : Asr := aRow t 5 (recs DCap.cells l)
abbrev rQ (t : Sl) (l : List RPipe) : Asr := aRow t 4 (recs RPipe.cells l)
structure Byts (m : List Int) : Prop where
  rng : ∀ x, x ∈ m → 0 ≤ x ∧ x ≤ 255
  few : m.length ≤ 1048576
structure IWf (d : DIpc) : Prop where
  msgs : ∀ p, p ∈ d.Ports → ∀ m, m ∈ p.Queue → Byts m.Data
  pipes : ∀ p, p ∈ d.Pipes → Byts p.Data
  pw : PipeWf d
  few : d.Caps.length ≤ 1048576 ∧ d.Ports.length ≤ 1048576 ∧ d.Pipes.length ≤ 1048576
  queues : ∀ p, p ∈ d.Ports → p.Queue.length ≤ 1048576
theorem map_get {α β : Type} {f : α → β} {l : List α} {i : Nat} {y : β} (h : (l.map f)[i]? = some y) : ∃ x, l[i]? = some x ∧ f x = y := by
  rw [List.getElem?_map] at h
  cases hx : l[i]? with
  | none => rw [hx] at h; cases h
  | some x => rw [hx] at h; exact ⟨x, rfl, by simpa using h⟩
theorem msgs_at {w0 w : World} {t : Sl} {l : List RMsg} {F : List Asr} (h : SH w0 w (rM t l :: aBag msgA l :: F)) (hb : ∀ m, m ∈ l.map RMsg.abs → Byts m.Data) : MsgsAt w t (l.map RMsg.abs) := by
  refine ⟨by have := h.len 0 rfl; rw [recs_len] at this; rw [List.length_map]; exact this, fun i y hy => ?_⟩
  obtain ⟨x, hx, rfl⟩ := map_get hy
  obtain ⟨q, hq⟩ := h.rowQ 0 rfl hx
  have hby := hb x.abs (List.mem_map.2 ⟨x, List.mem_of_getElem? hx, rfl⟩)
  have h2 : SH w0 w (rD x.D x.Data :: aBag msgA (l.eraseIdx i) :: rM t l :: F) := h.p1.bagOut hx |>.perm (by exact List.Perm.refl _)
  exact ⟨q, x.D, hq, h.rdR 0 rfl hq hx rfl, h.rdR 0 rfl hq hx rfl, h.rdR 0 rfl hq hx rfl, h2.byAt 0 rfl hby.rng (by have := hby.few; show x.Data.length ≤ _; have h3 : x.abs.Data = x.Data := rfl; rw [h3] at this; omega)⟩
theorem ports_at {w0 w : World} {t : Sl} {l : List RPort} {F : List Asr} (h : SH w0 w (rP t l :: aBag portA l :: F)) (hb : ∀ p, p ∈ l.map RPort.abs → ∀ m, m ∈ p.Queue → Byts m.Data) : PortsAt w t (l.map RPort.abs) := by
  refine ⟨by have := h.len 0 rfl; rw [recs_len] at this; rw [List.length_map]; exact this, fun i y hy => ?_⟩
  obtain ⟨x, hx, rfl⟩ := map_get hy
  obtain ⟨q, hq⟩ := h.rowQ 0 rfl hx
  have h2 : SH w0 w (All [rM x.q x.Q, aBag msgA x.Q] :: aBag portA (l.eraseIdx i) :: rP t l :: F) := h.p1.bagOut hx
  exact ⟨q, x.q, hq, h.rdR 0 rfl hq hx rfl, h.rdR 0 rfl hq hx rfl, msgs_at h2.allOut (hb x.abs (List.mem_map.2 ⟨x, List.mem_of_getElem? hx, rfl⟩))⟩
theorem pipes_at {w0 w : World} {t : Sl} {l : List RPipe} {F : List Asr} (h : SH w0 w (rQ t l :: aBag pipeA l :: F)) (hb : ∀ p, p ∈ l.map RPipe.abs → Byts p.Data) : PipesAt w t (l.map RPipe.abs) := by
  refine ⟨by have := h.len 0 rfl; rw [recs_len] at this; rw [List.length_map]; exact this, fun i y hy => ?_⟩
  obtain ⟨x, hx, rfl⟩ := map_get hy
  obtain ⟨q, hq⟩ := h.rowQ 0 rfl hx
  have hby := hb x.abs (List.mem_map.2 ⟨x, List.mem_of_getElem? hx, rfl⟩)
  have h2 : SH w0 w (rD x.D x.Data :: aBag pipeA (l.eraseIdx i) :: rQ t l :: F) := h.p1.bagOut hx
  exact ⟨q, x.D, hq, h.rdR 0 rfl hq hx rfl, h.rdR 0 rfl hq hx rfl, h.rdR 0 rfl hq hx rfl, h.rdR 0 rfl hq hx rfl, h2.byAt 0 rfl hby.rng (by have := hby.few; show x.Data.length ≤ _; have h3 : x.abs.Data = x.Data := rfl; rw [h3] at this; omega)⟩
theorem caps_at {w0 w : World} {As : List Asr} (h : SH w0 w As) (n : Nat) {t : Sl} {l : List DCap} (hA : As[n]? = some (rC t l)) (hf : l.length ≤ 1048576) : RecsAt w t 5 DCap.cells l :=
  ⟨by have := h.len n hA; rw [recs_len] at this; exact this, h.rowR n hA, by omega, fun _ => rfl⟩
/-- The parts of a state. -/
def sP (tp tc tq : Sl) (r : RIpc) : List Asr := [rP tp r.Ports, aBag portA r.Ports, rC tc r.Caps, rQ tq r.Pipes, aBag pipeA r.Pipes]
/-- A state in parts is a state that is lent. -/
theorem ipc_at {w0 w : World} {tp tc tq : Sl} {r : RIpc} {F : List Asr} (h : SH w0 w (sP tp tc tq r ++ F)) (hw : IWf r.abs) : IpcAt w tp tc tq r.abs := by
  have h : SH w0 w (rP tp r.Ports :: aBag portA r.Ports :: rC tc r.Caps :: rQ tq r.Pipes :: aBag pipeA r.Pipes :: F) := h
  exact ⟨caps_at h 2 rfl hw.few.1, ports_at h hw.msgs, pipes_at ((h.front (n := 4) rfl).front (n := 4) rfl) hw.pipes, by have := hw.few; omega⟩
end Go.Proofs.Ytbimoajgofcmbaa

/- Ports, capabilities, pipes: a state in parts is a tree. Conditions: none. -/
set_option linter.unusedVariables false
set_option linter.unusedSimpArgs false
namespace Go.Proofs.Ytbimoajgofcmbaa
open Go Go.Den
end Go.Proofs.Ytbimoajgofcmbaa

/- Ports, capabilities, pipes: the program's copy; its new numbers. Conditions: none. -/
set_option linter.unusedVariables false
set_option linter.unusedSimpArgs false
namespace Go.Proofs.Ytbimoajgofcmbaa
open Go Go.Den
abbrev BI (b : Nat) (n : Int) (tp tc tq : Sl) : Asr := aB b ((ipcV n tp tc tq).map Ce.v)
abbrev iV (n : Int) (tp tc tq : Sl) : Value := .agg #[.int .i64 n, .slice tp.a tp.len tp.cap, .slice tc.a tc.len tc.cap, .slice tq.a tq.len tq.cap]
abbrev bP (l : List RPort) : Asr := aBag portA l
abbrev bM (l : List RMsg) : Asr := aBag msgA l
abbrev bQ (l : List RPipe) : Asr := aBag pipeA l
abbrev N0 : Sl := ⟨none, 0, 0⟩
theorem plain_cap' (x : DCap) : ∀ v, v ∈ x.cells → plainB v = true := fun v hv => by
  simp only [DCap.cells, List.mem_cons, List.not_mem_nil, or_false] at hv
  rcases hv with rfl | rfl | rfl | rfl | rfl <;> rfl
theorem plain_msg (x : RMsg) : ∀ v, v ∈ x.cells → plainB v = true := fun v hv => by
  simp only [RMsg.cells, List.mem_cons, List.not_mem_nil, or_false] at hv
  rcases hv with rfl | rfl | rfl <;> rfl
theorem plain_port (x : RPort) : ∀ v, v ∈ x.cells → plainB v = true := fun v hv => by
  simp only [RPort.cells, List.mem_cons, List.not_mem_nil, or_false] at hv
  rcases hv with rfl | rfl <;> rfl
theorem plain_pipe (x : RPipe) : ∀ v, v ∈ x.cells → plainB v = true := fun v hv => by
  simp only [RPipe.cells, List.mem_cons, List.not_mem_nil, or_false] at hv
  rcases hv with rfl | rfl | rfl | rfl <;> rfl
theorem take_snoc' {α : Type} {l : List α} {k : Nat} {x : α} (hx : l[k]? = some x) : l.take (k + 1) = l.take k ++ [x] := by
  rw [List.take_add_one, hx]; rfl
/-- A state that is lent, and as large as a state is. -/
structure ILent (w : World) (sp sc sq : Sl) (d : DIpc) : Prop where
  at_ : IpcAt w sp sc sq d
  wf : IWf d
theorem ILent.ext {w w' : World} {sp sc sq : Sl} {d : DIpc} (h : ILent w sp sc sq d) (e : Ext w w') : ILent w' sp sc sq d := ⟨h.at_.ext e, h.wf⟩
def KI (d : DIpc) (w : World) (v : Value) (w' : World) : Prop := ∃ (tp tc tq : Sl) (r : RIpc), v = iV r.Next tp tc tq ∧ r.abs = d ∧ SH w w' (sP tp tc tq r)
set_option maxHeartbeats 2000000 in
/-- The program's copy of a state. -/
theorem c74 {w : World} {sp sc sq : Sl} {d : DIpc} (hd : ILent w sp sc sq d) : CallW Try.prog 74 #[iV d.Next sp sc sq] w (KI d w) := by
  refine go74 ?_
  unfold W74
  have hcl := hd.at_.caps.len
  have hpl := hd.at_.ports.len
  have hql := hd.at_.pipes.len
  obtain ⟨f1, f2, f3⟩ := hd.wf.few
  have h := SH.start w
  refine h.alloc (fun w1 h e1 n1 => ?_)
  refine h.alloc (fun w2 h e2 n2 => ?_)
  have h : SH w w2 [BI w1.heap.size 0 N0 N0 N0, BI w.heap.size d.Next sp sc sq] := h
  refine ⟨_, h.cell 1 rfl rfl, ?_⟩
  refine h.setV 0 rfl rfl (fun w4 h n4 => ?_)
  have h : SH w w4 [BI w1.heap.size d.Next N0 N0 N0, BI w.heap.size d.Next sp sc sq] := h
  refine ⟨N0, h.cell 0 rfl rfl, sc, h.cell 1 rfl rfl, ?_⟩
  refine SH.appendR (f := DCap.cells) (l := []) (us := d.Caps) (h.nil none 5) (hd.ext h.ext).at_.caps.row hcl.symm (fun _ => rfl) rfl rfl (by decide) (by show (_ + _) * 40 ≤ _; simp; omega) plain_cap' (fun tc w8 h htc nw8 => ?_)
  refine h.setV 1 rfl rfl (fun w9 h n9 => ?_)
  have h : SH w w9 [rC tc d.Caps, BI w1.heap.size d.Next N0 tc N0, BI w.heap.size d.Next sp sc sq] := h
  refine ⟨sp, h.cell 2 rfl rfl, ?_⟩
  refine LoopW.m1 (fun (i : Int) w' => ∃ (k : Nat) (ps : List RPort) (tp : Sl), i = k ∧ k ≤ d.Ports.length ∧ ps.map RPort.abs = d.Ports.take k ∧ SH w w' [rP tp ps, bP ps, rC tc d.Caps, BI w1.heap.size d.Next tp tc N0, BI w.heap.size d.Next sp sc sq]) (fun (i : Int) _ => (d.Ports.length - i).toNat) ⟨0, [], N0, rfl, by omega, rfl, (SH.bagNil portA h).nil none 2⟩ ?_
  clear h
  rintro (i : Int) w13 ⟨k, ps, tp, rfl, hk, hps, h⟩ J hJ
  have hpsl : ps.length = k := by have := congrArg List.length hps; rw [List.length_map, List.length_take] at this; omega
  refine BIf.dec (fun hlt => ?_) (fun hge => ?_)
  · have hget : d.Ports[k]? = some d.Ports[k] := List.getElem?_eq_getElem (by omega)
    have hmsgs := hd.wf.msgs _ (List.mem_of_getElem? hget)
    have hqf := hd.wf.queues _ (List.mem_of_getElem? hget)
    generalize d.Ports[k] = x at *
    obtain ⟨q, t, hq, c0, c1, hm⟩ := hd.at_.ports.get k x hget
    have hml := hm.len
    simp only [Int.toNat_natCast]
    rw [w64 (n := (k : Int) + 1) (by omega) (by omega)]
    refine ⟨by omega, by omega, q, hq, _, h.ext.cell c0, t, h.ext.cell c1, ?_⟩
    refine h.alloc (fun w17 h e17 n17 => ?_)
    refine h.put 0 rfl rfl rfl (fun w18 h n18 => ?_)
    refine ⟨_, h.cell 0 rfl rfl, ?_⟩
    refine h.alloc (fun w20 h e20 n20 => ?_)
    refine h.put 0 rfl rfl rfl (fun w21 h n21 => ?_)
    refine ⟨t, h.cell 1 rfl rfl, ?_⟩
    have h : SH w w21 [aB w18.heap.size (([.int .i64 x.Id, .slice N0.a N0.len N0.cap] : List Value).map Ce.v), aB w13.heap.size (([.int .i64 x.Id, .slice t.a t.len t.cap] : List Value).map Ce.v), rP tp ps, bP ps, rC tc d.Caps, BI w1.heap.size d.Next tp tc N0, BI w.heap.size d.Next sp sc sq] := h
    refine LoopW.m1 (fun (j : Int) w' => ∃ (m : Nat) (ms : List RMsg) (tm : Sl), j = m ∧ m ≤ x.Queue.length ∧ ms.map RMsg.abs = x.Queue.take m ∧ SH w w' [rM tm ms, bM ms, aB w18.heap.size (([.int .i64 x.Id, .slice tm.a tm.len tm.cap] : List Value).map Ce.v), aB w13.heap.size (([.int .i64 x.Id, .slice t.a t.len t.cap] : List Value).map Ce.v), rP tp ps, bP ps, rC tc d.Caps, BI w1.heap.size d.Next tp tc N0, BI w.heap.size d.Next sp sc sq]) (fun (j : Int) _ => (x.Queue.length - j).toNat) ⟨0, [], N0, rfl, by omega, rfl, (SH.bagNil msgA h).nil none 3⟩ ?_
    clear h
    rintro (j : Int) w25 ⟨m, ms, tm, rfl, hm1, hms, h⟩ J2 hJ2
    have hmsl : ms.length = m := by have := congrArg List.length hms; rw [List.length_map, List.length_take] at this; omega
    refine BIf.dec (fun hlt2 => ?_) (fun hge2 => ?_)
    · have hget2 : x.Queue[m]? = some x.Queue[m] := List.getElem?_eq_getElem (by omega)
      generalize x.Queue[m] = y at *
      have hby0 := hmsgs y (List.mem_of_getElem? hget2)
      obtain ⟨q2, td, hq2, d0, d1, d2, hby⟩ := hm.get m y hget2
      simp only [Int.toNat_natCast]
      rw [w64 (n := (m : Int) + 1) (by omega) (by omega)]
      refine ⟨by omega, by omega, q2, hq2, _, h.ext.cell d0, td, h.ext.cell d1, _, h.ext.cell d2, ?_⟩
      refine h.alloc (fun w30 h e30 n30 => ?_)
      refine h.put 0 rfl rfl rfl (fun w31 h n31 => ?_)
      have h := h.drew
      refine ⟨tm, h.cell 3 rfl rfl, _, h.cell 0 rfl rfl, td, h.cell 0 rfl rfl, _, h.cell 0 rfl rfl, ?_⟩
      have hbl := hby0.few
      have hyl := hby.len
      refine SH.appendN (k := .u8) (m := []) (us := y.Data) (h.nil none 1) (hby.ext h.ext).row rfl rfl (by decide) (by show (_ + _) * 1 ≤ _; simp; omega) (fun t36 w37 h ht36 _ => ?_)
      have h : SH w w37 (rD t36 y.Data :: _) := h
      refine ⟨⟨_, h.cell 1 rfl rfl, rfl⟩, ⟨_, h.cell 1 rfl rfl, rfl⟩, ⟨tm, h.cell 4 rfl rfl, rfl⟩, ?_⟩
      refine h.alloc (fun w41 h e41 n41 => ?_)
      have hrow : RowAt w41 (some ⟨w37.heap.size, 0, none⟩) (1 * 3) ([(⟨y.From, t36, y.Cap, y.Data⟩ : RMsg)].flatMap RMsg.cells) := row_one (h.blkAt 0 rfl) rfl
      refine ⟨⟨tm, h.cell 5 rfl rfl, rfl⟩, ?_⟩
      have h := (h.dropAt 2).drop
      have h : SH w w41 [rD t36 y.Data, rM tm ms, bM ms, aB w18.heap.size (([.int .i64 x.Id, .slice tm.a tm.len tm.cap] : List Value).map Ce.v), aB w13.heap.size (([.int .i64 x.Id, .slice t.a t.len t.cap] : List Value).map Ce.v), rP tp ps, bP ps, rC tc d.Caps, BI w1.heap.size d.Next tp tc N0, BI w.heap.size d.Next sp sc sq] := h
      refine SH.appendR (f := RMsg.cells) (us := [⟨y.From, t36, y.Cap, y.Data⟩]) h.p1 hrow rfl (fun _ => rfl) rfl rfl (by decide) (by show (_ + _) * 40 ≤ _; simp; omega) plain_msg (fun tm2 w44 h htm2 _ => ?_)
      refine h.setV 3 rfl rfl (fun w45 h n45 => ?_)
      have h : SH w w45 (msgA ⟨y.From, t36, y.Cap, y.Data⟩ :: bM ms :: _) := (h.front (n := 2) rfl).front (n := 2) rfl
      have h := SH.bagSnoc h
      refine hJ2 _ _ ⟨m + 1, ms ++ [⟨y.From, t36, y.Cap, y.Data⟩], tm2, by omega, by omega, ?_, h.p1⟩ (by omega)
      rw [List.map_append, hms, take_snoc' hget2]
      rfl
    · have hme : m = x.Queue.length := by omega
      rw [hme, List.take_length] at hms
      refine ⟨tp, h.cell 7 rfl rfl, _, h.cell 2 rfl rfl, tm, h.cell 2 rfl rfl, ?_⟩
      have h : SH w w25 (portA ⟨x.Id, tm, ms⟩ :: _) := SH.allIn (As := [rM tm ms, bM ms]) h
      have h := (h.dropAt 2).dropAt 1
      have h : SH w w25 [portA ⟨x.Id, tm, ms⟩, rP tp ps, bP ps, rC tc d.Caps, BI w1.heap.size d.Next tp tc N0, BI w.heap.size d.Next sp sc sq] := h
      refine LetW_iff.2 (SH.appendR1 (f := RPort.cells) (x := ⟨x.Id, tm, ms⟩) h.p1 rfl rfl rfl (by decide) (by show (_ + _) * 32 ≤ _; omega) (plain_port _) (fun tp2 w51 h htp2 _ => ?_))
      refine h.setV 4 rfl rfl (fun w52 h n52 => ?_)
      have h : SH w w52 (portA ⟨x.Id, tm, ms⟩ :: bP ps :: _) := ((h.front (n := 2) rfl).front (n := 2) rfl)
      have h := SH.bagSnoc h
      refine hJ _ _ ⟨k + 1, ps ++ [⟨x.Id, tm, ms⟩], tp2, by omega, by omega, ?_, h.p1⟩ (by omega)
      rw [List.map_append, hps, take_snoc' hget]
      show _ ++ [(⟨x.Id, ms.map RMsg.abs⟩ : DPort)] = _
      rw [hms]
  · have hke : k = d.Ports.length := by omega
    rw [hke, List.take_length] at hps
    refine ⟨sq, h.cell 4 rfl rfl, ?_⟩
    refine LoopW.m1 (fun (i : Int) w' => ∃ (k : Nat) (qs : List RPipe) (tq : Sl), i = k ∧ k ≤ d.Pipes.length ∧ qs.map RPipe.abs = d.Pipes.take k ∧ SH w w' [rQ tq qs, bQ qs, rP tp ps, bP ps, rC tc d.Caps, BI w1.heap.size d.Next tp tc tq, BI w.heap.size d.Next sp sc sq]) (fun (i : Int) _ => (d.Pipes.length - i).toNat) ⟨0, [], N0, rfl, by omega, rfl, (SH.bagNil pipeA h).nil none 4⟩ ?_
    clear h hJ
    rintro (i : Int) w56 ⟨m, qs, tq, rfl, hm, hqs, h⟩ J hJ
    have hqsl : qs.length = m := by have := congrArg List.length hqs; rw [List.length_map, List.length_take] at this; omega
    refine BIf.dec (fun hlt => ?_) (fun hge => ?_)
    · have hget : d.Pipes[m]? = some d.Pipes[m] := List.getElem?_eq_getElem (by omega)
      have hby0 := hd.wf.pipes _ (List.mem_of_getElem? hget)
      generalize d.Pipes[m] = x at *
      obtain ⟨q, t, hq, c0, c1, c2, c3, hby⟩ := hd.at_.pipes.get m x hget
      simp only [Int.toNat_natCast]
      rw [w64 (n := (m : Int) + 1) (by omega) (by omega)]
      refine ⟨by omega, by omega, q, hq, _, h.ext.cell c0, _, h.ext.cell c1, _, h.ext.cell c2, t, h.ext.cell c3, ?_⟩
      refine h.alloc (fun w62 h e62 n62 => ?_)
      refine h.put 0 rfl rfl rfl (fun w63 h n63 => ?_)
      refine ⟨t, h.cell 0 rfl rfl, ?_⟩
      have hbl := hby0.few
      have hyl := hby.len
      refine SH.appendN (k := .u8) (m := []) (us := x.Data) (h.nil none 1) (hby.ext h.ext).row rfl rfl (by decide) (by show (_ + _) * 1 ≤ _; simp; omega) (fun t65 w66 h ht65 _ => ?_)
      refine h.setV 1 rfl rfl (fun w67 h n67 => ?_)
      have h : SH w w67 [rD t65 x.Data, aB w56.heap.size (([.int .i64 x.Id, .int .i64 x.Readers, .int .i64 x.Writers, .slice t65.a t65.len t65.cap] : List Value).map Ce.v), rQ tq qs, bQ qs, rP tp ps, bP ps, rC tc d.Caps, BI w1.heap.size d.Next tp tc tq, BI w.heap.size d.Next sp sc sq] := h
      refine ⟨tq, h.cell 7 rfl rfl, _, h.cell 1 rfl rfl, _, h.cell 1 rfl rfl, _, h.cell 1 rfl rfl, t65, h.cell 1 rfl rfl, ?_⟩
      refine LetW_iff.2 (SH.appendR1 (f := RPipe.cells) (x := ⟨x.Id, x.Readers, x.Writers, t65, x.Data⟩) (h.dropAt 1).p1 rfl rfl rfl (by decide) (by show (_ + _) * 48 ≤ _; omega) (plain_pipe _) (fun tq2 w75 h htq2 _ => ?_))
      refine h.setV 6 rfl rfl (fun w76 h n76 => ?_)
      have h : SH w w76 (pipeA ⟨x.Id, x.Readers, x.Writers, t65, x.Data⟩ :: bQ qs :: _) := ((h.front (n := 2) rfl).front (n := 2) rfl)
      have h := SH.bagSnoc h
      refine hJ _ _ ⟨m + 1, qs ++ [⟨x.Id, x.Readers, x.Writers, t65, x.Data⟩], tq2, by omega, by omega, ?_, h.p1⟩ (by omega)
      rw [List.map_append, hqs, take_snoc' hget]
      rfl
    · have hme : m = d.Pipes.length := by omega
      rw [hme, List.take_length] at hqs
      refine ⟨_, h.cell 5 rfl rfl, tp, h.cell 5 rfl rfl, tc, h.cell 5 rfl rfl, tq, h.cell 5 rfl rfl, ?_⟩
      refine h.put 5 rfl rfl rfl (fun w81 h n81 => ?_)
      refine ⟨_, h.cell 5 rfl rfl, tp, h.cell 5 rfl rfl, tc, h.cell 5 rfl rfl, tq, h.cell 5 rfl rfl, tp, tc, tq, ⟨d.Next, ps, d.Caps, qs⟩, rfl, ?_, ?_⟩
      · unfold RIpc.abs
        rw [hps, hqs]
      · exact ((h.dropAt 6).dropAt 5).perm (by
          show List.Perm [rQ tq qs, bQ qs, rP tp ps, bP ps, rC tc d.Caps] [rP tp ps, bP ps, rC tc d.Caps, rQ tq qs, bQ qs]
          exact (List.perm_append_comm (l₁ := [rQ tq qs, bQ qs]) (l₂ := [rP tp ps, bP ps, rC tc d.Caps])))
end Go.Proofs.Ytbimoajgofcmbaa

/- Ports, capabilities, pipes: the program's new numbers, what is kept, a Cap dropped. Conditions: none. -/
set_option linter.unusedVariables false
set_option linter.unusedSimpArgs false
namespace Go.Proofs.Ytbimoajgofcmbaa
open Go Go.Den
/-- A state, its block ahead. -/
def ST (b : Nat) (tp tc tq : Sl) (r : RIpc) : List Asr := BI b r.Next tp tc tq :: sP tp tc tq r
theorem s105 {w0 w : World} {F : List Asr} {b : Nat} {n : Int} {tp tc tq : Sl} (h : SH w0 w (BI b n tp tc tq :: F)) (h0 : 0 ≤ n) (h1 : n ≤ 1099511628800) :
    CallW Try.prog 105 #[.pointer (some ⟨b, 0, none⟩)] w (fun v w' => v = .int .i64 (n + 1) ∧ SH w0 w' (BI b (n + 1) tp tc tq :: F)) := by
  refine go105 ?_
  unfold W105
  refine ⟨_, rfl, _, h.cellP 0 rfl rfl, _, rfl, ?_⟩
  rw [w64 (n := n + 1) (by omega) (by omega)]
  refine h.setVP 0 rfl rfl (fun w4 h n4 => ?_)
  exact ⟨_, rfl, _, h.cellP 0 rfl rfl, rfl, h⟩
theorem s106 {w0 w : World} {F : List Asr} {b : Nat} {n : Int} {tp tc tq : Sl} {cs : List DCap} {c : DCap} (h : SH w0 w (BI b n tp tc tq :: rC tc cs :: F)) (h0 : 0 ≤ n) (h1 : n ≤ 1099511628800) (hf : cs.length ≤ 1048576) :
    CallW Try.prog 106 #[.pointer (some ⟨b, 0, none⟩), .agg #[.int .i64 c.Id, .int .i64 c.Holder, .int .i64 c.Port, .int .i64 c.Rights, .int .i64 c.Parent]] w (fun v w' => ∃ tc' : Sl, v = .int .i64 (n + 1) ∧ SH w0 w' (BI b (n + 1) tp tc' tq :: rC tc' (cs ++ [⟨n + 1, c.Holder, c.Port, c.Rights, c.Parent⟩]) :: F)) := by
  refine go106 ?_
  unfold W106
  refine h.alloc (fun w1 h e1 n1 => ?_)
  refine (s105 h.p1 h0 h1).mono ?_
  rintro _ w3 ⟨rfl, h⟩
  refine ⟨_, rfl, ?_⟩
  have h := h.p1
  refine h.setV 0 rfl rfl (fun w5 h n5 => ?_)
  have h : SH w0 w5 (aB w.heap.size ((⟨n + 1, c.Holder, c.Port, c.Rights, c.Parent⟩ : DCap).cells.map Ce.v) :: BI b (n + 1) tp tc tq :: rC tc cs :: F) := h
  have h := h.drew
  refine ⟨_, rfl, tc, h.cellP 1 rfl rfl, _, h.cell 0 rfl rfl, _, h.cell 0 rfl rfl, _, h.cell 0 rfl rfl, _, h.cell 0 rfl rfl, _, h.cell 0 rfl rfl, ?_⟩
  refine h.alloc (fun w13 h e13 n13 => ?_)
  refine ⟨⟨tc, h.cellP 2 rfl rfl, rfl⟩, ?_⟩
  have hrow : RowAt w13 (some ⟨w5.drew.heap.size, 0, none⟩) (1 * 5) ([(⟨n + 1, c.Holder, c.Port, c.Rights, c.Parent⟩ : DCap)].flatMap DCap.cells) := row_one (h.blkAt 0 rfl) rfl
  have h := h.drop.p2
  refine SH.appendR (f := DCap.cells) (us := [⟨n + 1, c.Holder, c.Port, c.Rights, c.Parent⟩]) h hrow rfl (fun _ => rfl) rfl rfl (by decide) (by show (_ + _) * 40 ≤ _; simp; omega) plain_cap' (fun tc2 w16 h htc2 _ => ?_)
  refine ⟨_, rfl, ?_⟩
  refine h.setVP 2 rfl rfl (fun w18 h n18 => ?_)
  exact ⟨_, h.cell 1 rfl rfl, tc2, rfl, (h.dropAt 1).p1⟩
theorem c104 {id : Int} {b : Nat} {sp sc sq : Sl} {d : DIpc} {w : World} (hc2 : w.cell? ((⟨b, 0, none⟩ : Addr).add 3) = some (.slice sq.a sq.len sq.cap)) (hd : IpcAt w sp sc sq d) : CallW Try.prog 104 #[.pointer (some ⟨b, 0, none⟩), .int .i64 id] w (fun v w' => v = .pointer (ptrE sq 4 (pipeIx d id)) ∧ w' = w) := by
  refine go104 ?_
  unfold W104
  have hl := hd.pipes.len
  have hf := hd.few
  refine ⟨_, rfl, sq, hc2, ?_⟩
  refine LoopW.m1 (fun (i : Int) w' => ∃ k : Nat, i = k ∧ k ≤ d.Pipes.length ∧ (∀ j y, j < k → d.Pipes[j]? = some y → (y.Id == id) = false) ∧ w' = w) (fun (i : Int) _ => ((d.Pipes.length : Int) - i).toNat) ⟨0, rfl, by omega, (fun j y hj => by omega), rfl⟩ ?_
  rintro (i : Int) w5 ⟨k, rfl, hk, hno, rfl⟩ J hJ
  rw [hl]
  refine BIf.dec (fun hlt => ?_) (fun hge => ?_)
  · obtain ⟨x, hx⟩ : ∃ x, d.Pipes[k]? = some x := ⟨_, List.getElem?_eq_getElem (by omega)⟩
    obtain ⟨q, t, hq, hc, _⟩ := hd.pipes.get k x hx
    refine ⟨_, rfl, sq, hc2, by omega, by omega, q, hq, _, hc, ?_⟩
    refine BIf.eq (fun he => ?_) (fun he => ?_)
    · refine ⟨_, rfl, sq, hc2, by omega, by omega, q, hq, ?_, rfl⟩
      unfold pipeIx; rw [idx_at hx (by simpa using he) hno, ptrE_at hq]; rfl
    · rw [w64 (by omega) (by omega)]
      refine hJ _ _ ⟨k + 1, by omega, by omega, fun j y hj hy => ?_, rfl⟩ (by omega)
      by_cases hjk : j = k
      · subst hjk; rw [hx] at hy; cases hy; simpa using he
      · exact hno j y (by omega) hy
  · refine ⟨?_, rfl⟩
    unfold pipeIx; rw [idx_no (fun j y hy => hno j y (by have := (List.getElem?_eq_some_iff.1 hy).1; omega) hy), ptrE_neg (by omega)]
/-! ## What is kept -/
def hasR (cs : List DCap) (p : RPort) : Bool := cs.any (fun c => c.Port == p.Id)
theorem any_snoc {α : Type} {l : List α} {k : Nat} {x : α} (p : α → Bool) (hx : l[k]? = some x) : (l.take (k + 1)).any p = ((l.take k).any p || p x) := by
  rw [take_snoc' hx]; simp
theorem filter_snoc' {α : Type} {p : α → Bool} {l : List α} {k : Nat} {x : α} (hx : l[k]? = some x) : (l.take (k + 1)).filter p = (l.take k).filter p ++ (if p x = true then [x] else []) := by
  rw [take_snoc' hx, List.filter_append]
  by_cases h : p x = true
  · simp [h]
  · simp [h]
set_option maxHeartbeats 2000000 in
/-- keep: the Caps that stay, and the ports that have one. -/
theorem s107 {w0 w : World} {F : List Asr} {b g : Nat} {gx gc : List Value} {n : Int} {tp tc tq : Sl} {ps : List RPort} {cs : List DCap} {p : DCap → Bool} (h : SH w0 w (BI b n tp tc tq :: rP tp ps :: bP ps :: rC tc cs :: F))
    (hf : cs.length ≤ 1048576) (hfp : ps.length ≤ 1048576)
    (hcall : ∀ (c : DCap) (w1 : World) (As : List Asr), c ∈ cs → SH w0 w1 (As ++ F) → CallW Try.prog g ⟨gx ++ ([.agg #[.int .i64 c.Id, .int .i64 c.Holder, .int .i64 c.Port, .int .i64 c.Rights, .int .i64 c.Parent]] ++ gc)⟩ w1 (fun v w2 => v = .bool (p c) ∧ Ext w1 w2)) :
    CallW Try.prog 107 #[.pointer (some ⟨b, 0, none⟩), .func (.func g) ⟨gx⟩ ⟨gc⟩] w (fun v w' => ∃ tp' tc' : Sl, v = .tuple #[] ∧ SH w0 w' (BI b n tp' tc' tq :: rP tp' (ps.filter (hasR (cs.filter p))) :: bP (ps.filter (hasR (cs.filter p))) :: rC tc' (cs.filter p) :: F)) := by
  refine go107 ?_
  unfold W107
  have hcl := h.len 3 rfl
  have hpl := h.len 1 rfl
  rw [recs_len] at hcl hpl
  refine ⟨_, rfl, tc, h.cellP 0 rfl rfl, ?_⟩
  refine LoopW.m2 (fun (t : Sl) (i : Int) w' => ∃ k : Nat, i = k ∧ k ≤ cs.length ∧ SH w0 w' (rC t ((cs.take k).filter p) :: BI b n tp tc tq :: rP tp ps :: bP ps :: rC tc cs :: F)) (fun _ (i : Int) _ => (cs.length - i).toNat) ⟨0, rfl, by omega, h.nil none 5⟩ ?_
  clear h
  rintro (t : Sl) (i : Int) w6 ⟨k, rfl, hk, h⟩ J hJ
  have hkl : ((cs.take k).filter p).length ≤ k := by have := List.length_filter_le p (cs.take k); simp at this; omega
  refine BIf.dec (fun hlt => ?_) (fun hge => ?_)
  · have hget : cs[k]? = some cs[k] := List.getElem?_eq_getElem (by omega)
    generalize cs[k] = x at *
    obtain ⟨q, hq⟩ := h.rowQ 4 rfl hget
    simp only [Int.toNat_natCast]
    rw [w64 (n := (k : Int) + 1) (by omega) (by omega)]
    refine ⟨by omega, by omega, q, hq, _, h.rdR 4 rfl hq hget rfl, _, h.rdR 4 rfl hq hget rfl, _, h.rdR 4 rfl hq hget rfl, _, h.rdR 4 rfl hq hget rfl, _, h.rdR 4 rfl hq hget rfl, ?_⟩
    refine h.alloc (fun w13 h e13 n13 => ?_)
    refine h.put 0 rfl rfl rfl (fun w14 h n14 => ?_)
    have h : SH w0 w14 (aB w6.heap.size (x.cells.map Ce.v) :: rC t ((cs.take k).filter p) :: BI b n tp tc tq :: rP tp ps :: bP ps :: rC tc cs :: F) := h
    refine ⟨_, h.cell 0 rfl rfl, _, h.cell 0 rfl rfl, _, h.cell 0 rfl rfl, _, h.cell 0 rfl rfl, _, h.cell 0 rfl rfl, ?_⟩
    refine (hcall x w14 [aB w6.heap.size (x.cells.map Ce.v), rC t ((cs.take k).filter p), BI b n tp tc tq, rP tp ps, bP ps, rC tc cs] (List.mem_of_getElem? hget) h).mono ?_
    rintro _ w21 ⟨rfl, e21⟩
    have h := h.to e21
    have hsn := filter_snoc' (p := p) hget
    refine ⟨_, rfl, BIf.of (fun hp => ?_) (fun hp => ?_)⟩
    · rw [if_pos hp] at hsn
      refine ⟨_, h.cell 0 rfl rfl, _, h.cell 0 rfl rfl, _, h.cell 0 rfl rfl, _, h.cell 0 rfl rfl, _, h.cell 0 rfl rfl, ?_⟩
      refine LetW_iff.2 (SH.appendR1 (f := DCap.cells) (x := x) h.drop rfl rfl rfl (by decide) (by show (_ + _) * 40 ≤ _; omega) (plain_cap' _) (fun t2 w30 h ht2 _ => ?_))
      exact hJ _ _ _ ⟨k + 1, by omega, by omega, by rw [hsn]; exact h⟩ (by omega)
    · rw [if_neg (by rw [hp]; decide), List.append_nil] at hsn
      exact hJ _ _ _ ⟨k + 1, by omega, by omega, by rw [hsn]; exact h.drop⟩ (by omega)
  · have hke : k = cs.length := by omega
    rw [hke, List.take_length] at h
    clear hJ hkl hge hk hke
    have hflen := List.length_filter_le p cs
    generalize cs.filter p = cs2 at *
    refine ⟨_, rfl, ?_⟩
    refine h.setVP 1 rfl rfl (fun w32 h n32 => ?_)
    have h : SH w0 w32 (rC t cs2 :: BI b n tp t tq :: rP tp ps :: bP ps :: rC tc cs :: F) := h
    have hl2 := h.len 0 rfl
    rw [recs_len] at hl2
    refine ⟨_, rfl, tp, h.cellP 1 rfl rfl, ?_⟩
    refine LoopW.m2 (fun (u : Sl) (i : Int) w' => ∃ k : Nat, i = k ∧ k ≤ ps.length ∧ SH w0 w' (rP u ((ps.take k).filter (hasR cs2)) :: rC t cs2 :: BI b n tp t tq :: rP tp ps :: bP ps :: rC tc cs :: F)) (fun _ (i : Int) _ => (ps.length - i).toNat) ⟨0, rfl, by omega, h.nil none 2⟩ ?_
    clear h
    rintro (u : Sl) (i : Int) w38 ⟨k, rfl, hk, h⟩ J hJ
    have hkl : ((ps.take k).filter (hasR cs2)).length ≤ k := by have := List.length_filter_le (hasR cs2) (ps.take k); simp at this; omega
    refine BIf.dec (fun hlt => ?_) (fun hge => ?_)
    · have hget : ps[k]? = some ps[k] := List.getElem?_eq_getElem (by omega)
      generalize ps[k] = x at *
      obtain ⟨q, hq⟩ := h.rowQ 3 rfl hget
      simp only [Int.toNat_natCast]
      rw [w64 (n := (k : Int) + 1) (by omega) (by omega)]
      refine ⟨by omega, by omega, q, hq, _, h.rdR 3 rfl hq hget rfl, x.q, h.rdR 3 rfl hq hget rfl, ?_⟩
      refine h.alloc (fun w42 h e42 n42 => ?_)
      refine h.put 0 rfl rfl rfl (fun w43 h n43 => ?_)
      have h : SH w0 w43 (aB w38.heap.size (x.cells.map Ce.v) :: rP u ((ps.take k).filter (hasR cs2)) :: rC t cs2 :: BI b n tp t tq :: rP tp ps :: bP ps :: rC tc cs :: F) := h
      have hsn := filter_snoc' (p := hasR cs2) hget
      refine LoopW.m2 (fun (u' : Sl) (i : Int) w' => ∃ m : Nat, u' = u ∧ i = m ∧ m ≤ cs2.length ∧ (cs2.take m).any (fun c => c.Port == x.Id) = false ∧ SH w0 w' (aB w38.heap.size (x.cells.map Ce.v) :: rP u ((ps.take k).filter (hasR cs2)) :: rC t cs2 :: BI b n tp t tq :: rP tp ps :: bP ps :: rC tc cs :: F)) (fun _ (i : Int) _ => (cs2.length - i).toNat) ⟨0, rfl, rfl, by omega, rfl, h⟩ ?_
      clear h
      rintro (u' : Sl) (i : Int) w47 ⟨m, rfl, rfl, hm, hno, h⟩ J2 hJ2
      refine BIf.dec (fun hlt2 => ?_) (fun hge2 => ?_)
      · have hget2 : cs2[m]? = some cs2[m] := List.getElem?_eq_getElem (by omega)
        generalize cs2[m] = y at *
        obtain ⟨q2, hq2⟩ := h.rowQ 2 rfl hget2
        have hany := any_snoc (fun c : DCap => c.Port == x.Id) hget2
        simp only [Int.toNat_natCast]
        rw [w64 (n := (m : Int) + 1) (by omega) (by omega)]
        refine ⟨by omega, by omega, q2, hq2, _, h.rdR 2 rfl hq2 hget2 rfl, _, h.rdR 2 rfl hq2 hget2 rfl, _, h.rdR 2 rfl hq2 hget2 rfl, _, h.rdR 2 rfl hq2 hget2 rfl, _, h.rdR 2 rfl hq2 hget2 rfl, ?_⟩
        refine h.alloc (fun w54 h e54 n54 => ?_)
        refine h.put 0 rfl rfl rfl (fun w55 h n55 => ?_)
        refine ⟨_, h.cell 0 rfl rfl, _, h.cell 1 rfl rfl, BIf.eq (fun he => ?_) (fun he => ?_)⟩
        · have hp : hasR cs2 x = true := List.any_eq_true.2 ⟨y, List.mem_of_getElem? hget2, by simpa using he⟩
          rw [if_pos hp] at hsn
          refine ⟨_, h.cell 1 rfl rfl, x.q, h.cell 1 rfl rfl, ?_⟩
          refine LetW_iff.2 (SH.appendR1 (f := RPort.cells) (x := x) h.drop.drop rfl rfl rfl (by decide) (by show (_ + _) * 32 ≤ _; omega) (plain_port _) (fun t2 w62 h ht2 _ => ?_))
          exact hJ _ _ _ ⟨k + 1, by omega, by omega, by rw [hsn]; exact h⟩ (by omega)
        · exact hJ2 _ _ _ ⟨m + 1, rfl, by omega, by omega, by rw [hany, hno]; simpa using he, h.drop⟩ (by omega)
      · have hme : m = cs2.length := by omega
        rw [hme, List.take_length] at hno
        have hp : hasR cs2 x = false := hno
        rw [if_neg (by rw [hp]; decide), List.append_nil] at hsn
        exact hJ _ _ _ ⟨k + 1, by omega, by omega, by rw [hsn]; exact h.drop⟩ (by omega)
    · have hke : k = ps.length := by omega
      rw [hke, List.take_length] at h
      refine ⟨_, rfl, ?_⟩
      refine h.setVP 2 rfl rfl (fun w64' h n64 => ?_)
      have h : SH w0 w64' (rP u (ps.filter (hasR cs2)) :: rC t cs2 :: BI b n u t tq :: rP tp ps :: bP ps :: rC tc cs :: F) := h
      have h := (h.dropAt 5).dropAt 3
      have h := SH.bagFilter (hasR cs2) (h.front (n := 3) rfl)
      have h : SH w0 w64' (bP (ps.filter (hasR cs2)) :: rP u (ps.filter (hasR cs2)) :: rC t cs2 :: BI b n u t tq :: F) := h
      exact ⟨u, t, rfl, (((h.front (n := 2) rfl).front (n := 1) rfl).front (n := 2) rfl).front (n := 3) rfl⟩
end Go.Proofs.Ytbimoajgofcmbaa
