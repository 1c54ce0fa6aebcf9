/- Part 4 of 6: plain readings of code, rules for them, and a proof over them, joined by a program. Conditions: none. -/
import Derived.Test.YteigefjiifihpaaPG3
import Derived.Test.YteigefjiifihpaaProg
/- The plainer reading of functions of the program, each held against its code. Conditions: none. -/
set_option linter.unusedVariables false
set_option maxRecDepth 100000
namespace Go.Proofs.Yteigefjiifihpaa
open Go Go.Den
/- loop.example/g00008/spec.l16Kill -/
def an129 : Ann := (.seq .leaf (.seq (.seq (.reg [(4, none), (4, some (234, [(21, .bool)]))]) (.cond (.seq .leaf .leaf) .leaf)) (.seq .leaf (.seq .leaf (.seq .leaf (.seq (.seq .leaf (.in_ (.loop 488 [(9, .bool), (10, .int .i64), (11, .int .i64)] (.seq (.seq .leaf (.cond .leaf .leaf)) (.seq (.in_ (.seq .leaf (.seq .leaf (.join 8168 [(13, .bool)] (.seq .leaf (.cond .leaf .leaf)) (.join 8168 [(13, .bool)] (.seq .leaf (.cond (.reg [(4, none), (6, some (8168, [(66, .bool)])), (1, none)]) .leaf)) (.join 8168 [(13, .bool)] (.seq .leaf (.cond .leaf .leaf)) (.seq (.seq .leaf (.cond .leaf .leaf)) (.seq .leaf (.seq (.reg [(4, none), (6, some (4072, [(87, .bool)]))]) (.cond (.seq .leaf (.seq .leaf (.cond .leaf .leaf))) .leaf)))))))))) .leaf))))) (.seq (.seq .leaf (.cond (.seq .leaf .leaf) .leaf)) (.seq (.seq .leaf (.cond (.seq .leaf .leaf) .leaf)) (.seq .leaf .leaf)))))))))
def W129 (a0_0 : Sl) (a1 : Int) (a2_0 : Int) (a2_1 : Int) (a2_2 : Int) (a2_3 : Int) (w : World) (K : Value → World → Prop) : Prop :=
  LetW (w.alloc (.cells #[.slice a0_0.a a0_0.len a0_0.cap] 84)) fun w1 => LetW (w1.alloc (.cells #[.int .i64 a2_0, .int .i64 a2_1, .int .i64 a2_2, .int .i64 a2_3] 90)) fun w2 => LetW (w2.alloc (.cells #[.slice none 0 0] 84)) fun w3 => LetW (w3.alloc (.cells #[.int .i64 0, .int .i64 0, .int .i64 0] 86)) fun w4 => ∃ n5 : Int, w4.cell? ⟨w1.heap.size, 3, none⟩ = some (.int .i64 n5) ∧ JoinW [.bool] (fun J7 => BIf (decide ((n5 : Int) < 0)) (J7 true w4) (∃ n106 : Int, w4.cell? ⟨w1.heap.size, 3, none⟩ = some (.int .i64 n106) ∧ J7 (decide ((n106 : Int) > 15)) w4)) (fun (b6 : Bool) w8 => BIf b6 (∃ l9 : Sl, w8.cell? ⟨w.heap.size, 0, none⟩ = some (.slice l9.a l9.len l9.cap) ∧ May w8 ⟨w2.heap.size, 0, none⟩ ∧ LetW (w8.setCell ⟨w2.heap.size, 0, none⟩ (.slice l9.a l9.len l9.cap)) fun w10 => MayN w10 ⟨w3.heap.size, 0, none⟩ 3 ∧ LetW (puts w10 ⟨w3.heap.size, 0, none⟩ 0 [.int .i64 1, .int .i64 0, .int .i64 0]) fun w11 => ∃ l12 : Sl, w11.cell? ⟨w2.heap.size, 0, none⟩ = some (.slice l12.a l12.len l12.cap) ∧ ∃ n13 : Int, w11.cell? ⟨w3.heap.size, 0, none⟩ = some (.int .i64 n13) ∧ ∃ n14 : Int, w11.cell? ⟨w3.heap.size, 1, none⟩ = some (.int .i64 n14) ∧ ∃ n15 : Int, w11.cell? ⟨w3.heap.size, 2, none⟩ = some (.int .i64 n15) ∧ K (.tuple #[.agg #[.slice l12.a l12.len l12.cap], .agg #[.int .i64 n13, .int .i64 n14, .int .i64 n15]]) w11) (∃ l16 : Sl, w8.cell? ⟨w.heap.size, 0, none⟩ = some (.slice l16.a l16.len l16.cap) ∧ 0 ≤ (a1 : Int) ∧ (a1 : Int) < ((l16.len : Nat) : Int) ∧ ∃ q17 : Addr, (l16.a : Option Addr) = some q17 ∧ ∃ n18 : Int, w8.cell? ((q17.add (Int.toNat a1 * 10)).add 0) = some (.int .i64 n18) ∧ ∃ n19 : Int, w8.cell? ((q17.add (Int.toNat a1 * 10)).add 1) = some (.int .i64 n19) ∧ ∃ n20 : Int, w8.cell? ((q17.add (Int.toNat a1 * 10)).add 2) = some (.int .i64 n20) ∧ ∃ n21 : Int, w8.cell? ((q17.add (Int.toNat a1 * 10)).add 3) = some (.int .i64 n21) ∧ ∃ n22 : Int, w8.cell? ((q17.add (Int.toNat a1 * 10)).add 4) = some (.int .i64 n22) ∧ ∃ n23 : Int, w8.cell? ((q17.add (Int.toNat a1 * 10)).add 5) = some (.int .i64 n23) ∧ ∃ n24 : Int, w8.cell? ((q17.add (Int.toNat a1 * 10)).add 6) = some (.int .i64 n24) ∧ ∃ n25 : Int, w8.cell? ((q17.add (Int.toNat a1 * 10)).add 7) = some (.int .i64 n25) ∧ ∃ n26 : Int, w8.cell? ((q17.add (Int.toNat a1 * 10)).add 8) = some (.int .i64 n26) ∧ ∃ n27 : Int, w8.cell? ((q17.add (Int.toNat a1 * 10)).add 9) = some (.int .i64 n27) ∧ LetW (w8.alloc (.cells #[.int .i64 0, .int .i64 0, .int .i64 0, .int .i64 0, .int .i64 0, .int .i64 0, .int .i64 0, .int .i64 0, .int .i64 0, .int .i64 0] 100)) fun w28 => MayN w28 ⟨w8.heap.size, 0, none⟩ 10 ∧ LetW (puts w28 ⟨w8.heap.size, 0, none⟩ 0 [.int .i64 n18, .int .i64 n19, .int .i64 n20, .int .i64 n21, .int .i64 n22, .int .i64 n23, .int .i64 n24, .int .i64 n25, .int .i64 n26, .int .i64 n27]) fun w29 => LoopW [.bool, .int .i64, .int .i64] (fun J33 => fun (b30 : Bool) (n31 : Int) (n32 : Int) w34 => ∃ l35 : Sl, w34.cell? ⟨w.heap.size, 0, none⟩ = some (.slice l35.a l35.len l35.cap) ∧ BIf (decide ((n32 : Int) < ((l35.len : Nat) : Int))) (∃ l36 : Sl, w34.cell? ⟨w.heap.size, 0, none⟩ = some (.slice l36.a l36.len l36.cap) ∧ 0 ≤ (n32 : Int) ∧ (n32 : Int) < ((l36.len : Nat) : Int) ∧ ∃ q37 : Addr, (l36.a : Option Addr) = some q37 ∧ ∃ n38 : Int, w34.cell? ((q37.add (Int.toNat n32 * 10)).add 0) = some (.int .i64 n38) ∧ ∃ n39 : Int, w34.cell? ((q37.add (Int.toNat n32 * 10)).add 1) = some (.int .i64 n39) ∧ ∃ n40 : Int, w34.cell? ((q37.add (Int.toNat n32 * 10)).add 2) = some (.int .i64 n40) ∧ ∃ n41 : Int, w34.cell? ((q37.add (Int.toNat n32 * 10)).add 3) = some (.int .i64 n41) ∧ ∃ n42 : Int, w34.cell? ((q37.add (Int.toNat n32 * 10)).add 4) = some (.int .i64 n42) ∧ ∃ n43 : Int, w34.cell? ((q37.add (Int.toNat n32 * 10)).add 5) = some (.int .i64 n43) ∧ ∃ n44 : Int, w34.cell? ((q37.add (Int.toNat n32 * 10)).add 6) = some (.int .i64 n44) ∧ ∃ n45 : Int, w34.cell? ((q37.add (Int.toNat n32 * 10)).add 7) = some (.int .i64 n45) ∧ ∃ n46 : Int, w34.cell? ((q37.add (Int.toNat n32 * 10)).add 8) = some (.int .i64 n46) ∧ ∃ n47 : Int, w34.cell? ((q37.add (Int.toNat n32 * 10)).add 9) = some (.int .i64 n47) ∧ LetW (w34.alloc (.cells #[.int .i64 0, .int .i64 0, .int .i64 0, .int .i64 0, .int .i64 0, .int .i64 0, .int .i64 0, .int .i64 0, .int .i64 0, .int .i64 0] 100)) fun w48 => MayN w48 ⟨w34.heap.size, 0, none⟩ 10 ∧ LetW (puts w48 ⟨w34.heap.size, 0, none⟩ 0 [.int .i64 n38, .int .i64 n39, .int .i64 n40, .int .i64 n41, .int .i64 n42, .int .i64 n43, .int .i64 n44, .int .i64 n45, .int .i64 n46, .int .i64 n47]) fun w49 => ∃ n50 : Int, w49.cell? ⟨w34.heap.size, 0, none⟩ = some (.int .i64 n50) ∧ ∃ n51 : Int, w49.cell? ⟨w1.heap.size, 2, none⟩ = some (.int .i64 n51) ∧ JoinW [.bool] (fun J53 => ∃ n82 : Int, w49.cell? ⟨w1.heap.size, 2, none⟩ = some (.int .i64 n82) ∧ BIf ((n82 : Int) == 0) (∃ n83 : Int, w49.cell? ⟨w34.heap.size, 2, none⟩ = some (.int .i64 n83) ∧ ∃ n84 : Int, w49.cell? ⟨w8.heap.size, 2, none⟩ = some (.int .i64 n84) ∧ J53 ((n83 : Int) == n84) w49) (J53 ((n50 : Int) == n51) w49)) (fun (b52 : Bool) w54 => JoinW [.bool] (fun J56 => ∃ n75 : Int, w54.cell? ⟨w1.heap.size, 2, none⟩ = some (.int .i64 n75) ∧ BIf ((n75 : Int) == (-1)) (∃ n76 : Int, w54.cell? ⟨w34.heap.size, 0, none⟩ = some (.int .i64 n76) ∧ JoinW [.bool] (fun J78 => BIf ((n76 : Int) != 1) (∃ n80 : Int, w54.cell? ⟨w34.heap.size, 0, none⟩ = some (.int .i64 n80) ∧ ∃ n81 : Int, w54.cell? ⟨w8.heap.size, 0, none⟩ = some (.int .i64 n81) ∧ J78 ((n80 : Int) != n81) w54) (J78 false w54)) (fun (b77 : Bool) w79 => J56 b77 w79)) (J56 b52 w54)) (fun (b55 : Bool) w57 => JoinW [.bool] (fun J59 => ∃ n72 : Int, w57.cell? ⟨w1.heap.size, 2, none⟩ = some (.int .i64 n72) ∧ BIf (decide ((n72 : Int) < (-1))) (∃ n73 : Int, w57.cell? ⟨w34.heap.size, 2, none⟩ = some (.int .i64 n73) ∧ ∃ n74 : Int, w57.cell? ⟨w1.heap.size, 2, none⟩ = some (.int .i64 n74) ∧ J59 ((n73 : Int) == (IntKind.wrap .i64 (0 - n74))) w57) (J59 b55 w57)) (fun (b58 : Bool) w60 => BIf (!b58) (J33 b30 n31 (IntKind.wrap .i64 (n32 + 1)) w60) (∃ n61 : Int, w60.cell? ⟨w8.heap.size, 3, none⟩ = some (.int .i64 n61) ∧ JoinW [.bool] (fun J63 => BIf ((n61 : Int) == 0) (J63 true w60) (∃ n70 : Int, w60.cell? ⟨w8.heap.size, 3, none⟩ = some (.int .i64 n70) ∧ ∃ n71 : Int, w60.cell? ⟨w34.heap.size, 3, none⟩ = some (.int .i64 n71) ∧ J63 ((n70 : Int) == n71) w60)) (fun (b62 : Bool) w64 => BIf b62 (∃ n65 : Int, w64.cell? ⟨w1.heap.size, 3, none⟩ = some (.int .i64 n65) ∧ BIf (decide ((n65 : Int) > 0)) (∃ l66 : Sl, w64.cell? ⟨w.heap.size, 0, none⟩ = some (.slice l66.a l66.len l66.cap) ∧ ∃ n67 : Int, w64.cell? ⟨w1.heap.size, 3, none⟩ = some (.int .i64 n67) ∧ CallW Try.prog 151 #[.agg #[.slice l66.a l66.len l66.cap], .int .i64 n32, .int .i64 n67] w64 fun v68 w69 => v68 = .tuple #[] ∧ J33 true (IntKind.wrap .i64 (n31 + 1)) (IntKind.wrap .i64 (n32 + 1)) w69) (J33 true (IntKind.wrap .i64 (n31 + 1)) (IntKind.wrap .i64 (n32 + 1)) w64)) (J33 true n31 (IntKind.wrap .i64 (n32 + 1)) w64))))))) (BIf (!b30) (∃ l85 : Sl, w34.cell? ⟨w.heap.size, 0, none⟩ = some (.slice l85.a l85.len l85.cap) ∧ May w34 ⟨w2.heap.size, 0, none⟩ ∧ LetW (w34.setCell ⟨w2.heap.size, 0, none⟩ (.slice l85.a l85.len l85.cap)) fun w86 => MayN w86 ⟨w3.heap.size, 0, none⟩ 3 ∧ LetW (puts w86 ⟨w3.heap.size, 0, none⟩ 0 [.int .i64 3, .int .i64 0, .int .i64 0]) fun w87 => ∃ l88 : Sl, w87.cell? ⟨w2.heap.size, 0, none⟩ = some (.slice l88.a l88.len l88.cap) ∧ ∃ n89 : Int, w87.cell? ⟨w3.heap.size, 0, none⟩ = some (.int .i64 n89) ∧ ∃ n90 : Int, w87.cell? ⟨w3.heap.size, 1, none⟩ = some (.int .i64 n90) ∧ ∃ n91 : Int, w87.cell? ⟨w3.heap.size, 2, none⟩ = some (.int .i64 n91) ∧ K (.tuple #[.agg #[.slice l88.a l88.len l88.cap], .agg #[.int .i64 n89, .int .i64 n90, .int .i64 n91]]) w87) (BIf ((n31 : Int) == 0) (∃ l92 : Sl, w34.cell? ⟨w.heap.size, 0, none⟩ = some (.slice l92.a l92.len l92.cap) ∧ May w34 ⟨w2.heap.size, 0, none⟩ ∧ LetW (w34.setCell ⟨w2.heap.size, 0, none⟩ (.slice l92.a l92.len l92.cap)) fun w93 => MayN w93 ⟨w3.heap.size, 0, none⟩ 3 ∧ LetW (puts w93 ⟨w3.heap.size, 0, none⟩ 0 [.int .i64 2, .int .i64 0, .int .i64 0]) fun w94 => ∃ l95 : Sl, w94.cell? ⟨w2.heap.size, 0, none⟩ = some (.slice l95.a l95.len l95.cap) ∧ ∃ n96 : Int, w94.cell? ⟨w3.heap.size, 0, none⟩ = some (.int .i64 n96) ∧ ∃ n97 : Int, w94.cell? ⟨w3.heap.size, 1, none⟩ = some (.int .i64 n97) ∧ ∃ n98 : Int, w94.cell? ⟨w3.heap.size, 2, none⟩ = some (.int .i64 n98) ∧ K (.tuple #[.agg #[.slice l95.a l95.len l95.cap], .agg #[.int .i64 n96, .int .i64 n97, .int .i64 n98]]) w94) (∃ l99 : Sl, w34.cell? ⟨w.heap.size, 0, none⟩ = some (.slice l99.a l99.len l99.cap) ∧ May w34 ⟨w2.heap.size, 0, none⟩ ∧ LetW (w34.setCell ⟨w2.heap.size, 0, none⟩ (.slice l99.a l99.len l99.cap)) fun w100 => MayN w100 ⟨w3.heap.size, 0, none⟩ 3 ∧ LetW (puts w100 ⟨w3.heap.size, 0, none⟩ 0 [.int .i64 0, .int .i64 n31, .int .i64 0]) fun w101 => ∃ l102 : Sl, w101.cell? ⟨w2.heap.size, 0, none⟩ = some (.slice l102.a l102.len l102.cap) ∧ ∃ n103 : Int, w101.cell? ⟨w3.heap.size, 0, none⟩ = some (.int .i64 n103) ∧ ∃ n104 : Int, w101.cell? ⟨w3.heap.size, 1, none⟩ = some (.int .i64 n104) ∧ ∃ n105 : Int, w101.cell? ⟨w3.heap.size, 2, none⟩ = some (.int .i64 n105) ∧ K (.tuple #[.agg #[.slice l102.a l102.len l102.cap], .agg #[.int .i64 n103, .int .i64 n104, .int .i64 n105]]) w101)))) ((false : Bool), ((0 : Int), ((0 : Int), ()))) w29))
theorem eq129 (a0_0 : Sl) (a1 : Int) (a2_0 : Int) (a2_1 : Int) (a2_2 : Int) (a2_3 : Int) (w : World) (K : Value → World → Prop) : denFn Try.prog tt Try.f129 an129 [.agg #[.slice a0_0.a a0_0.len a0_0.cap], .int .i64 a1, .agg #[.int .i64 a2_0, .int .i64 a2_1, .int .i64 a2_2, .int .i64 a2_3]] w K = W129 a0_0 a1 a2_0 a2_1 a2_2 a2_3 w K := by kernel_rfl
theorem ok129 : OkFn Try.prog 129 := ⟨Try.f129, Try.func129, by kernel_rfl, by kernel_rfl⟩
theorem go129 {a0_0 : Sl} {a1 : Int} {a2_0 : Int} {a2_1 : Int} {a2_2 : Int} {a2_3 : Int} {w : World} {K : Value → World → Prop} (h : W129 a0_0 a1 a2_0 a2_1 a2_2 a2_3 w K) : CallW Try.prog 129 #[.agg #[.slice a0_0.a a0_0.len a0_0.cap], .int .i64 a1, .agg #[.int .i64 a2_0, .int .i64 a2_1, .int .i64 a2_2, .int .i64 a2_3]] w K :=
  .inl ⟨ok129, denFn_sound tt_ok mix Try.func129 (by kernel_rfl) (eq129 a0_0 a1 a2_0 a2_1 a2_2 a2_3 w K ▸ h)⟩

/- loop.example/g00008/spec.l16Set -/
def an130 : Ann := (.seq .leaf (.seq (.reg [(3, none), (4, some (1, [(9, .bool)])), (1, none), (4, some (0, [(14, .bool)])), (1, none)]) .leaf))
def W130 (a0 : Int) (w : World) (K : Value → World → Prop) : Prop :=
  JoinW [.bool] (fun J2 => BIf (decide ((a0 : Int) ≥ 0)) (CallW Try.prog 153 #[.int .i64 16] w fun v7 w8 => ∃ n9 : Int, v7 = .int .i64 n9 ∧ J2 (decide ((a0 : Int) < n9)) w8) (J2 false w)) (fun (b1 : Bool) w3 => JoinW [.bool] (fun J5 => BIf b1 ((2 : Int) ≠ 0 ∧ J5 ((Int.tmod a0 2 : Int) == 0) w3) (J5 false w3)) (fun (b4 : Bool) w6 => K (.bool b4) w6))
theorem eq130 (a0 : Int) (w : World) (K : Value → World → Prop) : denFn Try.prog tt Try.f130 an130 [.int .i64 a0] w K = W130 a0 w K := by kernel_rfl
theorem ok130 : OkFn Try.prog 130 := ⟨Try.f130, Try.func130, by kernel_rfl, by kernel_rfl⟩
theorem go130 {a0 : Int} {w : World} {K : Value → World → Prop} (h : W130 a0 w K) : CallW Try.prog 130 #[.int .i64 a0] w K :=
  .inl ⟨ok130, denFn_sound tt_ok mix Try.func130 (by kernel_rfl) (eq130 a0 w K ▸ h)⟩

/- loop.example/g00008/spec.l16Less -/
def an131 : Ann := (.seq .leaf (.seq (.seq .leaf (.cond (.seq .leaf .leaf) .leaf)) (.seq .leaf .leaf)))
def W131 (a0 : Int) (a1 : Int) (w : World) (K : Value → World → Prop) : Prop :=
  CallW Try.prog 143 #[.int .i64 a0, .int .i64 a1] w fun v1 w2 => ∃ b3 : Bool, v1 = .bool b3 ∧ BIf b3 (CallW Try.prog 153 #[.int .i64 a1] w2 fun v4 w5 => ∃ n6 : Int, v4 = .int .i64 n6 ∧ K (.int .i64 (IntKind.wrap .i64 (a0 - n6))) w5) (K (.int .i64 a0) w2)
theorem eq131 (a0 : Int) (a1 : Int) (w : World) (K : Value → World → Prop) : denFn Try.prog tt Try.f131 an131 [.int .i64 a0, .int .i64 a1] w K = W131 a0 a1 w K := by kernel_rfl
theorem ok131 : OkFn Try.prog 131 := ⟨Try.f131, Try.func131, by kernel_rfl, by kernel_rfl⟩
theorem go131 {a0 : Int} {a1 : Int} {w : World} {K : Value → World → Prop} (h : W131 a0 a1 w K) : CallW Try.prog 131 #[.int .i64 a0, .int .i64 a1] w K :=
  .inl ⟨ok131, denFn_sound tt_ok mix Try.func131 (by kernel_rfl) (eq131 a0 a1 w K ▸ h)⟩

/- loop.example/g00008/spec.l16Action -/
def an132 : Ann := (.seq .leaf (.seq (.seq (.reg [(4, none), (4, some (234, [(16, .bool)])), (1, none), (4, some (234, [(21, .bool)])), (1, none), (4, some (234, [(26, .bool)])), (1, none), (4, some (234, [(31, .bool)])), (1, none), (4, some (234, [(36, .bool)]))]) (.cond (.seq .leaf .leaf) .leaf)) (.seq .leaf (.seq .leaf (.seq .leaf (.join 490 [] (.seq .leaf (.cond (.seq .leaf .leaf) .leaf)) (.join 458 [] (.seq .leaf (.cond .leaf .leaf)) (.seq .leaf (.seq .leaf .leaf)))))))))
def W132 (a0_0 : Sl) (a1 : Int) (a2_0 : Int) (a2_1 : Int) (a2_2 : Int) (a2_3 : Int) (w : World) (K : Value → World → Prop) : Prop :=
  LetW (w.alloc (.cells #[.slice a0_0.a a0_0.len a0_0.cap] 84)) fun w1 => LetW (w1.alloc (.cells #[.int .i64 a2_0, .int .i64 a2_1, .int .i64 a2_2, .int .i64 a2_3] 90)) fun w2 => LetW (w2.alloc (.cells #[.slice none 0 0] 84)) fun w3 => LetW (w3.alloc (.cells #[.int .i64 0, .int .i64 0, .int .i64 0] 86)) fun w4 => ∃ n5 : Int, w4.cell? ⟨w1.heap.size, 2, none⟩ = some (.int .i64 n5) ∧ JoinW [.bool] (fun J7 => BIf (decide ((n5 : Int) < 1)) (J7 true w4) (∃ n102 : Int, w4.cell? ⟨w1.heap.size, 2, none⟩ = some (.int .i64 n102) ∧ J7 (decide ((n102 : Int) > 15)) w4)) (fun (b6 : Bool) w8 => JoinW [.bool] (fun J10 => BIf b6 (J10 true w8) (∃ n101 : Int, w8.cell? ⟨w1.heap.size, 3, none⟩ = some (.int .i64 n101) ∧ J10 (decide ((n101 : Int) < 0)) w8)) (fun (b9 : Bool) w11 => JoinW [.bool] (fun J13 => BIf b9 (J13 true w11) (∃ n100 : Int, w11.cell? ⟨w1.heap.size, 3, none⟩ = some (.int .i64 n100) ∧ J13 (decide ((n100 : Int) > 2)) w11)) (fun (b12 : Bool) w14 => JoinW [.bool] (fun J16 => BIf b12 (J16 true w14) (∃ n99 : Int, w14.cell? ⟨w1.heap.size, 2, none⟩ = some (.int .i64 n99) ∧ J16 ((n99 : Int) == 9) w14)) (fun (b15 : Bool) w17 => JoinW [.bool] (fun J19 => BIf b15 (J19 true w17) (∃ n98 : Int, w17.cell? ⟨w1.heap.size, 2, none⟩ = some (.int .i64 n98) ∧ J19 ((n98 : Int) == 12) w17)) (fun (b18 : Bool) w20 => BIf b18 (∃ l21 : Sl, w20.cell? ⟨w.heap.size, 0, none⟩ = some (.slice l21.a l21.len l21.cap) ∧ May w20 ⟨w2.heap.size, 0, none⟩ ∧ LetW (w20.setCell ⟨w2.heap.size, 0, none⟩ (.slice l21.a l21.len l21.cap)) fun w22 => MayN w22 ⟨w3.heap.size, 0, none⟩ 3 ∧ LetW (puts w22 ⟨w3.heap.size, 0, none⟩ 0 [.int .i64 1, .int .i64 0, .int .i64 0]) fun w23 => ∃ l24 : Sl, w23.cell? ⟨w2.heap.size, 0, none⟩ = some (.slice l24.a l24.len l24.cap) ∧ ∃ n25 : Int, w23.cell? ⟨w3.heap.size, 0, none⟩ = some (.int .i64 n25) ∧ ∃ n26 : Int, w23.cell? ⟨w3.heap.size, 1, none⟩ = some (.int .i64 n26) ∧ ∃ n27 : Int, w23.cell? ⟨w3.heap.size, 2, none⟩ = some (.int .i64 n27) ∧ K (.tuple #[.agg #[.slice l24.a l24.len l24.cap], .agg #[.int .i64 n25, .int .i64 n26, .int .i64 n27]]) w23) (∃ l28 : Sl, w20.cell? ⟨w.heap.size, 0, none⟩ = some (.slice l28.a l28.len l28.cap) ∧ 0 ≤ (a1 : Int) ∧ (a1 : Int) < ((l28.len : Nat) : Int) ∧ ∃ q29 : Addr, (l28.a : Option Addr) = some q29 ∧ ∃ n30 : Int, w20.cell? ((q29.add (Int.toNat a1 * 10)).add 0) = some (.int .i64 n30) ∧ ∃ n31 : Int, w20.cell? ((q29.add (Int.toNat a1 * 10)).add 1) = some (.int .i64 n31) ∧ ∃ n32 : Int, w20.cell? ((q29.add (Int.toNat a1 * 10)).add 2) = some (.int .i64 n32) ∧ ∃ n33 : Int, w20.cell? ((q29.add (Int.toNat a1 * 10)).add 3) = some (.int .i64 n33) ∧ ∃ n34 : Int, w20.cell? ((q29.add (Int.toNat a1 * 10)).add 4) = some (.int .i64 n34) ∧ ∃ n35 : Int, w20.cell? ((q29.add (Int.toNat a1 * 10)).add 5) = some (.int .i64 n35) ∧ ∃ n36 : Int, w20.cell? ((q29.add (Int.toNat a1 * 10)).add 6) = some (.int .i64 n36) ∧ ∃ n37 : Int, w20.cell? ((q29.add (Int.toNat a1 * 10)).add 7) = some (.int .i64 n37) ∧ ∃ n38 : Int, w20.cell? ((q29.add (Int.toNat a1 * 10)).add 8) = some (.int .i64 n38) ∧ ∃ n39 : Int, w20.cell? ((q29.add (Int.toNat a1 * 10)).add 9) = some (.int .i64 n39) ∧ LetW (w20.alloc (.cells #[.int .i64 0, .int .i64 0, .int .i64 0, .int .i64 0, .int .i64 0, .int .i64 0, .int .i64 0, .int .i64 0, .int .i64 0, .int .i64 0] 100)) fun w40 => MayN w40 ⟨w20.heap.size, 0, none⟩ 10 ∧ LetW (puts w40 ⟨w20.heap.size, 0, none⟩ 0 [.int .i64 n30, .int .i64 n31, .int .i64 n32, .int .i64 n33, .int .i64 n34, .int .i64 n35, .int .i64 n36, .int .i64 n37, .int .i64 n38, .int .i64 n39]) fun w41 => ∃ n42 : Int, w41.cell? ⟨w20.heap.size, 8, none⟩ = some (.int .i64 n42) ∧ ∃ n43 : Int, w41.cell? ⟨w1.heap.size, 2, none⟩ = some (.int .i64 n43) ∧ CallW Try.prog 131 #[.int .i64 n42, .int .i64 n43] w41 fun v44 w45 => ∃ n46 : Int, v44 = .int .i64 n46 ∧ May w45 ⟨w20.heap.size, 8, none⟩ ∧ LetW (w45.setCell ⟨w20.heap.size, 8, none⟩ (.int .i64 n46)) fun w47 => ∃ n48 : Int, w47.cell? ⟨w20.heap.size, 9, none⟩ = some (.int .i64 n48) ∧ ∃ n49 : Int, w47.cell? ⟨w1.heap.size, 2, none⟩ = some (.int .i64 n49) ∧ CallW Try.prog 131 #[.int .i64 n48, .int .i64 n49] w47 fun v50 w51 => ∃ n52 : Int, v50 = .int .i64 n52 ∧ May w51 ⟨w20.heap.size, 9, none⟩ ∧ LetW (w51.setCell ⟨w20.heap.size, 9, none⟩ (.int .i64 n52)) fun w53 => JoinW [] (fun J54 => ∃ n85 : Int, w53.cell? ⟨w1.heap.size, 3, none⟩ = some (.int .i64 n85) ∧ BIf ((n85 : Int) == 1) (∃ n86 : Int, w53.cell? ⟨w20.heap.size, 8, none⟩ = some (.int .i64 n86) ∧ ∃ n87 : Int, w53.cell? ⟨w1.heap.size, 2, none⟩ = some (.int .i64 n87) ∧ CallW Try.prog 154 #[.int .i64 n86, .int .i64 n87] w53 fun v88 w89 => ∃ n90 : Int, v88 = .int .i64 n90 ∧ May w89 ⟨w20.heap.size, 8, none⟩ ∧ LetW (w89.setCell ⟨w20.heap.size, 8, none⟩ (.int .i64 n90)) fun w91 => ∃ n92 : Int, w91.cell? ⟨w20.heap.size, 6, none⟩ = some (.int .i64 n92) ∧ ∃ n93 : Int, w91.cell? ⟨w1.heap.size, 2, none⟩ = some (.int .i64 n93) ∧ CallW Try.prog 131 #[.int .i64 n92, .int .i64 n93] w91 fun v94 w95 => ∃ n96 : Int, v94 = .int .i64 n96 ∧ May w95 ⟨w20.heap.size, 6, none⟩ ∧ LetW (w95.setCell ⟨w20.heap.size, 6, none⟩ (.int .i64 n96)) fun w97 => J54 w97) (J54 w53)) (fun w55 => JoinW [] (fun J56 => ∃ n78 : Int, w55.cell? ⟨w1.heap.size, 3, none⟩ = some (.int .i64 n78) ∧ BIf ((n78 : Int) == 2) (∃ n79 : Int, w55.cell? ⟨w20.heap.size, 9, none⟩ = some (.int .i64 n79) ∧ ∃ n80 : Int, w55.cell? ⟨w1.heap.size, 2, none⟩ = some (.int .i64 n80) ∧ CallW Try.prog 154 #[.int .i64 n79, .int .i64 n80] w55 fun v81 w82 => ∃ n83 : Int, v81 = .int .i64 n83 ∧ May w82 ⟨w20.heap.size, 9, none⟩ ∧ LetW (w82.setCell ⟨w20.heap.size, 9, none⟩ (.int .i64 n83)) fun w84 => J56 w84) (J56 w55)) (fun w57 => ∃ l58 : Sl, w57.cell? ⟨w.heap.size, 0, none⟩ = some (.slice l58.a l58.len l58.cap) ∧ ∃ n59 : Int, w57.cell? ⟨w20.heap.size, 0, none⟩ = some (.int .i64 n59) ∧ ∃ n60 : Int, w57.cell? ⟨w20.heap.size, 1, none⟩ = some (.int .i64 n60) ∧ ∃ n61 : Int, w57.cell? ⟨w20.heap.size, 2, none⟩ = some (.int .i64 n61) ∧ ∃ n62 : Int, w57.cell? ⟨w20.heap.size, 3, none⟩ = some (.int .i64 n62) ∧ ∃ n63 : Int, w57.cell? ⟨w20.heap.size, 4, none⟩ = some (.int .i64 n63) ∧ ∃ n64 : Int, w57.cell? ⟨w20.heap.size, 5, none⟩ = some (.int .i64 n64) ∧ ∃ n65 : Int, w57.cell? ⟨w20.heap.size, 6, none⟩ = some (.int .i64 n65) ∧ ∃ n66 : Int, w57.cell? ⟨w20.heap.size, 7, none⟩ = some (.int .i64 n66) ∧ ∃ n67 : Int, w57.cell? ⟨w20.heap.size, 8, none⟩ = some (.int .i64 n67) ∧ ∃ n68 : Int, w57.cell? ⟨w20.heap.size, 9, none⟩ = some (.int .i64 n68) ∧ 0 ≤ (a1 : Int) ∧ (a1 : Int) < ((l58.len : Nat) : Int) ∧ ∃ q69 : Addr, (l58.a : Option Addr) = some q69 ∧ MayN w57 (q69.add (Int.toNat a1 * 10)) 10 ∧ LetW (puts w57 (q69.add (Int.toNat a1 * 10)) 0 [.int .i64 n59, .int .i64 n60, .int .i64 n61, .int .i64 n62, .int .i64 n63, .int .i64 n64, .int .i64 n65, .int .i64 n66, .int .i64 n67, .int .i64 n68]) fun w70 => ∃ l71 : Sl, w70.cell? ⟨w.heap.size, 0, none⟩ = some (.slice l71.a l71.len l71.cap) ∧ May w70 ⟨w2.heap.size, 0, none⟩ ∧ LetW (w70.setCell ⟨w2.heap.size, 0, none⟩ (.slice l71.a l71.len l71.cap)) fun w72 => MayN w72 ⟨w3.heap.size, 0, none⟩ 3 ∧ LetW (puts w72 ⟨w3.heap.size, 0, none⟩ 0 [.int .i64 0, .int .i64 0, .int .i64 0]) fun w73 => ∃ l74 : Sl, w73.cell? ⟨w2.heap.size, 0, none⟩ = some (.slice l74.a l74.len l74.cap) ∧ ∃ n75 : Int, w73.cell? ⟨w3.heap.size, 0, none⟩ = some (.int .i64 n75) ∧ ∃ n76 : Int, w73.cell? ⟨w3.heap.size, 1, none⟩ = some (.int .i64 n76) ∧ ∃ n77 : Int, w73.cell? ⟨w3.heap.size, 2, none⟩ = some (.int .i64 n77) ∧ K (.tuple #[.agg #[.slice l74.a l74.len l74.cap], .agg #[.int .i64 n75, .int .i64 n76, .int .i64 n77]]) w73))))))))
theorem eq132 (a0_0 : Sl) (a1 : Int) (a2_0 : Int) (a2_1 : Int) (a2_2 : Int) (a2_3 : Int) (w : World) (K : Value → World → Prop) : denFn Try.prog tt Try.f132 an132 [.agg #[.slice a0_0.a a0_0.len a0_0.cap], .int .i64 a1, .agg #[.int .i64 a2_0, .int .i64 a2_1, .int .i64 a2_2, .int .i64 a2_3]] w K = W132 a0_0 a1 a2_0 a2_1 a2_2 a2_3 w K := by kernel_rfl
theorem ok132 : OkFn Try.prog 132 := ⟨Try.f132, Try.func132, by kernel_rfl, by kernel_rfl⟩
theorem go132 {a0_0 : Sl} {a1 : Int} {a2_0 : Int} {a2_1 : Int} {a2_2 : Int} {a2_3 : Int} {w : World} {K : Value → World → Prop} (h : W132 a0_0 a1 a2_0 a2_1 a2_2 a2_3 w K) : CallW Try.prog 132 #[.agg #[.slice a0_0.a a0_0.len a0_0.cap], .int .i64 a1, .agg #[.int .i64 a2_0, .int .i64 a2_1, .int .i64 a2_2, .int .i64 a2_3]] w K :=
  .inl ⟨ok132, denFn_sound tt_ok mix Try.func132 (by kernel_rfl) (eq132 a0_0 a1 a2_0 a2_1 a2_2 a2_3 w K ▸ h)⟩

/- loop.example/g00008/spec.l16Take -/
def an133 : Ann := (.seq .leaf (.seq .leaf (.seq .leaf (.seq (.seq .leaf (.in_ (.loop 118 [(7, .int .i64), (8, .int .i64)] (.seq (.seq .leaf (.cond .leaf .leaf)) (.seq (.in_ (.seq (.reg [(5, none), (6, some (502, [(29, .bool)]))]) (.cond .leaf .leaf))) .leaf))))) (.join 118 [(7, .int .i64)] (.seq .leaf (.cond .leaf (.seq .leaf (.cond .leaf .leaf)))) (.seq (.seq .leaf (.cond (.seq .leaf .leaf) .leaf)) (.seq (.draw [0, 1, 0, 0, 8, 0, 56, 127, 255, 511] [0, 1, 2, 3, 4, 5, 6, 7, 8, 9]) (.seq (.seq .leaf (.cond (.seq (.draw [0, 1, 0, 0, 8, 0, 56, 127, 255, 511] [0, 1, 2, 3, 4, 5, 6, 7, 8, 9]) (.seq .leaf .leaf)) .leaf)) (.seq .leaf (.seq (.seq .leaf (.cond (.seq .leaf (.seq (.draw [0, 0, 1, 7] [0, 1, 2, 3]) .leaf)) .leaf)) (.seq (.seq (.reg [(3, none), (3, some (756, [(82, .bool)])), (1, none), (4, some (756, [(87, .bool)]))]) (.cond (.seq (.draw [0, 0, 1, 7] [0, 1, 2, 3]) .leaf) .leaf)) (.seq (.draw [0, 0, 2, 0, 8, 31, 0, 63, 255] [0, 1, 2, 3, 4, 6, 5, 7, 8]) .leaf))))))))))))
def W133 (a0_0 : Sl) (a1 : Int) (w : World) (K : Value → World → Prop) : Prop :=
  LetW (w.alloc (.cells #[.slice a0_0.a a0_0.len a0_0.cap] 84)) fun w1 => LetW (w1.alloc (.cells #[.slice none 0 0] 84)) fun w2 => LetW (w2.alloc (.cells #[.int .i64 0, .int .i64 0, .int .i64 0] 86)) fun w3 => ∃ l4 : Sl, w3.cell? ⟨w.heap.size, 0, none⟩ = some (.slice l4.a l4.len l4.cap) ∧ 0 ≤ (a1 : Int) ∧ (a1 : Int) < ((l4.len : Nat) : Int) ∧ ∃ q5 : Addr, (l4.a : Option Addr) = some q5 ∧ ∃ n6 : Int, w3.cell? ((q5.add (Int.toNat a1 * 10)).add 0) = some (.int .i64 n6) ∧ ∃ n7 : Int, w3.cell? ((q5.add (Int.toNat a1 * 10)).add 1) = some (.int .i64 n7) ∧ ∃ n8 : Int, w3.cell? ((q5.add (Int.toNat a1 * 10)).add 2) = some (.int .i64 n8) ∧ ∃ n9 : Int, w3.cell? ((q5.add (Int.toNat a1 * 10)).add 3) = some (.int .i64 n9) ∧ ∃ n10 : Int, w3.cell? ((q5.add (Int.toNat a1 * 10)).add 4) = some (.int .i64 n10) ∧ ∃ n11 : Int, w3.cell? ((q5.add (Int.toNat a1 * 10)).add 5) = some (.int .i64 n11) ∧ ∃ n12 : Int, w3.cell? ((q5.add (Int.toNat a1 * 10)).add 6) = some (.int .i64 n12) ∧ ∃ n13 : Int, w3.cell? ((q5.add (Int.toNat a1 * 10)).add 7) = some (.int .i64 n13) ∧ ∃ n14 : Int, w3.cell? ((q5.add (Int.toNat a1 * 10)).add 8) = some (.int .i64 n14) ∧ ∃ n15 : Int, w3.cell? ((q5.add (Int.toNat a1 * 10)).add 9) = some (.int .i64 n15) ∧ LetW (w3.alloc (.cells #[.int .i64 0, .int .i64 0, .int .i64 0, .int .i64 0, .int .i64 0, .int .i64 0, .int .i64 0, .int .i64 0, .int .i64 0, .int .i64 0] 100)) fun w16 => MayN w16 ⟨w3.heap.size, 0, none⟩ 10 ∧ LetW (puts w16 ⟨w3.heap.size, 0, none⟩ 0 [.int .i64 n6, .int .i64 n7, .int .i64 n8, .int .i64 n9, .int .i64 n10, .int .i64 n11, .int .i64 n12, .int .i64 n13, .int .i64 n14, .int .i64 n15]) fun w17 => LoopW [.int .i64, .int .i64] (fun J20 => fun (n18 : Int) (n19 : Int) w21 => BIf (decide ((n19 : Int) ≥ 1)) (∃ n22 : Int, w21.cell? ⟨w3.heap.size, 6, none⟩ = some (.int .i64 n22) ∧ CallW Try.prog 143 #[.int .i64 n22, .int .i64 n19] w21 fun v23 w24 => ∃ b25 : Bool, v23 = .bool b25 ∧ JoinW [.bool] (fun J27 => BIf b25 (∃ n29 : Int, w24.cell? ⟨w3.heap.size, 7, none⟩ = some (.int .i64 n29) ∧ CallW Try.prog 143 #[.int .i64 n29, .int .i64 n19] w24 fun v30 w31 => ∃ b32 : Bool, v30 = .bool b32 ∧ J27 (!b32) w31) (J27 false w24)) (fun (b26 : Bool) w28 => BIf b26 (J20 n19 (IntKind.wrap .i64 (n19 - 1)) w28) (J20 n18 (IntKind.wrap .i64 (n19 - 1)) w28))) (JoinW [.int .i64] (fun J34 => ∃ n128 : Int, w21.cell? ⟨w3.heap.size, 6, none⟩ = some (.int .i64 n128) ∧ CallW Try.prog 143 #[.int .i64 n128, .int .i64 9] w21 fun v129 w130 => ∃ b131 : Bool, v129 = .bool b131 ∧ BIf b131 (J34 9 w130) (∃ n132 : Int, w130.cell? ⟨w3.heap.size, 4, none⟩ = some (.int .i64 n132) ∧ BIf ((n132 : Int) == 2) (J34 0 w130) (J34 n18 w130))) (fun (n33 : Int) w35 => BIf ((n33 : Int) == 0) (∃ l36 : Sl, w35.cell? ⟨w.heap.size, 0, none⟩ = some (.slice l36.a l36.len l36.cap) ∧ May w35 ⟨w1.heap.size, 0, none⟩ ∧ LetW (w35.setCell ⟨w1.heap.size, 0, none⟩ (.slice l36.a l36.len l36.cap)) fun w37 => MayN w37 ⟨w2.heap.size, 0, none⟩ 3 ∧ LetW (puts w37 ⟨w2.heap.size, 0, none⟩ 0 [.int .i64 9, .int .i64 0, .int .i64 0]) fun w38 => ∃ l39 : Sl, w38.cell? ⟨w1.heap.size, 0, none⟩ = some (.slice l39.a l39.len l39.cap) ∧ ∃ n40 : Int, w38.cell? ⟨w2.heap.size, 0, none⟩ = some (.int .i64 n40) ∧ ∃ n41 : Int, w38.cell? ⟨w2.heap.size, 1, none⟩ = some (.int .i64 n41) ∧ ∃ n42 : Int, w38.cell? ⟨w2.heap.size, 2, none⟩ = some (.int .i64 n42) ∧ K (.tuple #[.agg #[.slice l39.a l39.len l39.cap], .agg #[.int .i64 n40, .int .i64 n41, .int .i64 n42]]) w38) (∃ l43 : Sl, w35.drew.cell? ⟨w.heap.size, 0, none⟩ = some (.slice l43.a l43.len l43.cap) ∧ ∃ n44 : Int, w35.drew.cell? ⟨w3.heap.size, 6, none⟩ = some (.int .i64 n44) ∧ CallW Try.prog 131 #[.int .i64 n44, .int .i64 n33] w35.drew fun v45 w46 => ∃ n47 : Int, v45 = .int .i64 n47 ∧ (∃ l48 : Sl, w46.cell? ⟨w.heap.size, 0, none⟩ = some (.slice l48.a l48.len l48.cap) ∧ (.slice l48.a l48.len l48.cap : Value) = (.slice l43.a l43.len l43.cap : Value)) ∧ 0 ≤ (a1 : Int) ∧ (a1 : Int) < ((l43.len : Nat) : Int) ∧ ∃ q49 : Addr, (l43.a : Option Addr) = some q49 ∧ May w46 ((q49.add (Int.toNat a1 * 10)).add 6) ∧ LetW (w46.setCell ((q49.add (Int.toNat a1 * 10)).add 6) (.int .i64 n47)) fun w50 => ∃ n51 : Int, w50.cell? ⟨w3.heap.size, 9, none⟩ = some (.int .i64 n51) ∧ CallW Try.prog 143 #[.int .i64 n51, .int .i64 n33] w50 fun v52 w53 => ∃ b54 : Bool, v52 = .bool b54 ∧ BIf b54 (∃ l55 : Sl, w53.drew.cell? ⟨w.heap.size, 0, none⟩ = some (.slice l55.a l55.len l55.cap) ∧ ∃ n56 : Int, w53.drew.cell? ⟨w3.heap.size, 7, none⟩ = some (.int .i64 n56) ∧ CallW Try.prog 154 #[.int .i64 n56, .int .i64 n33] w53.drew fun v57 w58 => ∃ n59 : Int, v57 = .int .i64 n59 ∧ (∃ l60 : Sl, w58.cell? ⟨w.heap.size, 0, none⟩ = some (.slice l60.a l60.len l60.cap) ∧ (.slice l60.a l60.len l60.cap : Value) = (.slice l55.a l55.len l55.cap : Value)) ∧ 0 ≤ (a1 : Int) ∧ (a1 : Int) < ((l55.len : Nat) : Int) ∧ ∃ q61 : Addr, (l55.a : Option Addr) = some q61 ∧ May w58 ((q61.add (Int.toNat a1 * 10)).add 7) ∧ LetW (w58.setCell ((q61.add (Int.toNat a1 * 10)).add 7) (.int .i64 n59)) fun w62 => ∃ l63 : Sl, w62.cell? ⟨w.heap.size, 0, none⟩ = some (.slice l63.a l63.len l63.cap) ∧ May w62 ⟨w1.heap.size, 0, none⟩ ∧ LetW (w62.setCell ⟨w1.heap.size, 0, none⟩ (.slice l63.a l63.len l63.cap)) fun w64 => MayN w64 ⟨w2.heap.size, 0, none⟩ 3 ∧ LetW (puts w64 ⟨w2.heap.size, 0, none⟩ 0 [.int .i64 0, .int .i64 n33, .int .i64 2]) fun w65 => ∃ l66 : Sl, w65.cell? ⟨w1.heap.size, 0, none⟩ = some (.slice l66.a l66.len l66.cap) ∧ ∃ n67 : Int, w65.cell? ⟨w2.heap.size, 0, none⟩ = some (.int .i64 n67) ∧ ∃ n68 : Int, w65.cell? ⟨w2.heap.size, 1, none⟩ = some (.int .i64 n68) ∧ ∃ n69 : Int, w65.cell? ⟨w2.heap.size, 2, none⟩ = some (.int .i64 n69) ∧ K (.tuple #[.agg #[.slice l66.a l66.len l66.cap], .agg #[.int .i64 n67, .int .i64 n68, .int .i64 n69]]) w65) (LetW (w53.alloc (.cells #[.int .i64 0, .int .i64 0, .int .i64 0] 86)) fun w70 => MayN w70 ⟨w53.heap.size, 0, none⟩ 3 ∧ LetW (puts w70 ⟨w53.heap.size, 0, none⟩ 0 [.int .i64 0, .int .i64 n33, .int .i64 1]) fun w71 => BIf ((n33 : Int) == 12) (∃ l72 : Sl, w71.cell? ⟨w.heap.size, 0, none⟩ = some (.slice l72.a l72.len l72.cap) ∧ 0 ≤ (a1 : Int) ∧ (a1 : Int) < ((l72.len : Nat) : Int) ∧ ∃ q73 : Addr, (l72.a : Option Addr) = some q73 ∧ May w71 ((q73.add (Int.toNat a1 * 10)).add 4) ∧ LetW (w71.setCell ((q73.add (Int.toNat a1 * 10)).add 4) (.int .i64 2)) fun w74 => ∃ l75 : Sl, w74.drew.cell? ⟨w.heap.size, 0, none⟩ = some (.slice l75.a l75.len l75.cap) ∧ ∃ n76 : Int, w74.drew.cell? ⟨w53.heap.size, 0, none⟩ = some (.int .i64 n76) ∧ ∃ n77 : Int, w74.drew.cell? ⟨w53.heap.size, 1, none⟩ = some (.int .i64 n77) ∧ ∃ n78 : Int, w74.drew.cell? ⟨w53.heap.size, 2, none⟩ = some (.int .i64 n78) ∧ May w74.drew ⟨w1.heap.size, 0, none⟩ ∧ LetW (w74.drew.setCell ⟨w1.heap.size, 0, none⟩ (.slice l75.a l75.len l75.cap)) fun w79 => (∃ n80 : Int, w79.cell? ⟨w53.heap.size, 0, none⟩ = some (.int .i64 n80) ∧ ∃ n81 : Int, w79.cell? ⟨w53.heap.size, 1, none⟩ = some (.int .i64 n81) ∧ ∃ n82 : Int, w79.cell? ⟨w53.heap.size, 2, none⟩ = some (.int .i64 n82) ∧ (.agg #[.int .i64 n80, .int .i64 n81, .int .i64 n82] : Value) = (.agg #[.int .i64 n76, .int .i64 n77, .int .i64 n78] : Value)) ∧ MayN w79 ⟨w2.heap.size, 0, none⟩ 3 ∧ LetW (puts w79 ⟨w2.heap.size, 0, none⟩ 0 [.int .i64 n76, .int .i64 n77, .int .i64 n78]) fun w83 => ∃ l84 : Sl, w83.cell? ⟨w1.heap.size, 0, none⟩ = some (.slice l84.a l84.len l84.cap) ∧ ∃ n85 : Int, w83.cell? ⟨w2.heap.size, 0, none⟩ = some (.int .i64 n85) ∧ ∃ n86 : Int, w83.cell? ⟨w2.heap.size, 1, none⟩ = some (.int .i64 n86) ∧ ∃ n87 : Int, w83.cell? ⟨w2.heap.size, 2, none⟩ = some (.int .i64 n87) ∧ K (.tuple #[.agg #[.slice l84.a l84.len l84.cap], .agg #[.int .i64 n85, .int .i64 n86, .int .i64 n87]]) w83) (JoinW [.bool] (fun J89 => BIf ((n33 : Int) == 14) (J89 true w71) (J89 ((n33 : Int) == 13) w71)) (fun (b88 : Bool) w90 => JoinW [.bool] (fun J92 => BIf b88 (J92 true w90) (∃ n127 : Int, w90.cell? ⟨w3.heap.size, 0, none⟩ = some (.int .i64 n127) ∧ J92 ((n127 : Int) == 1) w90)) (fun (b91 : Bool) w93 => BIf b91 (∃ l94 : Sl, w93.drew.cell? ⟨w.heap.size, 0, none⟩ = some (.slice l94.a l94.len l94.cap) ∧ ∃ n95 : Int, w93.drew.cell? ⟨w53.heap.size, 0, none⟩ = some (.int .i64 n95) ∧ ∃ n96 : Int, w93.drew.cell? ⟨w53.heap.size, 1, none⟩ = some (.int .i64 n96) ∧ ∃ n97 : Int, w93.drew.cell? ⟨w53.heap.size, 2, none⟩ = some (.int .i64 n97) ∧ May w93.drew ⟨w1.heap.size, 0, none⟩ ∧ LetW (w93.drew.setCell ⟨w1.heap.size, 0, none⟩ (.slice l94.a l94.len l94.cap)) fun w98 => (∃ n99 : Int, w98.cell? ⟨w53.heap.size, 0, none⟩ = some (.int .i64 n99) ∧ ∃ n100 : Int, w98.cell? ⟨w53.heap.size, 1, none⟩ = some (.int .i64 n100) ∧ ∃ n101 : Int, w98.cell? ⟨w53.heap.size, 2, none⟩ = some (.int .i64 n101) ∧ (.agg #[.int .i64 n99, .int .i64 n100, .int .i64 n101] : Value) = (.agg #[.int .i64 n95, .int .i64 n96, .int .i64 n97] : Value)) ∧ MayN w98 ⟨w2.heap.size, 0, none⟩ 3 ∧ LetW (puts w98 ⟨w2.heap.size, 0, none⟩ 0 [.int .i64 n95, .int .i64 n96, .int .i64 n97]) fun w102 => ∃ l103 : Sl, w102.cell? ⟨w1.heap.size, 0, none⟩ = some (.slice l103.a l103.len l103.cap) ∧ ∃ n104 : Int, w102.cell? ⟨w2.heap.size, 0, none⟩ = some (.int .i64 n104) ∧ ∃ n105 : Int, w102.cell? ⟨w2.heap.size, 1, none⟩ = some (.int .i64 n105) ∧ ∃ n106 : Int, w102.cell? ⟨w2.heap.size, 2, none⟩ = some (.int .i64 n106) ∧ K (.tuple #[.agg #[.slice l103.a l103.len l103.cap], .agg #[.int .i64 n104, .int .i64 n105, .int .i64 n106]]) w102) (∃ l107 : Sl, w93.drew.cell? ⟨w.heap.size, 0, none⟩ = some (.slice l107.a l107.len l107.cap) ∧ ∃ n108 : Int, w93.drew.cell? ⟨w3.heap.size, 0, none⟩ = some (.int .i64 n108) ∧ ∃ n109 : Int, w93.drew.cell? ⟨w53.heap.size, 0, none⟩ = some (.int .i64 n109) ∧ ∃ n110 : Int, w93.drew.cell? ⟨w53.heap.size, 1, none⟩ = some (.int .i64 n110) ∧ ∃ n111 : Int, w93.drew.cell? ⟨w53.heap.size, 2, none⟩ = some (.int .i64 n111) ∧ CallW Try.prog 127 #[.agg #[.slice l107.a l107.len l107.cap], .int .i64 n108, .int .i64 (IntKind.wrap .i64 (128 + n33))] w93.drew fun v112 w113 => ∃ l114 : Sl, v112 = .agg #[.slice l114.a l114.len l114.cap] ∧ (∃ n115 : Int, w113.cell? ⟨w53.heap.size, 0, none⟩ = some (.int .i64 n115) ∧ ∃ n116 : Int, w113.cell? ⟨w53.heap.size, 1, none⟩ = some (.int .i64 n116) ∧ ∃ n117 : Int, w113.cell? ⟨w53.heap.size, 2, none⟩ = some (.int .i64 n117) ∧ (.agg #[.int .i64 n115, .int .i64 n116, .int .i64 n117] : Value) = (.agg #[.int .i64 n109, .int .i64 n110, .int .i64 n111] : Value)) ∧ May w113 ⟨w1.heap.size, 0, none⟩ ∧ LetW (w113.setCell ⟨w1.heap.size, 0, none⟩ (.slice l114.a l114.len l114.cap)) fun w118 => (∃ n119 : Int, w118.cell? ⟨w53.heap.size, 0, none⟩ = some (.int .i64 n119) ∧ ∃ n120 : Int, w118.cell? ⟨w53.heap.size, 1, none⟩ = some (.int .i64 n120) ∧ ∃ n121 : Int, w118.cell? ⟨w53.heap.size, 2, none⟩ = some (.int .i64 n121) ∧ (.agg #[.int .i64 n119, .int .i64 n120, .int .i64 n121] : Value) = (.agg #[.int .i64 n109, .int .i64 n110, .int .i64 n111] : Value)) ∧ MayN w118 ⟨w2.heap.size, 0, none⟩ 3 ∧ LetW (puts w118 ⟨w2.heap.size, 0, none⟩ 0 [.int .i64 n109, .int .i64 n110, .int .i64 n111]) fun w122 => ∃ l123 : Sl, w122.cell? ⟨w1.heap.size, 0, none⟩ = some (.slice l123.a l123.len l123.cap) ∧ ∃ n124 : Int, w122.cell? ⟨w2.heap.size, 0, none⟩ = some (.int .i64 n124) ∧ ∃ n125 : Int, w122.cell? ⟨w2.heap.size, 1, none⟩ = some (.int .i64 n125) ∧ ∃ n126 : Int, w122.cell? ⟨w2.heap.size, 2, none⟩ = some (.int .i64 n126) ∧ K (.tuple #[.agg #[.slice l123.a l123.len l123.cap], .agg #[.int .i64 n124, .int .i64 n125, .int .i64 n126]]) w122))))))))) ((0 : Int), ((15 : Int), ())) w17
theorem eq133 (a0_0 : Sl) (a1 : Int) (w : World) (K : Value → World → Prop) : denFn Try.prog tt Try.f133 an133 [.agg #[.slice a0_0.a a0_0.len a0_0.cap], .int .i64 a1] w K = W133 a0_0 a1 w K := by kernel_rfl
theorem ok133 : OkFn Try.prog 133 := ⟨Try.f133, Try.func133, by kernel_rfl, by kernel_rfl⟩
theorem go133 {a0_0 : Sl} {a1 : Int} {w : World} {K : Value → World → Prop} (h : W133 a0_0 a1 w K) : CallW Try.prog 133 #[.agg #[.slice a0_0.a a0_0.len a0_0.cap], .int .i64 a1] w K :=
  .inl ⟨ok133, denFn_sound tt_ok mix Try.func133 (by kernel_rfl) (eq133 a0_0 a1 w K ▸ h)⟩

/- loop.example/g00008/spec.l16Group -/
def an134 : Ann := (.seq .leaf (.seq .leaf (.seq (.join 488 [(43, .bool)] (.draw [0, 1, 3, 7, 15, 7, 39, 127, 255, 511, 1023, 511, 4095, 8191, 16383, 511, 33279, 131071, 262143, 524287, 1048575, 2097151, 4194303, 2097151, 16777215, 33554431, 67108863, 134217727, 268435455] [0, 1, 2, 3, 4, 5, 6, 7, 8, 9, 10, 11, 12, 13, 14, 15, 16, 17, 18, 19, 20, 21, 22, 23, 24, 25, 26, 27, 28]) (.cond (.seq .leaf .leaf) .leaf)) (.seq (.seq (.reg [(4, none), (4, some (488, [(53, .bool)]))]) (.cond (.seq .leaf .leaf) .leaf)) (.seq .leaf (.seq (.seq .leaf (.in_ (.loop 488 [(9, .bool), (10, .int .i64)] (.seq (.seq .leaf (.cond .leaf .leaf)) (.seq (.in_ (.draw [0, 1, 3, 7, 3, 31, 63, 127, 3, 259, 1023, 2047, 4095, 8191, 4095, 32767, 65535, 131071, 4095, 266239, 1048575, 2097151, 4194303, 8388607] [0, 1, 2, 3, 4, 5, 6, 7, 8, 9, 10, 11, 12, 13, 14, 15, 16, 17, 18, 19, 20, 21, 22, 23])) .leaf))))) (.seq (.seq .leaf (.cond (.seq .leaf .leaf) .leaf)) (.seq .leaf (.seq .leaf .leaf)))))))))
def W134 (a0_0 : Sl) (a1 : Int) (a2_0 : Int) (a2_1 : Int) (a2_2 : Int) (a2_3 : Int) (w : World) (K : Value → World → Prop) : Prop :=
  LetW (w.alloc (.cells #[.slice a0_0.a a0_0.len a0_0.cap] 84)) fun w1 => LetW (w1.alloc (.cells #[.int .i64 a2_0, .int .i64 a2_1, .int .i64 a2_2, .int .i64 a2_3] 90)) fun w2 => LetW (w2.alloc (.cells #[.slice none 0 0] 84)) fun w3 => LetW (w3.alloc (.cells #[.int .i64 0, .int .i64 0, .int .i64 0] 86)) fun w4 => ∃ l5 : Sl, w4.cell? ⟨w.heap.size, 0, none⟩ = some (.slice l5.a l5.len l5.cap) ∧ ∃ n6 : Int, w4.cell? ⟨w1.heap.size, 2, none⟩ = some (.int .i64 n6) ∧ CallW Try.prog 102 #[.agg #[.slice l5.a l5.len l5.cap], .int .i64 n6] w4 fun v7 w8 => ∃ n9 : Int, v7 = .int .i64 n9 ∧ JoinW [.bool] (fun J11 => BIf (decide ((n9 : Int) < 0)) (J11 true w8.drew) (∃ n65 : Int, w8.drew.cell? ⟨w1.heap.size, 2, none⟩ = some (.int .i64 n65) ∧ ∃ n66 : Int, w8.drew.cell? ⟨w1.heap.size, 1, none⟩ = some (.int .i64 n66) ∧ BIf ((n65 : Int) != n66) (∃ l67 : Sl, w8.drew.cell? ⟨w.heap.size, 0, none⟩ = some (.slice l67.a l67.len l67.cap) ∧ 0 ≤ (n9 : Int) ∧ (n9 : Int) < ((l67.len : Nat) : Int) ∧ ∃ q68 : Addr, (l67.a : Option Addr) = some q68 ∧ ∃ n69 : Int, w8.drew.cell? ((q68.add (Int.toNat n9 * 10)).add 1) = some (.int .i64 n69) ∧ ∃ n70 : Int, w8.drew.cell? ⟨w1.heap.size, 1, none⟩ = some (.int .i64 n70) ∧ BIf ((n69 : Int) != n70) (J11 true w8.drew) (∃ l71 : Sl, w8.drew.cell? ⟨w.heap.size, 0, none⟩ = some (.slice l71.a l71.len l71.cap) ∧ 0 ≤ (n9 : Int) ∧ (n9 : Int) < ((l71.len : Nat) : Int) ∧ ∃ q72 : Addr, (l71.a : Option Addr) = some q72 ∧ ∃ n73 : Int, w8.drew.cell? ((q72.add (Int.toNat n9 * 10)).add 4) = some (.int .i64 n73) ∧ J11 ((n73 : Int) == 3) w8.drew)) (∃ l74 : Sl, w8.drew.cell? ⟨w.heap.size, 0, none⟩ = some (.slice l74.a l74.len l74.cap) ∧ 0 ≤ (n9 : Int) ∧ (n9 : Int) < ((l74.len : Nat) : Int) ∧ ∃ q75 : Addr, (l74.a : Option Addr) = some q75 ∧ ∃ n76 : Int, w8.drew.cell? ((q75.add (Int.toNat n9 * 10)).add 4) = some (.int .i64 n76) ∧ J11 ((n76 : Int) == 3) w8.drew))) (fun (b10 : Bool) w12 => BIf b10 (∃ l13 : Sl, w12.cell? ⟨w.heap.size, 0, none⟩ = some (.slice l13.a l13.len l13.cap) ∧ May w12 ⟨w2.heap.size, 0, none⟩ ∧ LetW (w12.setCell ⟨w2.heap.size, 0, none⟩ (.slice l13.a l13.len l13.cap)) fun w14 => MayN w14 ⟨w3.heap.size, 0, none⟩ 3 ∧ LetW (puts w14 ⟨w3.heap.size, 0, none⟩ 0 [.int .i64 3, .int .i64 0, .int .i64 0]) fun w15 => ∃ l16 : Sl, w15.cell? ⟨w2.heap.size, 0, none⟩ = some (.slice l16.a l16.len l16.cap) ∧ ∃ n17 : Int, w15.cell? ⟨w3.heap.size, 0, none⟩ = some (.int .i64 n17) ∧ ∃ n18 : Int, w15.cell? ⟨w3.heap.size, 1, none⟩ = some (.int .i64 n18) ∧ ∃ n19 : Int, w15.cell? ⟨w3.heap.size, 2, none⟩ = some (.int .i64 n19) ∧ K (.tuple #[.agg #[.slice l16.a l16.len l16.cap], .agg #[.int .i64 n17, .int .i64 n18, .int .i64 n19]]) w15) (∃ n20 : Int, w12.cell? ⟨w1.heap.size, 3, none⟩ = some (.int .i64 n20) ∧ JoinW [.bool] (fun J22 => BIf (decide ((n20 : Int) < 1)) (J22 true w12) (∃ n64 : Int, w12.cell? ⟨w1.heap.size, 3, none⟩ = some (.int .i64 n64) ∧ J22 (decide ((n64 : Int) > 32)) w12)) (fun (b21 : Bool) w23 => BIf b21 (∃ l24 : Sl, w23.cell? ⟨w.heap.size, 0, none⟩ = some (.slice l24.a l24.len l24.cap) ∧ May w23 ⟨w2.heap.size, 0, none⟩ ∧ LetW (w23.setCell ⟨w2.heap.size, 0, none⟩ (.slice l24.a l24.len l24.cap)) fun w25 => MayN w25 ⟨w3.heap.size, 0, none⟩ 3 ∧ LetW (puts w25 ⟨w3.heap.size, 0, none⟩ 0 [.int .i64 1, .int .i64 0, .int .i64 0]) fun w26 => ∃ l27 : Sl, w26.cell? ⟨w2.heap.size, 0, none⟩ = some (.slice l27.a l27.len l27.cap) ∧ ∃ n28 : Int, w26.cell? ⟨w3.heap.size, 0, none⟩ = some (.int .i64 n28) ∧ ∃ n29 : Int, w26.cell? ⟨w3.heap.size, 1, none⟩ = some (.int .i64 n29) ∧ ∃ n30 : Int, w26.cell? ⟨w3.heap.size, 2, none⟩ = some (.int .i64 n30) ∧ K (.tuple #[.agg #[.slice l27.a l27.len l27.cap], .agg #[.int .i64 n28, .int .i64 n29, .int .i64 n30]]) w26) (∃ n31 : Int, w23.cell? ⟨w1.heap.size, 3, none⟩ = some (.int .i64 n31) ∧ ∃ n32 : Int, w23.cell? ⟨w1.heap.size, 2, none⟩ = some (.int .i64 n32) ∧ LoopW [.bool, .int .i64] (fun J35 => fun (b33 : Bool) (n34 : Int) w36 => ∃ l37 : Sl, w36.cell? ⟨w.heap.size, 0, none⟩ = some (.slice l37.a l37.len l37.cap) ∧ BIf (decide ((n34 : Int) < ((l37.len : Nat) : Int))) (BIf b33 (J35 true (IntKind.wrap .i64 (n34 + 1)) w36.drew) (∃ l38 : Sl, w36.drew.cell? ⟨w.heap.size, 0, none⟩ = some (.slice l38.a l38.len l38.cap) ∧ 0 ≤ (n34 : Int) ∧ (n34 : Int) < ((l38.len : Nat) : Int) ∧ ∃ q39 : Addr, (l38.a : Option Addr) = some q39 ∧ ∃ n40 : Int, w36.drew.cell? ((q39.add (Int.toNat n34 * 10)).add 0) = some (.int .i64 n40) ∧ ∃ n41 : Int, w36.drew.cell? ⟨w1.heap.size, 2, none⟩ = some (.int .i64 n41) ∧ BIf ((n40 : Int) != n41) (∃ l42 : Sl, w36.drew.cell? ⟨w.heap.size, 0, none⟩ = some (.slice l42.a l42.len l42.cap) ∧ 0 ≤ (n34 : Int) ∧ (n34 : Int) < ((l42.len : Nat) : Int) ∧ ∃ q43 : Addr, (l42.a : Option Addr) = some q43 ∧ ∃ n44 : Int, w36.drew.cell? ((q43.add (Int.toNat n34 * 10)).add 2) = some (.int .i64 n44) ∧ ∃ n45 : Int, w36.drew.cell? ⟨w1.heap.size, 3, none⟩ = some (.int .i64 n45) ∧ J35 ((n44 : Int) == n45) (IntKind.wrap .i64 (n34 + 1)) w36.drew) (J35 false (IntKind.wrap .i64 (n34 + 1)) w36.drew))) (BIf (!b33) (∃ l46 : Sl, w36.cell? ⟨w.heap.size, 0, none⟩ = some (.slice l46.a l46.len l46.cap) ∧ May w36 ⟨w2.heap.size, 0, none⟩ ∧ LetW (w36.setCell ⟨w2.heap.size, 0, none⟩ (.slice l46.a l46.len l46.cap)) fun w47 => MayN w47 ⟨w3.heap.size, 0, none⟩ 3 ∧ LetW (puts w47 ⟨w3.heap.size, 0, none⟩ 0 [.int .i64 2, .int .i64 0, .int .i64 0]) fun w48 => ∃ l49 : Sl, w48.cell? ⟨w2.heap.size, 0, none⟩ = some (.slice l49.a l49.len l49.cap) ∧ ∃ n50 : Int, w48.cell? ⟨w3.heap.size, 0, none⟩ = some (.int .i64 n50) ∧ ∃ n51 : Int, w48.cell? ⟨w3.heap.size, 1, none⟩ = some (.int .i64 n51) ∧ ∃ n52 : Int, w48.cell? ⟨w3.heap.size, 2, none⟩ = some (.int .i64 n52) ∧ K (.tuple #[.agg #[.slice l49.a l49.len l49.cap], .agg #[.int .i64 n50, .int .i64 n51, .int .i64 n52]]) w48) (∃ l53 : Sl, w36.cell? ⟨w.heap.size, 0, none⟩ = some (.slice l53.a l53.len l53.cap) ∧ ∃ n54 : Int, w36.cell? ⟨w1.heap.size, 3, none⟩ = some (.int .i64 n54) ∧ 0 ≤ (n9 : Int) ∧ (n9 : Int) < ((l53.len : Nat) : Int) ∧ ∃ q55 : Addr, (l53.a : Option Addr) = some q55 ∧ May w36 ((q55.add (Int.toNat n9 * 10)).add 2) ∧ LetW (w36.setCell ((q55.add (Int.toNat n9 * 10)).add 2) (.int .i64 n54)) fun w56 => ∃ l57 : Sl, w56.cell? ⟨w.heap.size, 0, none⟩ = some (.slice l57.a l57.len l57.cap) ∧ May w56 ⟨w2.heap.size, 0, none⟩ ∧ LetW (w56.setCell ⟨w2.heap.size, 0, none⟩ (.slice l57.a l57.len l57.cap)) fun w58 => MayN w58 ⟨w3.heap.size, 0, none⟩ 3 ∧ LetW (puts w58 ⟨w3.heap.size, 0, none⟩ 0 [.int .i64 0, .int .i64 0, .int .i64 0]) fun w59 => ∃ l60 : Sl, w59.cell? ⟨w2.heap.size, 0, none⟩ = some (.slice l60.a l60.len l60.cap) ∧ ∃ n61 : Int, w59.cell? ⟨w3.heap.size, 0, none⟩ = some (.int .i64 n61) ∧ ∃ n62 : Int, w59.cell? ⟨w3.heap.size, 1, none⟩ = some (.int .i64 n62) ∧ ∃ n63 : Int, w59.cell? ⟨w3.heap.size, 2, none⟩ = some (.int .i64 n63) ∧ K (.tuple #[.agg #[.slice l60.a l60.len l60.cap], .agg #[.int .i64 n61, .int .i64 n62, .int .i64 n63]]) w59))) (((n31 : Int) == n32 : Bool), ((0 : Int), ())) w23))))
theorem eq134 (a0_0 : Sl) (a1 : Int) (a2_0 : Int) (a2_1 : Int) (a2_2 : Int) (a2_3 : Int) (w : World) (K : Value → World → Prop) : denFn Try.prog tt Try.f134 an134 [.agg #[.slice a0_0.a a0_0.len a0_0.cap], .int .i64 a1, .agg #[.int .i64 a2_0, .int .i64 a2_1, .int .i64 a2_2, .int .i64 a2_3]] w K = W134 a0_0 a1 a2_0 a2_1 a2_2 a2_3 w K := by kernel_rfl
theorem ok134 : OkFn Try.prog 134 := ⟨Try.f134, Try.func134, by kernel_rfl, by kernel_rfl⟩
theorem go134 {a0_0 : Sl} {a1 : Int} {a2_0 : Int} {a2_1 : Int} {a2_2 : Int} {a2_3 : Int} {w : World} {K : Value → World → Prop} (h : W134 a0_0 a1 a2_0 a2_1 a2_2 a2_3 w K) : CallW Try.prog 134 #[.agg #[.slice a0_0.a a0_0.len a0_0.cap], .int .i64 a1, .agg #[.int .i64 a2_0, .int .i64 a2_1, .int .i64 a2_2, .int .i64 a2_3]] w K :=
  .inl ⟨ok134, denFn_sound tt_ok mix Try.func134 (by kernel_rfl) (eq134 a0_0 a1 a2_0 a2_1 a2_2 a2_3 w K ▸ h)⟩

/- (*loop.example/g00008/impl.Procs).step$1 -/
def an136 : Ann := (.seq .leaf (.seq .leaf .leaf))
def W136 (a0 : Int) (w : World) (K : Value → World → Prop) : Prop :=
  LetW (w.alloc (.cells #[.int .i64 0, .int .i64 0, .int .i64 0] 86)) fun w1 => MayN w1 ⟨w.heap.size, 0, none⟩ 3 ∧ LetW (puts w1 ⟨w.heap.size, 0, none⟩ 0 [.int .i64 a0, .int .i64 0, .int .i64 0]) fun w2 => ∃ n3 : Int, w2.cell? ⟨w.heap.size, 0, none⟩ = some (.int .i64 n3) ∧ ∃ n4 : Int, w2.cell? ⟨w.heap.size, 1, none⟩ = some (.int .i64 n4) ∧ ∃ n5 : Int, w2.cell? ⟨w.heap.size, 2, none⟩ = some (.int .i64 n5) ∧ K (.agg #[.int .i64 n3, .int .i64 n4, .int .i64 n5]) w2
theorem eq136 (a0 : Int) (w : World) (K : Value → World → Prop) : denFn Try.prog tt Try.f136 an136 [.int .i64 a0] w K = W136 a0 w K := by kernel_rfl
theorem ok136 : OkFn Try.prog 136 := ⟨Try.f136, Try.func136, by kernel_rfl, by kernel_rfl⟩
theorem go136 {a0 : Int} {w : World} {K : Value → World → Prop} (h : W136 a0 w K) : CallW Try.prog 136 #[.int .i64 a0] w K :=
  .inl ⟨ok136, denFn_sound tt_ok mix Try.func136 (by kernel_rfl) (eq136 a0 w K ▸ h)⟩

/- (*loop.example/g00008/impl.Procs).step$2 -/
def an137 : Ann := (.seq .leaf (.seq (.in_ (.seq .leaf (.cond (.seq .leaf .leaf) (.seq .leaf (.cond (.seq (.draw [0, 1, 0, 4, 12, 28, 63, 127] [0, 1, 2, 3, 4, 5, 6, 7]) .leaf) (.seq .leaf (.cond (.seq .leaf .leaf) .leaf))))))) (.seq .leaf .leaf)))
def W137 (a0_0 : Int) (a0_1 : Int) (a0_2 : Int) (a0_3 : Int) (a0_4 : Int) (a0_5 : Int) (a0_6 : Int) (a0_7 : Int) (a0_8 : Int) (a0_9 : Int) (c0 : Addr) (c1 : Addr) (w : World) (K : Value → World → Prop) : Prop :=
  LetW (w.alloc (.cells #[.int .i64 a0_0, .int .i64 a0_1, .int .i64 a0_2, .int .i64 a0_3, .int .i64 a0_4, .int .i64 a0_5, .int .i64 a0_6, .int .i64 a0_7, .int .i64 a0_8, .int .i64 a0_9] 100)) fun w1 => ∃ n2 : Int, w1.cell? (c0.add 2) = some (.int .i64 n2) ∧ BIf (decide ((n2 : Int) > 0)) (∃ n3 : Int, w1.cell? ⟨w.heap.size, 0, none⟩ = some (.int .i64 n3) ∧ ∃ n4 : Int, w1.cell? (c0.add 2) = some (.int .i64 n4) ∧ K (.bool ((n3 : Int) == n4)) w1) (∃ n5 : Int, w1.cell? (c0.add 2) = some (.int .i64 n5) ∧ BIf ((n5 : Int) == 0) (∃ n6 : Int, w1.drew.cell? ⟨w.heap.size, 2, none⟩ = some (.int .i64 n6) ∧ ∃ p7 : Option Addr, w1.drew.cell? c1 = some (.pointer p7) ∧ ∃ p8 : Addr, (p7 : Option Addr) = some p8 ∧ ∃ n9 : Int, w1.drew.cell? (p8.add 2) = some (.int .i64 n9) ∧ K (.bool ((n6 : Int) == n9)) w1.drew) (∃ n10 : Int, w1.cell? (c0.add 2) = some (.int .i64 n10) ∧ BIf ((n10 : Int) == (-1)) (K (.bool true) w1) (∃ n11 : Int, w1.cell? ⟨w.heap.size, 2, none⟩ = some (.int .i64 n11) ∧ ∃ n12 : Int, w1.cell? (c0.add 2) = some (.int .i64 n12) ∧ K (.bool ((n11 : Int) == (IntKind.wrap .i64 (0 - n12)))) w1)))
theorem eq137 (a0_0 : Int) (a0_1 : Int) (a0_2 : Int) (a0_3 : Int) (a0_4 : Int) (a0_5 : Int) (a0_6 : Int) (a0_7 : Int) (a0_8 : Int) (a0_9 : Int) (c0 : Addr) (c1 : Addr) (w : World) (K : Value → World → Prop) : denFn Try.prog tt Try.f137 an137 [.agg #[.int .i64 a0_0, .int .i64 a0_1, .int .i64 a0_2, .int .i64 a0_3, .int .i64 a0_4, .int .i64 a0_5, .int .i64 a0_6, .int .i64 a0_7, .int .i64 a0_8, .int .i64 a0_9], .pointer (some c0), .pointer (some c1)] w K = W137 a0_0 a0_1 a0_2 a0_3 a0_4 a0_5 a0_6 a0_7 a0_8 a0_9 c0 c1 w K := by kernel_rfl
theorem ok137 : OkFn Try.prog 137 := ⟨Try.f137, Try.func137, by kernel_rfl, by kernel_rfl⟩
theorem go137 {a0_0 : Int} {a0_1 : Int} {a0_2 : Int} {a0_3 : Int} {a0_4 : Int} {a0_5 : Int} {a0_6 : Int} {a0_7 : Int} {a0_8 : Int} {a0_9 : Int} {c0 : Addr} {c1 : Addr} {w : World} {K : Value → World → Prop} (h : W137 a0_0 a0_1 a0_2 a0_3 a0_4 a0_5 a0_6 a0_7 a0_8 a0_9 c0 c1 w K) : CallW Try.prog 137 #[.agg #[.int .i64 a0_0, .int .i64 a0_1, .int .i64 a0_2, .int .i64 a0_3, .int .i64 a0_4, .int .i64 a0_5, .int .i64 a0_6, .int .i64 a0_7, .int .i64 a0_8, .int .i64 a0_9], .pointer (some c0), .pointer (some c1)] w K :=
  .inl ⟨ok137, denFn_sound tt_ok mix Try.func137 (by kernel_rfl) (eq137 a0_0 a0_1 a0_2 a0_3 a0_4 a0_5 a0_6 a0_7 a0_8 a0_9 c0 c1 w K ▸ h)⟩

/- (*loop.example/g00008/impl.Procs).end -/
def an138 : Ann := (.seq .leaf (.seq (.seq .leaf (.in_ (.loop 32775 [(6, .bool), (16, .int .i64)] (.seq .leaf (.seq (.cond .leaf .leaf) (.seq (.in_ (.seq .leaf (.seq .leaf (.seq .leaf (.cond (.seq .leaf (.reg [(2, none), (6, some (98311, [(41, .bool)])), (1, none)])) .leaf))))) .leaf)))))) (.join 7 [] (.seq .leaf (.cond .leaf .leaf)) (.seq .leaf (.seq .leaf (.seq (.seq .leaf (.cond (.seq .leaf .leaf) .leaf)) (.seq .leaf .leaf)))))))
def W138 (a0 : Option Addr) (a1 : Int) (a2 : Int) (w : World) (K : Value → World → Prop) : Prop :=
  ∃ p1 : Addr, (a0 : Option Addr) = some p1 ∧ ∃ l2 : Sl, w.cell? (p1.add 0) = some (.slice l2.a l2.len l2.cap) ∧ LoopW [.bool, .int .i64] (fun J5 => fun (b3 : Bool) (n4 : Int) w6 => BIf (decide ((n4 : Int) < ((l2.len : Nat) : Int))) (∃ p7 : Addr, (a0 : Option Addr) = some p7 ∧ ∃ l8 : Sl, w6.cell? (p7.add 0) = some (.slice l8.a l8.len l8.cap) ∧ 0 ≤ (n4 : Int) ∧ (n4 : Int) < ((l8.len : Nat) : Int) ∧ ∃ q9 : Addr, (l8.a : Option Addr) = some q9 ∧ ∃ p10 : Addr, (some (q9.add (Int.toNat n4 * 10)) : Option Addr) = some p10 ∧ ∃ n11 : Int, w6.cell? (p10.add 1) = some (.int .i64 n11) ∧ BIf ((n11 : Int) == a1) (∃ p12 : Addr, (some (q9.add (Int.toNat n4 * 10)) : Option Addr) = some p12 ∧ May w6 (p12.add 1) ∧ LetW (w6.setCell (p12.add 1) (.int .i64 1)) fun w13 => JoinW [.bool] (fun J15 => BIf b3 (J15 true w13) (∃ p17 : Addr, (some (q9.add (Int.toNat n4 * 10)) : Option Addr) = some p17 ∧ ∃ n18 : Int, w13.cell? (p17.add 4) = some (.int .i64 n18) ∧ J15 ((n18 : Int) == 3) w13)) (fun (b14 : Bool) w16 => J5 b14 (IntKind.wrap .i64 (n4 + 1)) w16)) (J5 b3 (IntKind.wrap .i64 (n4 + 1)) w6)) (JoinW [] (fun J19 => BIf b3 (CallW Try.prog 140 #[.pointer a0, .int .i64 1, .int .i64 14] w6 fun v49 w50 => v49 = .tuple #[] ∧ J19 w50) (J19 w6)) (fun w20 => CallW Try.prog 104 #[.pointer a0, .int .i64 a1] w20 fun v21 w22 => ∃ p23 : Option Addr, v21 = .pointer p23 ∧ ∃ p24 : Addr, (p23 : Option Addr) = some p24 ∧ ∃ n25 : Int, w22.cell? (p24.add 1) = some (.int .i64 n25) ∧ CallW Try.prog 104 #[.pointer a0, .int .i64 n25] w22 fun v26 w27 => ∃ p28 : Option Addr, v26 = .pointer p28 ∧ ∃ p29 : Addr, (p28 : Option Addr) = some p29 ∧ ∃ n30 : Int, w27.cell? (p29.add 8) = some (.int .i64 n30) ∧ 0 ≤ (14 : Int) ∧ BIf ((andI .i64 (shrI .i64 n30 14) 1 : Int) == 1) (CallW Try.prog 139 #[.pointer a0, .int .i64 a1] w27 fun v31 w32 => v31 = .tuple #[] ∧ K (.tuple #[]) w32) (∃ p33 : Addr, (p23 : Option Addr) = some p33 ∧ May w27 (p33.add 4) ∧ LetW (w27.setCell (p33.add 4) (.int .i64 3)) fun w34 => ∃ p35 : Addr, (p23 : Option Addr) = some p35 ∧ May w34 (p35.add 5) ∧ LetW (w34.setCell (p35.add 5) (.int .i64 a2)) fun w36 => ∃ p37 : Addr, (p23 : Option Addr) = some p37 ∧ May w36 (p37.add 6) ∧ LetW (w36.setCell (p37.add 6) (.int .i64 0)) fun w38 => ∃ p39 : Addr, (p23 : Option Addr) = some p39 ∧ May w38 (p39.add 7) ∧ LetW (w38.setCell (p39.add 7) (.int .i64 0)) fun w40 => ∃ p41 : Addr, (p23 : Option Addr) = some p41 ∧ May w40 (p41.add 8) ∧ LetW (w40.setCell (p41.add 8) (.int .i64 0)) fun w42 => ∃ p43 : Addr, (p23 : Option Addr) = some p43 ∧ May w42 (p43.add 9) ∧ LetW (w42.setCell (p43.add 9) (.int .i64 0)) fun w44 => ∃ p45 : Addr, (p28 : Option Addr) = some p45 ∧ ∃ n46 : Int, w44.cell? (p45.add 0) = some (.int .i64 n46) ∧ CallW Try.prog 140 #[.pointer a0, .int .i64 n46, .int .i64 14] w44 fun v47 w48 => v47 = .tuple #[] ∧ K (.tuple #[]) w48)))) ((false : Bool), ((0 : Int), ())) w
theorem eq138 (a0 : Option Addr) (a1 : Int) (a2 : Int) (w : World) (K : Value → World → Prop) : denFn Try.prog tt Try.f138 an138 [.pointer a0, .int .i64 a1, .int .i64 a2] w K = W138 a0 a1 a2 w K := by kernel_rfl
theorem ok138 : OkFn Try.prog 138 := ⟨Try.f138, Try.func138, by kernel_rfl, by kernel_rfl⟩
theorem go138 {a0 : Option Addr} {a1 : Int} {a2 : Int} {w : World} {K : Value → World → Prop} (h : W138 a0 a1 a2 w K) : CallW Try.prog 138 #[.pointer a0, .int .i64 a1, .int .i64 a2] w K :=
  .inl ⟨ok138, denFn_sound tt_ok mix Try.func138 (by kernel_rfl) (eq138 a0 a1 a2 w K ▸ h)⟩

/- (*loop.example/g00008/impl.Procs).gone -/
def an139 : Ann := (.seq .leaf (.seq (.seq .leaf (.in_ (.loop 3075 [(4, .slice), (12, .int .i64)] (.seq .leaf (.seq (.cond .leaf .leaf) (.seq (.in_ (.seq .leaf (.seq .leaf (.cond .leaf .leaf)))) .leaf)))))) .leaf))
def W139 (a0 : Option Addr) (a1 : Int) (w : World) (K : Value → World → Prop) : Prop :=
  ∃ p1 : Addr, (a0 : Option Addr) = some p1 ∧ ∃ l2 : Sl, w.cell? (p1.add 0) = some (.slice l2.a l2.len l2.cap) ∧ LoopW [.slice, .int .i64] (fun J5 => fun (l3 : Sl) (n4 : Int) w6 => BIf (decide ((n4 : Int) < ((l2.len : Nat) : Int))) (0 ≤ (n4 : Int) ∧ (n4 : Int) < ((l2.len : Nat) : Int) ∧ ∃ q7 : Addr, (l2.a : Option Addr) = some q7 ∧ ∃ n8 : Int, w6.cell? ((q7.add (Int.toNat n4 * 10)).add 0) = some (.int .i64 n8) ∧ ∃ n9 : Int, w6.cell? ((q7.add (Int.toNat n4 * 10)).add 1) = some (.int .i64 n9) ∧ ∃ n10 : Int, w6.cell? ((q7.add (Int.toNat n4 * 10)).add 2) = some (.int .i64 n10) ∧ ∃ n11 : Int, w6.cell? ((q7.add (Int.toNat n4 * 10)).add 3) = some (.int .i64 n11) ∧ ∃ n12 : Int, w6.cell? ((q7.add (Int.toNat n4 * 10)).add 4) = some (.int .i64 n12) ∧ ∃ n13 : Int, w6.cell? ((q7.add (Int.toNat n4 * 10)).add 5) = some (.int .i64 n13) ∧ ∃ n14 : Int, w6.cell? ((q7.add (Int.toNat n4 * 10)).add 6) = some (.int .i64 n14) ∧ ∃ n15 : Int, w6.cell? ((q7.add (Int.toNat n4 * 10)).add 7) = some (.int .i64 n15) ∧ ∃ n16 : Int, w6.cell? ((q7.add (Int.toNat n4 * 10)).add 8) = some (.int .i64 n16) ∧ ∃ n17 : Int, w6.cell? ((q7.add (Int.toNat n4 * 10)).add 9) = some (.int .i64 n17) ∧ LetW (w6.alloc (.cells #[.int .i64 0, .int .i64 0, .int .i64 0, .int .i64 0, .int .i64 0, .int .i64 0, .int .i64 0, .int .i64 0, .int .i64 0, .int .i64 0] 100)) fun w18 => MayN w18 ⟨w6.heap.size, 0, none⟩ 10 ∧ LetW (puts w18 ⟨w6.heap.size, 0, none⟩ 0 [.int .i64 n8, .int .i64 n9, .int .i64 n10, .int .i64 n11, .int .i64 n12, .int .i64 n13, .int .i64 n14, .int .i64 n15, .int .i64 n16, .int .i64 n17]) fun w19 => ∃ n20 : Int, w19.cell? ⟨w6.heap.size, 0, none⟩ = some (.int .i64 n20) ∧ BIf ((n20 : Int) != a1) (∃ n21 : Int, w19.cell? ⟨w6.heap.size, 0, none⟩ = some (.int .i64 n21) ∧ ∃ n22 : Int, w19.cell? ⟨w6.heap.size, 1, none⟩ = some (.int .i64 n22) ∧ ∃ n23 : Int, w19.cell? ⟨w6.heap.size, 2, none⟩ = some (.int .i64 n23) ∧ ∃ n24 : Int, w19.cell? ⟨w6.heap.size, 3, none⟩ = some (.int .i64 n24) ∧ ∃ n25 : Int, w19.cell? ⟨w6.heap.size, 4, none⟩ = some (.int .i64 n25) ∧ ∃ n26 : Int, w19.cell? ⟨w6.heap.size, 5, none⟩ = some (.int .i64 n26) ∧ ∃ n27 : Int, w19.cell? ⟨w6.heap.size, 6, none⟩ = some (.int .i64 n27) ∧ ∃ n28 : Int, w19.cell? ⟨w6.heap.size, 7, none⟩ = some (.int .i64 n28) ∧ ∃ n29 : Int, w19.cell? ⟨w6.heap.size, 8, none⟩ = some (.int .i64 n29) ∧ ∃ n30 : Int, w19.cell? ⟨w6.heap.size, 9, none⟩ = some (.int .i64 n30) ∧ LetW (w19.alloc (.cells #[.int .i64 n21, .int .i64 n22, .int .i64 n23, .int .i64 n24, .int .i64 n25, .int .i64 n26, .int .i64 n27, .int .i64 n28, .int .i64 n29, .int .i64 n30] 100)) fun w31 => AppendW 100 ti100 l3 ⟨some ⟨w19.heap.size, 0, none⟩, 1, 1⟩ w31 fun l32 w33 => J5 l32 (IntKind.wrap .i64 (n4 + 1)) w33) (J5 l3 (IntKind.wrap .i64 (n4 + 1)) w19)) (∃ p34 : Addr, (a0 : Option Addr) = some p34 ∧ May w6 (p34.add 0) ∧ LetW (w6.setCell (p34.add 0) (.slice l3.a l3.len l3.cap)) fun w35 => K (.tuple #[]) w35)) ((⟨none, 0, 0⟩ : Sl), ((0 : Int), ())) w
theorem eq139 (a0 : Option Addr) (a1 : Int) (w : World) (K : Value → World → Prop) : denFn Try.prog tt Try.f139 an139 [.pointer a0, .int .i64 a1] w K = W139 a0 a1 w K := by kernel_rfl
theorem ok139 : OkFn Try.prog 139 := ⟨Try.f139, Try.func139, by kernel_rfl, by kernel_rfl⟩
theorem go139 {a0 : Option Addr} {a1 : Int} {w : World} {K : Value → World → Prop} (h : W139 a0 a1 w K) : CallW Try.prog 139 #[.pointer a0, .int .i64 a1] w K :=
  .inl ⟨ok139, denFn_sound tt_ok mix Try.func139 (by kernel_rfl) (eq139 a0 a1 w K ▸ h)⟩

/- (*loop.example/g00008/impl.Procs).send -/
def an140 : Ann := (.seq .leaf (.seq (.seq (.reg [(3, none), (6, some (68, [(18, .bool)]))]) (.cond .leaf .leaf)) (.join 68 [] (.seq .leaf (.in_ (.seq .leaf (.cond (.seq .leaf .leaf) (.seq .leaf (.cond .leaf .leaf)))))) (.seq .leaf (.cond (.draw [0, 1, 3, 7, 0, 16, 63, 127, 255, 511] [0, 1, 2, 3, 4, 5, 6, 7, 8, 9]) .leaf)))))
def W140 (a0 : Option Addr) (a1 : Int) (a2 : Int) (w : World) (K : Value → World → Prop) : Prop :=
  CallW Try.prog 104 #[.pointer a0, .int .i64 a1] w fun v1 w2 => ∃ p3 : Option Addr, v1 = .pointer p3 ∧ JoinW [.bool] (fun J5 => BIf (Option.isNone p3) (J5 true w2) (∃ p25 : Addr, (p3 : Option Addr) = some p25 ∧ ∃ n26 : Int, w2.cell? (p25.add 4) = some (.int .i64 n26) ∧ J5 ((n26 : Int) == 3) w2)) (fun (b4 : Bool) w6 => BIf b4 (K (.tuple #[]) w6) (JoinW [] (fun J7 => BIf ((a2 : Int) == 13) (∃ p15 : Addr, (p3 : Option Addr) = some p15 ∧ May w6 (p15.add 4) ∧ LetW (w6.setCell (p15.add 4) (.int .i64 1)) fun w16 => ∃ p17 : Addr, (p3 : Option Addr) = some p17 ∧ ∃ n18 : Int, w16.cell? (p17.add 6) = some (.int .i64 n18) ∧ ∃ p19 : Addr, (p3 : Option Addr) = some p19 ∧ May w16 (p19.add 6) ∧ LetW (w16.setCell (p19.add 6) (.int .i64 (andNotI .i64 n18 4096))) fun w20 => J7 w20) (BIf ((a2 : Int) == 12) (∃ p21 : Addr, (p3 : Option Addr) = some p21 ∧ ∃ n22 : Int, w6.cell? (p21.add 6) = some (.int .i64 n22) ∧ ∃ p23 : Addr, (p3 : Option Addr) = some p23 ∧ May w6 (p23.add 6) ∧ LetW (w6.setCell (p23.add 6) (.int .i64 (andNotI .i64 n22 8192))) fun w24 => J7 w24) (J7 w6))) (fun w8 => ∃ p9 : Addr, (p3 : Option Addr) = some p9 ∧ ∃ n10 : Int, w8.cell? (p9.add 8) = some (.int .i64 n10) ∧ 0 ≤ (a2 : Int) ∧ BIf ((andI .i64 (shrI .i64 n10 a2) 1 : Int) == 0) (∃ p11 : Addr, (p3 : Option Addr) = some p11 ∧ ∃ n12 : Int, w8.drew.cell? (p11.add 6) = some (.int .i64 n12) ∧ 0 ≤ (a2 : Int) ∧ ∃ p13 : Addr, (p3 : Option Addr) = some p13 ∧ May w8.drew (p13.add 6) ∧ LetW (w8.drew.setCell (p13.add 6) (.int .i64 (orI .i64 n12 (shlI .i64 1 a2)))) fun w14 => K (.tuple #[]) w14) (K (.tuple #[]) w8))))
theorem eq140 (a0 : Option Addr) (a1 : Int) (a2 : Int) (w : World) (K : Value → World → Prop) : denFn Try.prog tt Try.f140 an140 [.pointer a0, .int .i64 a1, .int .i64 a2] w K = W140 a0 a1 a2 w K := by kernel_rfl
theorem ok140 : OkFn Try.prog 140 := ⟨Try.f140, Try.func140, by kernel_rfl, by kernel_rfl⟩
theorem go140 {a0 : Option Addr} {a1 : Int} {a2 : Int} {w : World} {K : Value → World → Prop} (h : W140 a0 a1 a2 w K) : CallW Try.prog 140 #[.pointer a0, .int .i64 a1, .int .i64 a2] w K :=
  .inl ⟨ok140, denFn_sound tt_ok mix Try.func140 (by kernel_rfl) (eq140 a0 a1 a2 w K ▸ h)⟩

/- loop.example/g00008/spec.l16Soft -/
def an142 : Ann := (.seq .leaf (.seq (.reg [(3, none), (4, some (1, [(9, .bool)])), (1, none), (4, some (0, [(14, .bool)])), (1, none)]) .leaf))
def W142 (a0 : Int) (w : World) (K : Value → World → Prop) : Prop :=
  CallW Try.prog 130 #[.int .i64 a0] w fun v1 w2 => ∃ b3 : Bool, v1 = .bool b3 ∧ JoinW [.bool] (fun J5 => BIf b3 (CallW Try.prog 143 #[.int .i64 a0, .int .i64 9] w2 fun v13 w14 => ∃ b15 : Bool, v13 = .bool b15 ∧ J5 (!b15) w14) (J5 false w2)) (fun (b4 : Bool) w6 => JoinW [.bool] (fun J8 => BIf b4 (CallW Try.prog 143 #[.int .i64 a0, .int .i64 12] w6 fun v10 w11 => ∃ b12 : Bool, v10 = .bool b12 ∧ J8 (!b12) w11) (J8 false w6)) (fun (b7 : Bool) w9 => K (.bool b7) w9))
theorem eq142 (a0 : Int) (w : World) (K : Value → World → Prop) : denFn Try.prog tt Try.f142 an142 [.int .i64 a0] w K = W142 a0 w K := by kernel_rfl
theorem ok142 : OkFn Try.prog 142 := ⟨Try.f142, Try.func142, by kernel_rfl, by kernel_rfl⟩
theorem go142 {a0 : Int} {w : World} {K : Value → World → Prop} (h : W142 a0 w K) : CallW Try.prog 142 #[.int .i64 a0] w K :=
  .inl ⟨ok142, denFn_sound tt_ok mix Try.func142 (by kernel_rfl) (eq142 a0 w K ▸ h)⟩

/- loop.example/g00008/spec.l16Has -/
def an143 : Ann := (.seq .leaf (.seq .leaf .leaf))
def W143 (a0 : Int) (a1 : Int) (w : World) (K : Value → World → Prop) : Prop :=
  CallW Try.prog 153 #[.int .i64 a1] w fun v1 w2 => ∃ n3 : Int, v1 = .int .i64 n3 ∧ (n3 : Int) ≠ 0 ∧ (2 : Int) ≠ 0 ∧ K (.bool ((Int.tmod (IntKind.wrap .i64 (Int.tdiv a0 n3)) 2 : Int) == 1)) w2
theorem eq143 (a0 : Int) (a1 : Int) (w : World) (K : Value → World → Prop) : denFn Try.prog tt Try.f143 an143 [.int .i64 a0, .int .i64 a1] w K = W143 a0 a1 w K := by kernel_rfl
theorem ok143 : OkFn Try.prog 143 := ⟨Try.f143, Try.func143, by kernel_rfl, by kernel_rfl⟩
theorem go143 {a0 : Int} {a1 : Int} {w : World} {K : Value → World → Prop} (h : W143 a0 a1 w K) : CallW Try.prog 143 #[.int .i64 a0, .int .i64 a1] w K :=
  .inl ⟨ok143, denFn_sound tt_ok mix Try.func143 (by kernel_rfl) (eq143 a0 a1 w K ▸ h)⟩

/- loop.example/g00008/spec.l16Spoil -/
def an144 : Ann := (.seq .leaf (.seq (.draw [0, 1, 0, 0, 8, 24, 60, 127, 255] [0, 1, 2, 3, 4, 5, 6, 7, 8]) (.seq .leaf (.seq .leaf (.in_ (.seq .leaf (.cond .leaf (.seq .leaf (.cond .leaf (.seq .leaf (.cond .leaf (.seq .leaf (.cond .leaf (.seq .leaf (.cond .leaf (.seq .leaf (.cond .leaf (.seq .leaf (.cond .leaf (.seq .leaf (.cond .leaf (.seq .leaf (.cond .leaf (.seq .leaf (.cond .leaf .leaf)))))))))))))))))))))))))
def W144 (a0 : Option Addr) (a1_0 : Sl) (w : World) (K : Value → World → Prop) : Prop :=
  LetW (w.alloc (.cells #[.slice a1_0.a a1_0.len a1_0.cap] 84)) fun w1 => ∃ l2 : Sl, w1.drew.cell? ⟨w.heap.size, 0, none⟩ = some (.slice l2.a l2.len l2.cap) ∧ ∃ l3 : Sl, w1.drew.cell? ⟨w.heap.size, 0, none⟩ = some (.slice l3.a l3.len l3.cap) ∧ CallW Try.prog 77 #[.pointer a0, .int .i64 ((l3.len : Nat) : Int)] w1.drew fun v4 w5 => ∃ n6 : Int, v4 = .int .i64 n6 ∧ (∃ l7 : Sl, w5.cell? ⟨w.heap.size, 0, none⟩ = some (.slice l7.a l7.len l7.cap) ∧ (.slice l7.a l7.len l7.cap : Value) = (.slice l2.a l2.len l2.cap : Value)) ∧ 0 ≤ (n6 : Int) ∧ (n6 : Int) < ((l2.len : Nat) : Int) ∧ ∃ q8 : Addr, (l2.a : Option Addr) = some q8 ∧ LetW (w5.alloc (.cells #[.int .i64 1, .int .i64 (-1), .int .i64 256, .int .i64 32] 2)) fun w9 => CallW Try.prog 77 #[.pointer a0, .int .i64 4] w9 fun v10 w11 => ∃ n12 : Int, v10 = .int .i64 n12 ∧ 0 ≤ (n12 : Int) ∧ (n12 : Int) < ((4 : Nat) : Int) ∧ ∃ q13 : Addr, (some ⟨w5.heap.size, 0, none⟩ : Option Addr) = some q13 ∧ ∃ n14 : Int, w11.cell? (q13.add (Int.toNat n12 * 1)) = some (.int .i64 n14) ∧ CallW Try.prog 77 #[.pointer a0, .int .i64 10] w11 fun v15 w16 => ∃ n17 : Int, v15 = .int .i64 n17 ∧ BIf ((n17 : Int) == 0) (∃ p18 : Addr, (some (q8.add (Int.toNat n6 * 10)) : Option Addr) = some p18 ∧ ∃ n19 : Int, w16.cell? (p18.add 0) = some (.int .i64 n19) ∧ ∃ p20 : Addr, (some (q8.add (Int.toNat n6 * 10)) : Option Addr) = some p20 ∧ May w16 (p20.add 0) ∧ LetW (w16.setCell (p20.add 0) (.int .i64 (IntKind.wrap .i64 (n19 + n14)))) fun w21 => K (.tuple #[]) w21) (BIf ((n17 : Int) == 1) (CallW Try.prog 77 #[.pointer a0, .int .i64 8] w16 fun v22 w23 => ∃ n24 : Int, v22 = .int .i64 n24 ∧ ∃ p25 : Addr, (some (q8.add (Int.toNat n6 * 10)) : Option Addr) = some p25 ∧ May w23 (p25.add 1) ∧ LetW (w23.setCell (p25.add 1) (.int .i64 n24)) fun w26 => K (.tuple #[]) w26) (BIf ((n17 : Int) == 2) (∃ p27 : Addr, (some (q8.add (Int.toNat n6 * 10)) : Option Addr) = some p27 ∧ ∃ n28 : Int, w16.cell? (p27.add 2) = some (.int .i64 n28) ∧ ∃ p29 : Addr, (some (q8.add (Int.toNat n6 * 10)) : Option Addr) = some p29 ∧ May w16 (p29.add 2) ∧ LetW (w16.setCell (p29.add 2) (.int .i64 (IntKind.wrap .i64 (n28 + n14)))) fun w30 => K (.tuple #[]) w30) (BIf ((n17 : Int) == 3) (∃ p31 : Addr, (some (q8.add (Int.toNat n6 * 10)) : Option Addr) = some p31 ∧ ∃ n32 : Int, w16.cell? (p31.add 3) = some (.int .i64 n32) ∧ ∃ p33 : Addr, (some (q8.add (Int.toNat n6 * 10)) : Option Addr) = some p33 ∧ May w16 (p33.add 3) ∧ LetW (w16.setCell (p33.add 3) (.int .i64 (IntKind.wrap .i64 (n32 - n14)))) fun w34 => K (.tuple #[]) w34) (BIf ((n17 : Int) == 4) (∃ p35 : Addr, (some (q8.add (Int.toNat n6 * 10)) : Option Addr) = some p35 ∧ ∃ n36 : Int, w16.cell? (p35.add 4) = some (.int .i64 n36) ∧ ∃ p37 : Addr, (some (q8.add (Int.toNat n6 * 10)) : Option Addr) = some p37 ∧ May w16 (p37.add 4) ∧ LetW (w16.setCell (p37.add 4) (.int .i64 (IntKind.wrap .i64 (n36 + n14)))) fun w38 => K (.tuple #[]) w38) (BIf ((n17 : Int) == 5) (∃ p39 : Addr, (some (q8.add (Int.toNat n6 * 10)) : Option Addr) = some p39 ∧ ∃ n40 : Int, w16.cell? (p39.add 5) = some (.int .i64 n40) ∧ ∃ p41 : Addr, (some (q8.add (Int.toNat n6 * 10)) : Option Addr) = some p41 ∧ May w16 (p41.add 5) ∧ LetW (w16.setCell (p41.add 5) (.int .i64 (IntKind.wrap .i64 (n40 + n14)))) fun w42 => K (.tuple #[]) w42) (BIf ((n17 : Int) == 6) (CallW Try.prog 146 #[.pointer a0] w16 fun v43 w44 => ∃ n45 : Int, v43 = .int .i64 n45 ∧ ∃ p46 : Addr, (some (q8.add (Int.toNat n6 * 10)) : Option Addr) = some p46 ∧ May w44 (p46.add 6) ∧ LetW (w44.setCell (p46.add 6) (.int .i64 n45)) fun w47 => K (.tuple #[]) w47) (BIf ((n17 : Int) == 7) (CallW Try.prog 146 #[.pointer a0] w16 fun v48 w49 => ∃ n50 : Int, v48 = .int .i64 n50 ∧ ∃ p51 : Addr, (some (q8.add (Int.toNat n6 * 10)) : Option Addr) = some p51 ∧ May w49 (p51.add 7) ∧ LetW (w49.setCell (p51.add 7) (.int .i64 n50)) fun w52 => K (.tuple #[]) w52) (BIf ((n17 : Int) == 8) (CallW Try.prog 146 #[.pointer a0] w16 fun v53 w54 => ∃ n55 : Int, v53 = .int .i64 n55 ∧ ∃ p56 : Addr, (some (q8.add (Int.toNat n6 * 10)) : Option Addr) = some p56 ∧ May w54 (p56.add 8) ∧ LetW (w54.setCell (p56.add 8) (.int .i64 n55)) fun w57 => K (.tuple #[]) w57) (BIf ((n17 : Int) == 9) (CallW Try.prog 146 #[.pointer a0] w16 fun v58 w59 => ∃ n60 : Int, v58 = .int .i64 n60 ∧ ∃ p61 : Addr, (some (q8.add (Int.toNat n6 * 10)) : Option Addr) = some p61 ∧ May w59 (p61.add 9) ∧ LetW (w59.setCell (p61.add 9) (.int .i64 n60)) fun w62 => K (.tuple #[]) w62) (K (.tuple #[]) w16))))))))))
theorem eq144 (a0 : Option Addr) (a1_0 : Sl) (w : World) (K : Value → World → Prop) : denFn Try.prog tt Try.f144 an144 [.pointer a0, .agg #[.slice a1_0.a a1_0.len a1_0.cap]] w K = W144 a0 a1_0 w K := by kernel_rfl
theorem ok144 : OkFn Try.prog 144 := ⟨Try.f144, Try.func144, by kernel_rfl, by kernel_rfl⟩
theorem go144 {a0 : Option Addr} {a1_0 : Sl} {w : World} {K : Value → World → Prop} (h : W144 a0 a1_0 w K) : CallW Try.prog 144 #[.pointer a0, .agg #[.slice a1_0.a a1_0.len a1_0.cap]] w K :=
  .inl ⟨ok144, denFn_sound tt_ok mix Try.func144 (by kernel_rfl) (eq144 a0 a1_0 w K ▸ h)⟩

/- loop.example/g00008/spec.l16DrawSig -/
def an145 : Ann := (.seq .leaf (.seq .leaf (.seq (.seq .leaf (.cond .leaf .leaf)) (.seq .leaf .leaf))))
def W145 (a0 : Option Addr) (w : World) (K : Value → World → Prop) : Prop :=
  LetW (w.alloc (.cells #[.int .i64 9, .int .i64 12, .int .i64 13, .int .i64 14, .int .i64 1, .int .i64 2, .int .i64 15, .int .i64 3] 2)) fun w1 => CallW Try.prog 77 #[.pointer a0, .int .i64 8] w1 fun v2 w3 => ∃ n4 : Int, v2 = .int .i64 n4 ∧ 0 ≤ (n4 : Int) ∧ (n4 : Int) < ((8 : Nat) : Int) ∧ ∃ q5 : Addr, (some ⟨w.heap.size, 0, none⟩ : Option Addr) = some q5 ∧ ∃ n6 : Int, w3.cell? (q5.add (Int.toNat n4 * 1)) = some (.int .i64 n6) ∧ CallW Try.prog 78 #[.pointer a0, .int .i64 30] w3 fun v7 w8 => ∃ b9 : Bool, v7 = .bool b9 ∧ BIf b9 (LetW (w8.alloc (.cells #[.int .i64 0, .int .i64 (-1), .int .i64 16] 2)) fun w10 => CallW Try.prog 77 #[.pointer a0, .int .i64 3] w10 fun v11 w12 => ∃ n13 : Int, v11 = .int .i64 n13 ∧ 0 ≤ (n13 : Int) ∧ (n13 : Int) < ((3 : Nat) : Int) ∧ ∃ q14 : Addr, (some ⟨w8.heap.size, 0, none⟩ : Option Addr) = some q14 ∧ ∃ n15 : Int, w12.cell? (q14.add (Int.toNat n13 * 1)) = some (.int .i64 n15) ∧ K (.int .i64 n15) w12) (K (.int .i64 n6) w8)
theorem eq145 (a0 : Option Addr) (w : World) (K : Value → World → Prop) : denFn Try.prog tt Try.f145 an145 [.pointer a0] w K = W145 a0 w K := by kernel_rfl
theorem ok145 : OkFn Try.prog 145 := ⟨Try.f145, Try.func145, by kernel_rfl, by kernel_rfl⟩
theorem go145 {a0 : Option Addr} {w : World} {K : Value → World → Prop} (h : W145 a0 w K) : CallW Try.prog 145 #[.pointer a0] w K :=
  .inl ⟨ok145, denFn_sound tt_ok mix Try.func145 (by kernel_rfl) (eq145 a0 w K ▸ h)⟩

/- loop.example/g00008/spec.l16DrawSet -/
def an146 : Ann := (.seq .leaf (.seq .leaf (.join 1 [(3, .int .i64)] (.seq .leaf (.cond .leaf .leaf)) (.join 1 [(3, .int .i64)] (.seq .leaf (.cond .leaf .leaf)) (.seq (.seq .leaf (.cond .leaf .leaf)) (.seq .leaf .leaf))))))
def W146 (a0 : Option Addr) (w : World) (K : Value → World → Prop) : Prop :=
  CallW Try.prog 77 #[.pointer a0, .int .i64 256] w fun v1 w2 => ∃ n3 : Int, v1 = .int .i64 n3 ∧ CallW Try.prog 77 #[.pointer a0, .int .i64 256] w2 fun v4 w5 => ∃ n6 : Int, v4 = .int .i64 n6 ∧ JoinW [.int .i64] (fun J8 => CallW Try.prog 78 #[.pointer a0, .int .i64 2] w5 fun v25 w26 => ∃ b27 : Bool, v25 = .bool b27 ∧ BIf b27 (CallW Try.prog 77 #[.pointer a0, .int .i64 15] w26 fun v28 w29 => ∃ n30 : Int, v28 = .int .i64 n30 ∧ CallW Try.prog 153 #[.int .i64 (IntKind.wrap .i64 (1 + n30))] w29 fun v31 w32 => ∃ n33 : Int, v31 = .int .i64 n33 ∧ J8 n33 w32) (J8 (IntKind.wrap .i64 ((IntKind.wrap .i64 (n3 * 256)) + n6)) w26)) (fun (n7 : Int) w9 => JoinW [.int .i64] (fun J11 => CallW Try.prog 78 #[.pointer a0, .int .i64 20] w9 fun v22 w23 => ∃ b24 : Bool, v22 = .bool b24 ∧ BIf (!b24) ((2 : Int) ≠ 0 ∧ J11 (IntKind.wrap .i64 ((IntKind.wrap .i64 (Int.tdiv n7 2)) * 2)) w23) (J11 n7 w23)) (fun (n10 : Int) w12 => CallW Try.prog 78 #[.pointer a0, .int .i64 40] w12 fun v13 w14 => ∃ b15 : Bool, v13 = .bool b15 ∧ BIf b15 (LetW (w14.alloc (.cells #[.int .i64 (-2), .int .i64 65536, .int .i64 0, .int .i64 4611686018427387904] 2)) fun w16 => CallW Try.prog 77 #[.pointer a0, .int .i64 4] w16 fun v17 w18 => ∃ n19 : Int, v17 = .int .i64 n19 ∧ 0 ≤ (n19 : Int) ∧ (n19 : Int) < ((4 : Nat) : Int) ∧ ∃ q20 : Addr, (some ⟨w14.heap.size, 0, none⟩ : Option Addr) = some q20 ∧ ∃ n21 : Int, w18.cell? (q20.add (Int.toNat n19 * 1)) = some (.int .i64 n21) ∧ K (.int .i64 n21) w18) (K (.int .i64 n10) w14)))
theorem eq146 (a0 : Option Addr) (w : World) (K : Value → World → Prop) : denFn Try.prog tt Try.f146 an146 [.pointer a0] w K = W146 a0 w K := by kernel_rfl
theorem ok146 : OkFn Try.prog 146 := ⟨Try.f146, Try.func146, by kernel_rfl, by kernel_rfl⟩
theorem go146 {a0 : Option Addr} {w : World} {K : Value → World → Prop} (h : W146 a0 w K) : CallW Try.prog 146 #[.pointer a0] w K :=
  .inl ⟨ok146, denFn_sound tt_ok mix Try.func146 (by kernel_rfl) (eq146 a0 w K ▸ h)⟩

/- loop.example/g00008/spec.l16Send -/
def an151 : Ann := (.seq .leaf (.seq .leaf (.seq (.seq .leaf (.cond .leaf .leaf)) (.join 78 [] (.seq .leaf (.cond (.seq .leaf .leaf) .leaf)) (.join 78 [] (.seq .leaf (.cond .leaf .leaf)) (.join 74 [] (.seq .leaf (.cond .leaf .leaf)) .leaf))))))
def W151 (a0_0 : Sl) (a1 : Int) (a2 : Int) (w : World) (K : Value → World → Prop) : Prop :=
  LetW (w.alloc (.cells #[.slice a0_0.a a0_0.len a0_0.cap] 84)) fun w1 => ∃ l2 : Sl, w1.cell? ⟨w.heap.size, 0, none⟩ = some (.slice l2.a l2.len l2.cap) ∧ 0 ≤ (a1 : Int) ∧ (a1 : Int) < ((l2.len : Nat) : Int) ∧ ∃ q3 : Addr, (l2.a : Option Addr) = some q3 ∧ ∃ n4 : Int, w1.cell? ((q3.add (Int.toNat a1 * 10)).add 0) = some (.int .i64 n4) ∧ ∃ n5 : Int, w1.cell? ((q3.add (Int.toNat a1 * 10)).add 1) = some (.int .i64 n5) ∧ ∃ n6 : Int, w1.cell? ((q3.add (Int.toNat a1 * 10)).add 2) = some (.int .i64 n6) ∧ ∃ n7 : Int, w1.cell? ((q3.add (Int.toNat a1 * 10)).add 3) = some (.int .i64 n7) ∧ ∃ n8 : Int, w1.cell? ((q3.add (Int.toNat a1 * 10)).add 4) = some (.int .i64 n8) ∧ ∃ n9 : Int, w1.cell? ((q3.add (Int.toNat a1 * 10)).add 5) = some (.int .i64 n9) ∧ ∃ n10 : Int, w1.cell? ((q3.add (Int.toNat a1 * 10)).add 6) = some (.int .i64 n10) ∧ ∃ n11 : Int, w1.cell? ((q3.add (Int.toNat a1 * 10)).add 7) = some (.int .i64 n11) ∧ ∃ n12 : Int, w1.cell? ((q3.add (Int.toNat a1 * 10)).add 8) = some (.int .i64 n12) ∧ ∃ n13 : Int, w1.cell? ((q3.add (Int.toNat a1 * 10)).add 9) = some (.int .i64 n13) ∧ LetW (w1.alloc (.cells #[.int .i64 0, .int .i64 0, .int .i64 0, .int .i64 0, .int .i64 0, .int .i64 0, .int .i64 0, .int .i64 0, .int .i64 0, .int .i64 0] 100)) fun w14 => MayN w14 ⟨w1.heap.size, 0, none⟩ 10 ∧ LetW (puts w14 ⟨w1.heap.size, 0, none⟩ 0 [.int .i64 n4, .int .i64 n5, .int .i64 n6, .int .i64 n7, .int .i64 n8, .int .i64 n9, .int .i64 n10, .int .i64 n11, .int .i64 n12, .int .i64 n13]) fun w15 => ∃ n16 : Int, w15.cell? ⟨w1.heap.size, 4, none⟩ = some (.int .i64 n16) ∧ BIf ((n16 : Int) == 3) (K (.tuple #[]) w15) (JoinW [] (fun J17 => BIf ((a2 : Int) == 13) (May w15 ⟨w1.heap.size, 4, none⟩ ∧ LetW (w15.setCell ⟨w1.heap.size, 4, none⟩ (.int .i64 1)) fun w50 => ∃ n51 : Int, w50.cell? ⟨w1.heap.size, 6, none⟩ = some (.int .i64 n51) ∧ CallW Try.prog 131 #[.int .i64 n51, .int .i64 12] w50 fun v52 w53 => ∃ n54 : Int, v52 = .int .i64 n54 ∧ May w53 ⟨w1.heap.size, 6, none⟩ ∧ LetW (w53.setCell ⟨w1.heap.size, 6, none⟩ (.int .i64 n54)) fun w55 => J17 w55) (J17 w15)) (fun w18 => JoinW [] (fun J19 => BIf ((a2 : Int) == 12) (∃ n45 : Int, w18.cell? ⟨w1.heap.size, 6, none⟩ = some (.int .i64 n45) ∧ CallW Try.prog 131 #[.int .i64 n45, .int .i64 13] w18 fun v46 w47 => ∃ n48 : Int, v46 = .int .i64 n48 ∧ May w47 ⟨w1.heap.size, 6, none⟩ ∧ LetW (w47.setCell ⟨w1.heap.size, 6, none⟩ (.int .i64 n48)) fun w49 => J19 w49) (J19 w18)) (fun w20 => JoinW [] (fun J21 => ∃ n36 : Int, w20.cell? ⟨w1.heap.size, 8, none⟩ = some (.int .i64 n36) ∧ CallW Try.prog 143 #[.int .i64 n36, .int .i64 a2] w20 fun v37 w38 => ∃ b39 : Bool, v37 = .bool b39 ∧ BIf (!b39) (∃ n40 : Int, w38.cell? ⟨w1.heap.size, 6, none⟩ = some (.int .i64 n40) ∧ CallW Try.prog 154 #[.int .i64 n40, .int .i64 a2] w38 fun v41 w42 => ∃ n43 : Int, v41 = .int .i64 n43 ∧ May w42 ⟨w1.heap.size, 6, none⟩ ∧ LetW (w42.setCell ⟨w1.heap.size, 6, none⟩ (.int .i64 n43)) fun w44 => J21 w44) (J21 w38)) (fun w22 => ∃ l23 : Sl, w22.cell? ⟨w.heap.size, 0, none⟩ = some (.slice l23.a l23.len l23.cap) ∧ ∃ n24 : Int, w22.cell? ⟨w1.heap.size, 0, none⟩ = some (.int .i64 n24) ∧ ∃ n25 : Int, w22.cell? ⟨w1.heap.size, 1, none⟩ = some (.int .i64 n25) ∧ ∃ n26 : Int, w22.cell? ⟨w1.heap.size, 2, none⟩ = some (.int .i64 n26) ∧ ∃ n27 : Int, w22.cell? ⟨w1.heap.size, 3, none⟩ = some (.int .i64 n27) ∧ ∃ n28 : Int, w22.cell? ⟨w1.heap.size, 4, none⟩ = some (.int .i64 n28) ∧ ∃ n29 : Int, w22.cell? ⟨w1.heap.size, 5, none⟩ = some (.int .i64 n29) ∧ ∃ n30 : Int, w22.cell? ⟨w1.heap.size, 6, none⟩ = some (.int .i64 n30) ∧ ∃ n31 : Int, w22.cell? ⟨w1.heap.size, 7, none⟩ = some (.int .i64 n31) ∧ ∃ n32 : Int, w22.cell? ⟨w1.heap.size, 8, none⟩ = some (.int .i64 n32) ∧ ∃ n33 : Int, w22.cell? ⟨w1.heap.size, 9, none⟩ = some (.int .i64 n33) ∧ 0 ≤ (a1 : Int) ∧ (a1 : Int) < ((l23.len : Nat) : Int) ∧ ∃ q34 : Addr, (l23.a : Option Addr) = some q34 ∧ MayN w22 (q34.add (Int.toNat a1 * 10)) 10 ∧ LetW (puts w22 (q34.add (Int.toNat a1 * 10)) 0 [.int .i64 n24, .int .i64 n25, .int .i64 n26, .int .i64 n27, .int .i64 n28, .int .i64 n29, .int .i64 n30, .int .i64 n31, .int .i64 n32, .int .i64 n33]) fun w35 => K (.tuple #[]) w35))))
theorem eq151 (a0_0 : Sl) (a1 : Int) (a2 : Int) (w : World) (K : Value → World → Prop) : denFn Try.prog tt Try.f151 an151 [.agg #[.slice a0_0.a a0_0.len a0_0.cap], .int .i64 a1, .int .i64 a2] w K = W151 a0_0 a1 a2 w K := by kernel_rfl
theorem ok151 : OkFn Try.prog 151 := ⟨Try.f151, Try.func151, by kernel_rfl, by kernel_rfl⟩
theorem go151 {a0_0 : Sl} {a1 : Int} {a2 : Int} {w : World} {K : Value → World → Prop} (h : W151 a0_0 a1 a2 w K) : CallW Try.prog 151 #[.agg #[.slice a0_0.a a0_0.len a0_0.cap], .int .i64 a1, .int .i64 a2] w K :=
  .inl ⟨ok151, denFn_sound tt_ok mix Try.func151 (by kernel_rfl) (eq151 a0_0 a1 a2 w K ▸ h)⟩

/- loop.example/g00008/spec.l16Cut -/
def an152 : Ann := (.seq .leaf (.seq (.draw [0, 0, 2, 0, 14, 31, 0, 64, 0, 256, 960, 2047, 4095, 8191] [1, 2, 3, 4, 6, 7, 8, 9, 10, 0, 5, 11, 12, 13]) (.seq .leaf .leaf)))
def W152 (a0_0 : Sl) (a1 : Int) (w : World) (K : Value → World → Prop) : Prop :=
  LetW (w.alloc (.cells #[.slice a0_0.a a0_0.len a0_0.cap] 84)) fun w1 => LetW (w1.alloc (.cells #[.slice none 0 0] 84)) fun w2 => ∃ l3 : Sl, w2.drew.cell? ⟨w.heap.size, 0, none⟩ = some (.slice l3.a l3.len l3.cap) ∧ 0 ≤ (a1 : Int) ∧ (a1 : Int) ≤ ((l3.cap : Nat) : Int) ∧ ∃ l4 : Sl, w2.drew.cell? ⟨w.heap.size, 0, none⟩ = some (.slice l4.a l4.len l4.cap) ∧ 0 ≤ (IntKind.wrap .i64 (a1 + 1) : Int) ∧ (IntKind.wrap .i64 (a1 + 1) : Int) ≤ ((l4.len : Nat) : Int) ∧ LetW (w2.drew.alloc (.cells #[] 100)) fun w5 => (∃ l6 : Sl, w5.cell? ⟨w.heap.size, 0, none⟩ = some (.slice l6.a l6.len l6.cap) ∧ (.slice l6.a l6.len l6.cap : Value) = (.slice l4.a l4.len l4.cap : Value)) ∧ (∃ l7 : Sl, w5.cell? ⟨w.heap.size, 0, none⟩ = some (.slice l7.a l7.len l7.cap) ∧ (.slice l7.a l7.len l7.cap : Value) = (.slice l3.a l3.len l3.cap : Value)) ∧ AppendW 100 ti100 ⟨some ⟨w2.drew.heap.size, 0, none⟩, 0, 0⟩ ⟨cutA l3.a l3.cap (Int.toNat 0) 10, Int.toNat a1 - Int.toNat 0, l3.cap - Int.toNat 0⟩ w5 fun l8 w9 => (∃ l10 : Sl, w9.cell? ⟨w.heap.size, 0, none⟩ = some (.slice l10.a l10.len l10.cap) ∧ (.slice l10.a l10.len l10.cap : Value) = (.slice l4.a l4.len l4.cap : Value)) ∧ AppendW 100 ti100 l8 ⟨cutA l4.a l4.cap (Int.toNat (IntKind.wrap .i64 (a1 + 1))) 10, Int.toNat ((l4.len : Nat) : Int) - Int.toNat (IntKind.wrap .i64 (a1 + 1)), l4.cap - Int.toNat (IntKind.wrap .i64 (a1 + 1))⟩ w9 fun l11 w12 => May w12 ⟨w.heap.size, 0, none⟩ ∧ LetW (w12.setCell ⟨w.heap.size, 0, none⟩ (.slice l11.a l11.len l11.cap)) fun w13 => ∃ l14 : Sl, w13.cell? ⟨w.heap.size, 0, none⟩ = some (.slice l14.a l14.len l14.cap) ∧ May w13 ⟨w1.heap.size, 0, none⟩ ∧ LetW (w13.setCell ⟨w1.heap.size, 0, none⟩ (.slice l14.a l14.len l14.cap)) fun w15 => ∃ l16 : Sl, w15.cell? ⟨w1.heap.size, 0, none⟩ = some (.slice l16.a l16.len l16.cap) ∧ K (.agg #[.slice l16.a l16.len l16.cap]) w15
theorem eq152 (a0_0 : Sl) (a1 : Int) (w : World) (K : Value → World → Prop) : denFn Try.prog tt Try.f152 an152 [.agg #[.slice a0_0.a a0_0.len a0_0.cap], .int .i64 a1] w K = W152 a0_0 a1 w K := by kernel_rfl
theorem ok152 : OkFn Try.prog 152 := ⟨Try.f152, Try.func152, by kernel_rfl, by kernel_rfl⟩
theorem go152 {a0_0 : Sl} {a1 : Int} {w : World} {K : Value → World → Prop} (h : W152 a0_0 a1 w K) : CallW Try.prog 152 #[.agg #[.slice a0_0.a a0_0.len a0_0.cap], .int .i64 a1] w K :=
  .inl ⟨ok152, denFn_sound tt_ok mix Try.func152 (by kernel_rfl) (eq152 a0_0 a1 w K ▸ h)⟩

/- loop.example/g00008/spec.l16Pow -/
def an153 : Ann := (.seq .leaf (.seq .leaf .leaf))
def W153 (a0 : Int) (w : World) (K : Value → World → Prop) : Prop :=
  CallW Try.prog 156 #[.int .i64 a0] w fun v1 w2 => ∃ n3 : Int, v1 = .int .u64 n3 ∧ K (.int .i64 (IntKind.wrap .i64 n3)) w2
theorem eq153 (a0 : Int) (w : World) (K : Value → World → Prop) : denFn Try.prog tt Try.f153 an153 [.int .i64 a0] w K = W153 a0 w K := by kernel_rfl
theorem ok153 : OkFn Try.prog 153 := ⟨Try.f153, Try.func153, by kernel_rfl, by kernel_rfl⟩
theorem go153 {a0 : Int} {w : World} {K : Value → World → Prop} (h : W153 a0 w K) : CallW Try.prog 153 #[.int .i64 a0] w K :=
  .inl ⟨ok153, denFn_sound tt_ok mix Try.func153 (by kernel_rfl) (eq153 a0 w K ▸ h)⟩

/- loop.example/g00008/spec.l16With -/
def an154 : Ann := (.seq .leaf (.seq (.seq .leaf (.cond (.seq .leaf .leaf) .leaf)) (.seq .leaf .leaf)))
def W154 (a0 : Int) (a1 : Int) (w : World) (K : Value → World → Prop) : Prop :=
  CallW Try.prog 143 #[.int .i64 a0, .int .i64 a1] w fun v1 w2 => ∃ b3 : Bool, v1 = .bool b3 ∧ BIf b3 (K (.int .i64 a0) w2) (CallW Try.prog 153 #[.int .i64 a1] w2 fun v4 w5 => ∃ n6 : Int, v4 = .int .i64 n6 ∧ K (.int .i64 (IntKind.wrap .i64 (a0 + n6))) w5)
theorem eq154 (a0 : Int) (a1 : Int) (w : World) (K : Value → World → Prop) : denFn Try.prog tt Try.f154 an154 [.int .i64 a0, .int .i64 a1] w K = W154 a0 a1 w K := by kernel_rfl
theorem ok154 : OkFn Try.prog 154 := ⟨Try.f154, Try.func154, by kernel_rfl, by kernel_rfl⟩
theorem go154 {a0 : Int} {a1 : Int} {w : World} {K : Value → World → Prop} (h : W154 a0 a1 w K) : CallW Try.prog 154 #[.int .i64 a0, .int .i64 a1] w K :=
  .inl ⟨ok154, denFn_sound tt_ok mix Try.func154 (by kernel_rfl) (eq154 a0 a1 w K ▸ h)⟩

/- loop.example/g00008/spec.l1Pow -/
def an156 : Ann := (.seq .leaf (.seq .leaf (.seq (.seq .leaf (.in_ (.loop 1 [(3, .int .u64), (4, .int .i64)] (.seq (.seq .leaf (.cond .leaf .leaf)) (.seq (.in_ .leaf) .leaf))))) (.seq .leaf .leaf))))
def W156 (a0 : Int) (w : World) (K : Value → World → Prop) : Prop :=
  LoopW [.int .u64, .int .i64] (fun J3 => fun (n1 : Int) (n2 : Int) w4 => BIf (decide ((n2 : Int) < a0)) (J3 (IntKind.wrap .u64 (n1 * 2)) (IntKind.wrap .i64 (n2 + 1)) w4) (K (.int .u64 n1) w4)) ((1 : Int), ((0 : Int), ())) w
theorem eq156 (a0 : Int) (w : World) (K : Value → World → Prop) : denFn Try.prog tt Try.f156 an156 [.int .i64 a0] w K = W156 a0 w K := by kernel_rfl
theorem ok156 : OkFn Try.prog 156 := ⟨Try.f156, Try.func156, by kernel_rfl, by kernel_rfl⟩
theorem go156 {a0 : Int} {w : World} {K : Value → World → Prop} (h : W156 a0 w K) : CallW Try.prog 156 #[.int .i64 a0] w K :=
  .inl ⟨ok156, denFn_sound tt_ok mix Try.func156 (by kernel_rfl) (eq156 a0 w K ▸ h)⟩

end Go.Proofs.Yteigefjiifihpaa

/- The types of the laws' parameters, as values of Lean's. Conditions: none. -/
set_option linter.unusedVariables false
set_option maxRecDepth 100000
namespace Go.Proofs.Yteigefjiifihpaa
open Go Go.Den
structure DProc where
  Id : Int
  Parent : Int
  Group : Int
  User : Int
  State : Int
  Status : Int
  Pending : Int
  Mask : Int
  Ignored : Int
  Caught : Int
def DProc.cells (x : DProc) : List Value := [.int .i64 x.Id, .int .i64 x.Parent, .int .i64 x.Group, .int .i64 x.User, .int .i64 x.State, .int .i64 x.Status, .int .i64 x.Pending, .int .i64 x.Mask, .int .i64 x.Ignored, .int .i64 x.Caught]
structure DProcOp where
  Kind : Int
  Id : Int
  To : Int
  N : Int
def DProcOp.cells (x : DProcOp) : List Value := [.int .i64 x.Kind, .int .i64 x.Id, .int .i64 x.To, .int .i64 x.N]
end Go.Proofs.Yteigefjiifihpaa

/- FnExactPick: the state in memory, and the small functions of both sides. Conditions: none. -/
set_option linter.unusedVariables false
set_option linter.unusedSimpArgs false
namespace Go.Proofs.Yteigefjiifihpaa
open Go Go.Den
/-- A thread's, a lock's address, by its place. -/
def ptrAt (a : Option Addr) (z : Nat) (i : Int) : Option Addr := if i < 0 then none else a.map (fun p => p.add (i.toNat * z))
end Go.Proofs.Yteigefjiifihpaa

/- FnExactPick: whom a thread waits for, on the reference's side. Conditions: none. -/
set_option linter.unusedVariables false
set_option linter.unusedSimpArgs false
namespace Go.Proofs.Yteigefjiifihpaa
open Go Go.Den
theorem idxFrom_find {α : Type} (p : α → Bool) : ∀ (l : List α) (k : Nat), (idxFrom p l k = -1 ∧ l.find? p = none) ∨ ∃ i x, idxFrom p l k = ((k + i : Nat) : Int) ∧ l[i]? = some x ∧ l.find? p = some x
  | [], k => .inl ⟨rfl, rfl⟩
  | x :: r, k => by
    unfold idxFrom
    by_cases hp : p x = true
    · rw [if_pos hp]
      exact .inr ⟨0, x, rfl, rfl, by simp [List.find?, hp]⟩
    · rw [if_neg hp]
      have hp : p x = false := by simpa using hp
      rcases idxFrom_find p r (k + 1) with ⟨h1, h2⟩ | ⟨i, y, h1, h2, h3⟩
      · exact .inl ⟨h1, by simp [List.find?, hp, h2]⟩
      · exact .inr ⟨i + 1, y, by rw [h1]; congr 1; omega, by simpa using h2, by simp [List.find?, hp, h3]⟩
end Go.Proofs.Yteigefjiifihpaa

/- FnExactPick: one thread, on the reference's side. Conditions: none. -/
set_option linter.unusedVariables false
set_option linter.unusedSimpArgs false
namespace Go.Proofs.Yteigefjiifihpaa
open Go Go.Den
end Go.Proofs.Yteigefjiifihpaa

/- FnExactPick: a thread's priority, and who is picked, on the reference's side. Conditions: none. -/
set_option linter.unusedVariables false
set_option linter.unusedSimpArgs false
namespace Go.Proofs.Yteigefjiifihpaa
open Go Go.Den
end Go.Proofs.Yteigefjiifihpaa

/- FnExactPick: who is picked, on the reference's side. Conditions: none. -/
set_option linter.unusedVariables false
set_option linter.unusedSimpArgs false
namespace Go.Proofs.Yteigefjiifihpaa
open Go Go.Den
end Go.Proofs.Yteigefjiifihpaa

/- FnExactPick: when a state can be, on the reference's side. Conditions: none. -/
set_option linter.unusedVariables false
set_option linter.unusedSimpArgs false
namespace Go.Proofs.Yteigefjiifihpaa
open Go Go.Den
end Go.Proofs.Yteigefjiifihpaa

/- FnExactPick: Pick, on the reference's side. Conditions: none. -/
set_option linter.unusedVariables false
set_option linter.unusedSimpArgs false
namespace Go.Proofs.Yteigefjiifihpaa
open Go Go.Den
end Go.Proofs.Yteigefjiifihpaa

/- FnExactPick: whom a thread waits for, on the program's side. Conditions: none. -/
set_option linter.unusedVariables false
set_option linter.unusedSimpArgs false
namespace Go.Proofs.Yteigefjiifihpaa
open Go Go.Den
theorem ptr_none {a : Option Addr} {z : Nat} : ptrAt a z (-1) = none := rfl
theorem ptr_some {a : Option Addr} {z : Nat} {p : Addr} (h : a = some p) (i : Nat) : ptrAt a z (i : Int) = some (p.add (i * z)) := by
  unfold ptrAt; rw [if_neg (by omega), h, Int.toNat_natCast]; rfl
end Go.Proofs.Yteigefjiifihpaa

/- FnExactPick, plain law: waiting comes to its end within as many steps as there are threads. Conditions: none. -/
set_option linter.unusedVariables false
set_option linter.unusedSimpArgs false
namespace Go.Proofs.Yteigefjiifihpaa
open Go Go.Den
end Go.Proofs.Yteigefjiifihpaa

/- FnExactPick: when a state can be, on the program's side. Conditions: none. -/
set_option linter.unusedVariables false
set_option linter.unusedSimpArgs false
namespace Go.Proofs.Yteigefjiifihpaa
open Go Go.Den
end Go.Proofs.Yteigefjiifihpaa

/- FnExactPick: the threads of a state that can be, on the program's side. Conditions: none. -/
set_option linter.unusedVariables false
set_option linter.unusedSimpArgs false
namespace Go.Proofs.Yteigefjiifihpaa
open Go Go.Den
end Go.Proofs.Yteigefjiifihpaa

/- FnExactPick: when a state can be, on the program's side: the walk. Conditions: none. -/
set_option linter.unusedVariables false
set_option linter.unusedSimpArgs false
namespace Go.Proofs.Yteigefjiifihpaa
open Go Go.Den
end Go.Proofs.Yteigefjiifihpaa

/- FnExactPick, plain law: a priority is the greatest of one's own and of those that wait. Conditions: none. -/
set_option linter.unusedVariables false
set_option linter.unusedSimpArgs false
namespace Go.Proofs.Yteigefjiifihpaa
open Go Go.Den
end Go.Proofs.Yteigefjiifihpaa

/- Sorted lists with a key, and the plain law of the scheduler: what a state keeps. Conditions: none. -/
set_option linter.unusedVariables false
set_option linter.unusedSimpArgs false
namespace Go.Proofs.Yteigefjiifihpaa
open Go Go.Den
/-! ## Sorted lists -/
section
variable {α : Type} {key : α → Int}
def Srt (key : α → Int) (l : List α) : Prop := l.Pairwise (fun x y => key x < key y)
theorem Srt.uniq : ∀ {l : List α}, Srt key l → ∀ {x y : α}, x ∈ l → y ∈ l → key x = key y → x = y
  | [], _, x, y, hx, _, _ => by cases hx
  | a :: r, h, x, y, hx, hy, he => by
    obtain ⟨h1, h2⟩ := List.pairwise_cons.1 h
    rcases List.mem_cons.1 hx with hx' | hx' <;> rcases List.mem_cons.1 hy with hy' | hy'
    · rw [hx', hy']
    · have := h1 y hy'; rw [hx'] at he; omega
    · have := h1 x hx'; rw [hy'] at he; omega
    · exact Srt.uniq h2 hx' hy' he
theorem Srt.find {l : List α} (h : Srt key l) {x : α} (hx : x ∈ l) : l.find? (fun y => key y == key x) = some x := by
  rcases hf : l.find? (fun y => key y == key x) with _ | y
  · have := List.find?_eq_none.1 hf x hx
    simp at this
  · have h1 := List.find?_some hf
    have h2 := List.mem_of_find?_eq_some hf
    rw [h.uniq h2 hx (by simpa using h1)]
theorem Srt.lt {l : List α} (h : Srt key l) {i j : Nat} {x y : α} (hx : l[i]? = some x) (hy : l[j]? = some y) (hij : i < j) : key x < key y := by
  obtain ⟨hi, rfl⟩ := List.getElem?_eq_some_iff.1 hx
  obtain ⟨hj, rfl⟩ := List.getElem?_eq_some_iff.1 hy
  exact List.pairwise_iff_getElem.1 h i j hi hj hij
theorem Srt.idx {l : List α} (h : Srt key l) {i : Nat} {x : α} (hx : l[i]? = some x) : idxFrom (fun y => key y == key x) l 0 = (i : Int) :=
  idx_at hx (by simp) (fun j y hj hy => by have := h.lt hy hx hj; simp; omega)
/-- One element turned, its key kept. -/
theorem Srt.set {l : List α} (h : Srt key l) {i : Nat} {x y : α} (hx : l[i]? = some x) (hk : key y = key x) : Srt key (l.set i y) := by
  unfold Srt
  rw [List.pairwise_iff_getElem]
  intro a b ha hb hab
  rw [List.length_set] at ha hb
  have hxe := (List.getElem?_eq_some_iff.1 hx).2
  have h0 := List.pairwise_iff_getElem.1 h a b ha hb hab
  rw [List.getElem_set, List.getElem_set]
  split
  · rename_i hia
    subst hia
    rw [if_neg (by omega), hk, ← hxe]
    exact h0
  · split
    · rename_i hib
      subst hib
      rw [hk, ← hxe]
      exact h0
    · exact h0
theorem Srt.mem_set {l : List α} (h : Srt key l) {i : Nat} {x y : α} (hx : l[i]? = some x) (z : α) : z ∈ l.set i y ↔ z = y ∨ (z ∈ l ∧ key z ≠ key x) := by
  have hi := (List.getElem?_eq_some_iff.1 hx).1
  constructor
  · intro hz
    obtain ⟨j, hj⟩ := List.getElem?_of_mem hz
    by_cases hij : i = j
    · subst hij
      rw [List.getElem?_set_self hi] at hj
      cases hj; exact .inl rfl
    · rw [List.getElem?_set_ne hij] at hj
      refine .inr ⟨List.mem_of_getElem? hj, fun he => ?_⟩
      rcases Nat.lt_trichotomy i j with hlt | heq | hgt
      · have := h.lt hx hj hlt; omega
      · exact hij heq
      · have := h.lt hj hx hgt; omega
  · rintro (rfl | ⟨hz, hne⟩)
    · exact List.mem_iff_getElem?.2 ⟨i, List.getElem?_set_self hi⟩
    · obtain ⟨j, hj⟩ := List.getElem?_of_mem hz
      have hij : i ≠ j := by rintro rfl; rw [hx] at hj; cases hj; exact hne rfl
      exact List.mem_iff_getElem?.2 ⟨j, by rw [List.getElem?_set_ne hij]; exact hj⟩
theorem Srt.filter {l : List α} (h : Srt key l) (p : α → Bool) : Srt key (l.filter p) := List.Pairwise.filter p h
/-- What is taken out by its place is taken out by its key. -/
theorem Srt.erase {l : List α} (h : Srt key l) {i : Nat} {x : α} (hx : l[i]? = some x) : l.take i ++ l.drop (i + 1) = l.filter (fun y => key y != key x) := by
  obtain ⟨hi, hv⟩ := List.getElem?_eq_some_iff.1 hx
  have hl : l = l.take i ++ x :: l.drop (i + 1) := by rw [← hv, ← List.drop_eq_getElem_cons hi, List.take_append_drop]
  have h1 : (l.take i).filter (fun y => key y != key x) = l.take i := by
    rw [List.filter_eq_self]
    intro a ha
    obtain ⟨j, hj⟩ := List.getElem?_of_mem ha
    have hji : j < i := by have := (List.getElem?_eq_some_iff.1 hj).1; rw [List.length_take] at this; omega
    rw [List.getElem?_take_of_lt hji] at hj
    have := h.lt hj hx hji
    simp; omega
  have h2 : (l.drop (i + 1)).filter (fun y => key y != key x) = l.drop (i + 1) := by
    rw [List.filter_eq_self]
    intro a ha
    obtain ⟨j, hj⟩ := List.getElem?_of_mem ha
    rw [List.getElem?_drop] at hj
    have := h.lt hx hj (by omega)
    simp; omega
  have h3 := congrArg (List.filter (fun y => key y != key x)) hl
  rw [h3, List.filter_append, List.filter_cons, h1, h2]
  simp
/-- A new element in its place. -/
theorem Srt.ins {l : List α} (h : Srt key l) {i : Nat} {x : α} (h1 : ∀ y, y ∈ l.take i → key y < key x) (h2 : ∀ y, y ∈ l.drop i → key x < key y) : Srt key (l.take i ++ x :: l.drop i) := by
  unfold Srt
  rw [List.pairwise_append]
  refine ⟨List.Pairwise.sublist (List.take_sublist _ _) h, List.pairwise_cons.2 ⟨h2, List.Pairwise.sublist (List.drop_sublist _ _) h⟩, fun a ha b hb => ?_⟩
  rcases List.mem_cons.1 hb with rfl | hb
  · exact h1 a ha
  · have := h1 a ha; have := h2 b hb; omega
theorem mem_ins {l : List α} {i : Nat} {x z : α} : z ∈ l.take i ++ x :: l.drop i ↔ z = x ∨ z ∈ l := by
  conv => rhs; rhs; rw [← List.take_append_drop i l]
  simp only [List.mem_append, List.mem_cons]
  exact ⟨fun h => by rcases h with h | h | h; exact .inr (.inl h); exact .inl h; exact .inr (.inr h), fun h => by rcases h with h | h | h; exact .inr (.inl h); exact .inl h; exact .inr (.inr h)⟩
theorem Srt.nodup {l : List α} (h : Srt key l) : (l.map key).Nodup := by
  rw [List.nodup_iff_pairwise_ne, List.pairwise_map]
  exact h.imp (fun h => by omega)
/-- The keys fill a range from below. -/
theorem Srt.fill {l : List α} (h : Srt key l) (hr : ∀ x, x ∈ l → 0 ≤ key x) : ∀ (i : Nat) (x : α), l[i]? = some x → (i : Int) ≤ key x
  | 0, x, hx => hr x (List.mem_of_getElem? hx)
  | i + 1, x, hx => by
    have hi := (List.getElem?_eq_some_iff.1 hx).1
    have hg : l[i]? = some l[i] := List.getElem?_eq_getElem (by omega)
    have := Srt.fill h hr i _ hg
    have := h.lt hg hx (by omega)
    omega
end
/-! ## What a state keeps -/
theorem filter_lt {α : Type} {p q : α → Bool} : ∀ (l : List α), (∀ x, x ∈ l → p x = true → q x = true) → (∃ x, x ∈ l ∧ p x = false ∧ q x = true) → (l.filter p).length < (l.filter q).length
  | [], _, ⟨x, hx, _⟩ => by cases hx
  | a :: r, h, hex => by
    have hle : (r.filter p).length ≤ (r.filter q).length := by
      clear hex
      induction r with
      | nil => exact Nat.le_refl _
      | cons b r ih =>
        have ih := ih (fun x hx => h x (by rcases List.mem_cons.1 hx with hx | hx <;> simp [hx]))
        have hb := h b (by simp)
        by_cases hp : p b = true
        · rw [List.filter_cons_of_pos hp, List.filter_cons_of_pos (hb hp)]; simp; exact ih
        · rw [List.filter_cons_of_neg hp]
          by_cases hq : q b = true
          · rw [List.filter_cons_of_pos hq]; simp; omega
          · rw [List.filter_cons_of_neg hq]; exact ih
    have ha := h a (by simp)
    by_cases hp : p a = true
    · rw [List.filter_cons_of_pos hp, List.filter_cons_of_pos (ha hp)]
      obtain ⟨x, hx, h1, h2⟩ := hex
      cases hx with
      | head => rw [h1] at hp; cases hp
      | tail _ hx =>
        have := filter_lt r (fun x hx => h x (by simp [hx])) ⟨x, hx, h1, h2⟩
        simp; exact this
    · rw [List.filter_cons_of_neg hp]
      by_cases hq : q a = true
      · rw [List.filter_cons_of_pos hq]; simp; omega
      · obtain ⟨x, hx, h1, h2⟩ := hex
        cases hx with
        | head => exact absurd h2 hq
        | tail _ hx =>
          rw [List.filter_cons_of_neg hq]
          exact filter_lt r (fun x hx => h x (by simp [hx])) ⟨x, hx, h1, h2⟩
end Go.Proofs.Yteigefjiifihpaa

/- The scheduler: what the walks need of a state; a state can be, in two words. Conditions: none. -/
set_option linter.unusedVariables false
set_option linter.unusedSimpArgs false
namespace Go.Proofs.Yteigefjiifihpaa
open Go Go.Den
theorem srt_of {α : Type} {key : α → Int} {l : List α} (h : ∀ i y, l[i]? = some y → ∀ z, 0 < i → l[i - 1]? = some z → key z < key y) : Srt key l := by
  have hh : ∀ n i x y, l[i]? = some x → l[i + n + 1]? = some y → key x < key y := by
    intro n
    induction n with
    | zero => intro i x y hx hy; exact h (i + 0 + 1) y hy x (by omega) hx
    | succ n ih =>
      intro i x y hx hy
      have hl := (List.getElem?_eq_some_iff.1 hy).1
      have hz : l[i + n + 1]? = some l[i + n + 1] := List.getElem?_eq_getElem (by omega)
      have h1 := ih i x _ hx hz
      have h2 := h (i + (n + 1) + 1) y hy _ (by omega) (by rw [show i + (n + 1) + 1 - 1 = i + n + 1 by omega]; exact hz)
      omega
  unfold Srt
  rw [List.pairwise_iff_getElem]
  intro i j hi hj hij
  exact hh (j - i - 1) i _ _ (List.getElem?_eq_getElem hi) (by rw [show i + (j - i - 1) + 1 = j by omega]; exact List.getElem?_eq_getElem hj)
end Go.Proofs.Yteigefjiifihpaa

/- The scheduler, plain law: what an operation does, and that a state stays one that can be. Conditions: none. -/
set_option linter.unusedVariables false
set_option linter.unusedSimpArgs false
namespace Go.Proofs.Yteigefjiifihpaa
open Go Go.Den
/-! ## What an operation does -/
/-! ## A state stays one that can be -/
end Go.Proofs.Yteigefjiifihpaa

/- The scheduler, plain law: a state stays one that can be, through every operation. Conditions: none. -/
set_option linter.unusedVariables false
set_option linter.unusedSimpArgs false
namespace Go.Proofs.Yteigefjiifihpaa
open Go Go.Den
end Go.Proofs.Yteigefjiifihpaa

/- FnExactPick: the measure of the program's priority. Conditions: none. -/
set_option linter.unusedVariables false
set_option linter.unusedSimpArgs false
namespace Go.Proofs.Yteigefjiifihpaa
open Go Go.Den
end Go.Proofs.Yteigefjiifihpaa

/- FnExactPick: a thread's priority, on the program's side. Conditions: none. -/
set_option linter.unusedVariables false
set_option linter.unusedSimpArgs false
namespace Go.Proofs.Yteigefjiifihpaa
open Go Go.Den
end Go.Proofs.Yteigefjiifihpaa

/- FnExactPick: who is picked, on the program's side. Conditions: none. -/
set_option linter.unusedVariables false
set_option linter.unusedSimpArgs false
namespace Go.Proofs.Yteigefjiifihpaa
open Go Go.Den
end Go.Proofs.Yteigefjiifihpaa

/- The scheduler, the reference's side: stand, hand on. Conditions: none. -/
set_option linter.unusedVariables false
set_option linter.unusedSimpArgs false
namespace Go.Proofs.Yteigefjiifihpaa
open Go Go.Den
end Go.Proofs.Yteigefjiifihpaa

/- The scheduler, the reference's side: a lock handed on. Conditions: none. -/
set_option linter.unusedVariables false
set_option linter.unusedSimpArgs false
namespace Go.Proofs.Yteigefjiifihpaa
open Go Go.Den
end Go.Proofs.Yteigefjiifihpaa

/- The scheduler, the reference's side: spawn, tick. Conditions: none. -/
set_option linter.unusedVariables false
set_option linter.unusedSimpArgs false
namespace Go.Proofs.Yteigefjiifihpaa
open Go Go.Den
end Go.Proofs.Yteigefjiifihpaa

/- The scheduler, the reference's side: tick. Conditions: none. -/
set_option linter.unusedVariables false
set_option linter.unusedSimpArgs false
namespace Go.Proofs.Yteigefjiifihpaa
open Go Go.Den
end Go.Proofs.Yteigefjiifihpaa

/- The scheduler, the reference's side: a lock taken; exit. Conditions: none. -/
set_option linter.unusedVariables false
set_option linter.unusedSimpArgs false
namespace Go.Proofs.Yteigefjiifihpaa
open Go Go.Den
/-! ## Exit -/
end Go.Proofs.Yteigefjiifihpaa

/- The scheduler, the reference's side: an operation. Conditions: none. -/
set_option linter.unusedVariables false
set_option linter.unusedSimpArgs false
namespace Go.Proofs.Yteigefjiifihpaa
open Go Go.Den
end Go.Proofs.Yteigefjiifihpaa

/- The scheduler, the reference's side: SchedStep, SchedRun. Conditions: none. -/
set_option linter.unusedVariables false
set_option linter.unusedSimpArgs false
namespace Go.Proofs.Yteigefjiifihpaa
open Go Go.Den
/-! ## SchedRun -/
end Go.Proofs.Yteigefjiifihpaa

/- Processes, plain law: what an operation does. Conditions: none. -/
set_option linter.unusedVariables false
set_option linter.unusedSimpArgs false
namespace Go.Proofs.Yteigefjiifihpaa
open Go Go.Den
/-- One process, by itself. -/
structure PrOk (x : DProc) : Prop where
  id : 1 ≤ x.Id ∧ x.Id ≤ 32
  grp : 1 ≤ x.Group ∧ x.Group ≤ 32
  usr : 0 ≤ x.User ∧ x.User ≤ 255
  st : 1 ≤ x.State ∧ x.State ≤ 3
  stat : 0 ≤ x.Status ∧ x.Status ≤ 255
  stz : x.State ≠ 3 → x.Status = 0
  pend : VS x.Pending
  mask : SS x.Mask
  ign : SS x.Ignored
  cau : SS x.Caught
  apart : ∀ i, hasS x.Ignored i = true → hasS x.Caught i = false
  zom : x.State = 3 → x.Pending = 0 ∧ x.Mask = 0 ∧ x.Ignored = 0 ∧ x.Caught = 0
structure PInv (l : List DProc) : Prop where
  srt : Srt DProc.Id l
  ok : ∀ x, x ∈ l → PrOk x
  head : ∃ x, l[0]? = some x ∧ x.Id = 1 ∧ x.Parent = 0 ∧ x.State ≠ 3
  par : ∀ x, x ∈ l → x.Id ≠ 1 → ∃ q, q ∈ l ∧ q.Id = x.Parent ∧ q.State ≠ 3
  rank : ∃ r : Int → Nat, ∀ x, x ∈ l → x.Id ≠ 1 → r x.Parent < r x.Id
def ixP (l : List DProc) (id : Int) : Int := idxFrom (fun x : DProc => x.Id == id) l 0
def prOf (l : List DProc) (id : Int) : Option DProc := l.find? (fun x : DProc => x.Id == id)
theorem ixP_find (l : List DProc) (id : Int) : (ixP l id = -1 ∧ prOf l id = none) ∨ ∃ i x, ixP l id = ((i : Nat) : Int) ∧ l[i]? = some x ∧ prOf l id = some x := by
  rcases idxFrom_find (fun x : DProc => x.Id == id) l 0 with h | ⟨i, x, h1, h2, h3⟩
  · exact .inl h
  · exact .inr ⟨i, x, by rw [← Nat.zero_add i]; exact h1, h2, h3⟩
theorem prOf_some {l : List DProc} {id : Int} {x : DProc} (h : prOf l id = some x) : x ∈ l ∧ x.Id = id := by
  unfold prOf at h
  exact ⟨List.mem_of_find?_eq_some h, by simpa using List.find?_some h⟩
theorem prOf_none {l : List DProc} {id : Int} (h : prOf l id = none) : ∀ x, x ∈ l → x.Id ≠ id := fun x hx he => by
  unfold prOf at h
  have := List.find?_eq_none.1 h x hx
  simp [he] at this
/-- The numbers fill a range from one. -/
theorem PInv.fill {l : List DProc} (h : PInv l) {i : Nat} {x : DProc} (hx : l[i]? = some x) : (i : Int) + 1 ≤ x.Id := by
  have hs : Srt (fun x : DProc => x.Id - 1) l := h.srt.imp (fun {a b} hlt => by show a.Id - 1 < b.Id - 1; omega)
  have := hs.fill (fun x hx => by have := (h.ok x hx).id.1; omega) i x hx
  omega
theorem PInv.len {l : List DProc} (h : PInv l) : 1 ≤ l.length ∧ l.length ≤ 32 := by
  constructor
  · obtain ⟨x, hx, _⟩ := h.head
    have := (List.getElem?_eq_some_iff.1 hx).1
    omega
  · refine Nat.le_of_not_lt (fun hgt => ?_)
    have hg : l[l.length - 1]? = some l[l.length - 1] := List.getElem?_eq_getElem (by omega)
    have := h.fill hg
    have := (h.ok _ (List.mem_of_getElem? hg)).id.2
    omega
/-! ## What an operation does -/
def sendX (x : DProc) (sig : Nat) : DProc :=
  if hasS x.Ignored sig = true then
    ⟨x.Id, x.Parent, x.Group, x.User, if sig = 13 then 1 else x.State, x.Status, if sig = 12 then lessS x.Pending 13 else if sig = 13 then lessS x.Pending 12 else x.Pending, x.Mask, x.Ignored, x.Caught⟩
  else ⟨x.Id, x.Parent, x.Group, x.User, if sig = 13 then 1 else x.State, x.Status, withS (if sig = 12 then lessS x.Pending 13 else if sig = 13 then lessS x.Pending 12 else x.Pending) sig, x.Mask, x.Ignored, x.Caught⟩
def sendY (sig : Nat) (x : DProc) : DProc := if x.State = 3 then x else sendX x sig
def sendF (l : List DProc) (i : Nat) (sig : Nat) : List DProc := match l[i]? with
  | some x => l.set i (sendY sig x)
  | none => l
def reP (id : Int) (x : DProc) : DProc := if x.Parent = id then ⟨x.Id, 1, x.Group, x.User, x.State, x.Status, x.Pending, x.Mask, x.Ignored, x.Caught⟩ else x
def deadKid (l : List DProc) (id : Int) : Bool := l.any (fun x => x.Parent == id && x.State == 3)
def endA (l : List DProc) (id : Int) : List DProc := if deadKid l id = true then sendF (l.map (reP id)) 0 14 else l.map (reP id)
def zomb (x : DProc) (status : Int) : DProc := ⟨x.Id, x.Parent, x.Group, x.User, 3, status, 0, 0, 0, 0⟩
def endB (l : List DProc) (id status : Int) : List DProc := match prOf l id with
  | none => l
  | some x => match prOf l x.Parent with
    | none => l
    | some u => if hasS u.Ignored 14 = true then l.filter (fun y => y.Id != id) else sendF (l.set (ixP l id).toNat (zomb x status)) (ixP l x.Parent).toNat 14
def endF (l : List DProc) (id status : Int) : List DProc := endB (endA l id) id status
def gapQ : List DProc → Nat → Nat
  | [], i => i
  | x :: r, i => if x.Id = (i : Int) + 1 then gapQ r (i + 1) else i
def child (g : Nat) (x : DProc) : DProc := ⟨(g : Int) + 1, x.Id, x.Group, x.User, 1, x.Status, 0, x.Mask, x.Ignored, x.Caught⟩
def forkF (l : List DProc) (x : DProc) : List DProc := l.take (gapQ l 0) ++ child (gapQ l 0) x :: l.drop (gapQ l 0)
def meant (me : DProc) (to_ : Int) (x : DProc) : Bool := if to_ > 0 then x.Id == to_ else if to_ = 0 then x.Group == me.Group else if to_ = -1 then true else x.Group == IntKind.i64.wrap (0 - to_)
abbrev PRes := List DProc × Int × Int × Int
def waitR (l : List DProc) (me : DProc) (to_ : Int) : PRes := match l.find? (fun x => x.Parent == me.Id && meant me to_ x && x.State == 3) with
  | some z => (l.filter (fun y => y.Id != z.Id), 0, z.Id, z.Status)
  | none => if l.any (fun x => x.Parent == me.Id && meant me to_ x) = true then (l, 9, 0, 0) else (l, 11, 0, 0)
def aimed (me : DProc) (to_ : Int) (x : DProc) : Bool := meant me to_ x && !(to_ == -1 && (x.Id == 1 || x.Id == me.Id))
def mayK (me x : DProc) : Bool := me.User == 0 || me.User == x.User
def hit (me : DProc) (to_ : Int) (x : DProc) : Bool := aimed me to_ x && mayK me x
def killR (l : List DProc) (me : DProc) (to_ n : Int) : PRes :=
  if n < 0 ∨ n > 15 then (l, 1, 0, 0)
  else if l.any (aimed me to_) = false then (l, 3, 0, 0)
  else if (l.filter (hit me to_)).length = 0 then (l, 2, 0, 0)
  else (if n > 0 then l.map (fun x => if hit me to_ x = true then sendY n.toNat x else x) else l, 0, ((l.filter (hit me to_)).length : Nat), 0)
open Classical in
noncomputable def maskR (l : List DProc) (i : Nat) (x : DProc) (to_ : Int) : PRes := if VS to_ then (l.set i ⟨x.Id, x.Parent, x.Group, x.User, x.State, x.Status, x.Pending, lessS (lessS to_ 9) 12, x.Ignored, x.Caught⟩, 0, x.Mask, 0) else (l, 1, 0, 0)
def actX (x : DProc) (s : Nat) (n : Int) : DProc := ⟨x.Id, x.Parent, x.Group, x.User, x.State, x.Status, if n = 1 then lessS x.Pending s else x.Pending, x.Mask, if n = 1 then withS (lessS x.Ignored s) s else lessS x.Ignored s, if n = 2 then withS (lessS x.Caught s) s else lessS x.Caught s⟩
def actR (l : List DProc) (i : Nat) (x : DProc) (to_ n : Int) : PRes :=
  if to_ < 1 ∨ to_ > 15 ∨ n < 0 ∨ n > 2 ∨ to_ = 9 ∨ to_ = 12 then (l, 1, 0, 0) else (l.set i (actX x to_.toNat n), 0, 0, 0)
/-- The least signal, from s on, that is told and not kept off; 0. -/
def leastS (x : DProc) : Nat → Nat → Nat
  | 0, _ => 0
  | k + 1, s => if hasS x.Pending s = true ∧ hasS x.Mask s = false then s else leastS x k (s + 1)
def sigOf (x : DProc) : Nat := if hasS x.Pending 9 = true then 9 else if x.State = 2 then 0 else leastS x 15 1
def takeR (l : List DProc) (i : Nat) (x : DProc) : PRes :=
  if sigOf x = 0 then (l, 9, 0, 0)
  else if hasS x.Caught (sigOf x) = true then (l.set i ⟨x.Id, x.Parent, x.Group, x.User, x.State, x.Status, lessS x.Pending (sigOf x), withS x.Mask (sigOf x), x.Ignored, x.Caught⟩, 0, (sigOf x : Nat), 2)
  else if sigOf x = 12 then (l.set i ⟨x.Id, x.Parent, x.Group, x.User, 2, x.Status, lessS x.Pending 12, x.Mask, x.Ignored, x.Caught⟩, 0, 12, 1)
  else if sigOf x = 14 ∨ sigOf x = 13 ∨ x.Id = 1 then (l.set i ⟨x.Id, x.Parent, x.Group, x.User, x.State, x.Status, lessS x.Pending (sigOf x), x.Mask, x.Ignored, x.Caught⟩, 0, (sigOf x : Nat), 1)
  else (endF (l.set i ⟨x.Id, x.Parent, x.Group, x.User, x.State, x.Status, lessS x.Pending (sigOf x), x.Mask, x.Ignored, x.Caught⟩) x.Id (128 + (sigOf x : Nat)), 0, (sigOf x : Nat), 1)
def grpR (l : List DProc) (id to_ n : Int) : PRes := match prOf l to_ with
  | none => (l, 3, 0, 0)
  | some y => if (to_ ≠ id ∧ y.Parent ≠ id) ∨ y.State = 3 then (l, 3, 0, 0) else if n < 1 ∨ n > 32 then (l, 1, 0, 0)
    else if n = to_ ∨ l.any (fun z => z.Id != to_ && z.Group == n) = true then (l.set (ixP l to_).toNat ⟨y.Id, y.Parent, n, y.User, y.State, y.Status, y.Pending, y.Mask, y.Ignored, y.Caught⟩, 0, 0, 0) else (l, 2, 0, 0)
def usrR (l : List DProc) (i : Nat) (x : DProc) (n : Int) : PRes :=
  if n < 0 ∨ n > 255 then (l, 1, 0, 0) else if x.User ≠ 0 ∧ x.User ≠ n then (l, 2, 0, 0) else (l.set i ⟨x.Id, x.Parent, x.Group, n, x.State, x.Status, x.Pending, x.Mask, x.Ignored, x.Caught⟩, 0, 0, 0)
noncomputable def prR (l : List DProc) (i : Nat) (x : DProc) (kind id to_ n : Int) : PRes :=
  if kind = 1 then (if l.length = 32 then (l, 18, 0, 0) else (forkF l x, 0, ((gapQ l 0 : Nat) : Int) + 1, 0))
  else if kind = 2 then (if n < 0 ∨ n > 255 then (l, 1, 0, 0) else if id = 1 then (l, 2, 0, 0) else (endF l id n, 0, 0, 0))
  else if kind = 3 then waitR l x to_
  else if kind = 4 then killR l x to_ n
  else if kind = 5 then maskR l i x to_
  else if kind = 6 then actR l i x to_ n
  else if kind = 7 then takeR l i x
  else if kind = 8 then grpR l id to_ n
  else usrR l i x n
noncomputable def stepP (l : List DProc) (kind id to_ n : Int) : PRes :=
  if kind < 1 ∨ kind > 9 then (l, 1, 0, 0)
  else match l[(ixP l id).toNat]? with
    | none => (l, 3, 0, 0)
    | some x => if ixP l id < 0 then (l, 3, 0, 0) else if x.State = 3 then (l, 21, 0, 0) else prR l (ixP l id).toNat x kind id to_ n
end Go.Proofs.Yteigefjiifihpaa

/- Processes, plain law: a state stays one that can be, through every operation. Conditions: none. -/
set_option linter.unusedVariables false
set_option linter.unusedSimpArgs false
namespace Go.Proofs.Yteigefjiifihpaa
open Go Go.Den
/-- The same processes, each in its place, its number, parent and life as they were. -/
def PSim (l l' : List DProc) : Prop := l'.length = l.length ∧ ∀ (i : Nat) x, l[i]? = some x → ∃ y, l'[i]? = some y ∧ y.Id = x.Id ∧ y.Parent = x.Parent ∧ (y.State = 3 ↔ x.State = 3) ∧ PrOk y
theorem PSim.back {l l' : List DProc} (h : PSim l l') {i : Nat} {y : DProc} (hy : l'[i]? = some y) : ∃ x, l[i]? = some x ∧ y.Id = x.Id ∧ y.Parent = x.Parent ∧ (y.State = 3 ↔ x.State = 3) ∧ PrOk y := by
  have hi := (List.getElem?_eq_some_iff.1 hy).1
  rw [h.1] at hi
  have hx : l[i]? = some l[i] := List.getElem?_eq_getElem hi
  obtain ⟨z, hz, h1⟩ := h.2 i _ hx
  rw [hy] at hz; cases hz
  exact ⟨_, hx, h1⟩
theorem PInv.sim {l l' : List DProc} (h : PInv l) (s : PSim l l') : PInv l' := by
  have hm : ∀ y, y ∈ l' → ∃ x, x ∈ l ∧ y.Id = x.Id ∧ y.Parent = x.Parent ∧ (y.State = 3 ↔ x.State = 3) ∧ PrOk y := fun y hy => by
    obtain ⟨i, hi⟩ := List.getElem?_of_mem hy
    obtain ⟨x, hx, h1⟩ := s.back hi
    exact ⟨x, List.mem_of_getElem? hx, h1⟩
  have hm2 : ∀ x, x ∈ l → ∃ y, y ∈ l' ∧ y.Id = x.Id ∧ y.Parent = x.Parent ∧ (y.State = 3 ↔ x.State = 3) := fun x hx => by
    obtain ⟨i, hi⟩ := List.getElem?_of_mem hx
    obtain ⟨y, hy, h1, h2, h3, _⟩ := s.2 i x hi
    exact ⟨y, List.mem_of_getElem? hy, h1, h2, h3⟩
  refine ⟨?_, fun y hy => ?_, ?_, fun y hy h1 => ?_, ?_⟩
  · refine List.pairwise_iff_getElem.2 (fun i j hi hj hij => ?_)
    obtain ⟨x, hx, h1, _⟩ := s.back (List.getElem?_eq_getElem hi)
    obtain ⟨z, hz, h2, _⟩ := s.back (List.getElem?_eq_getElem hj)
    rw [h1, h2]; exact h.srt.lt hx hz hij
  · obtain ⟨x, hx, _, _, _, ok⟩ := hm y hy; exact ok
  · obtain ⟨x, hx, h1, h2, h3⟩ := h.head
    obtain ⟨y, hy, g1, g2, g3, _⟩ := s.2 0 x hx
    exact ⟨y, hy, by omega, by omega, fun e => h3 (g3.1 e)⟩
  · obtain ⟨x, hx, e1, e2, e3, _⟩ := hm y hy
    obtain ⟨q, hq, g1, g2⟩ := h.par x hx (by omega)
    obtain ⟨p, hp, f1, f2, f3⟩ := hm2 q hq
    exact ⟨p, hp, by omega, fun e => g2 (f3.1 e)⟩
  · obtain ⟨r, hr⟩ := h.rank
    refine ⟨r, fun y hy h1 => ?_⟩
    obtain ⟨x, hx, e1, e2, e3, _⟩ := hm y hy
    rw [e1, e2]; exact hr x hx (by omega)
theorem PSim.set {l : List DProc} (h : PInv l) {i : Nat} {x y : DProc} (hx : l[i]? = some x) (h1 : y.Id = x.Id) (h2 : y.Parent = x.Parent) (h3 : y.State = 3 ↔ x.State = 3) (ok : PrOk y) : PSim l (l.set i y) := by
  refine ⟨List.length_set .., fun j z hz => ?_⟩
  by_cases hij : i = j
  · subst hij
    rw [hx] at hz; cases hz
    exact ⟨y, List.getElem?_set_self (List.getElem?_eq_some_iff.1 hx).1, h1, h2, h3, ok⟩
  · exact ⟨z, by rw [List.getElem?_set_ne hij]; exact hz, rfl, rfl, Iff.rfl, h.ok z (List.mem_of_getElem? hz)⟩
theorem PSim.map {l : List DProc} {f : DProc → DProc} (h : ∀ x, x ∈ l → (f x).Id = x.Id ∧ (f x).Parent = x.Parent ∧ ((f x).State = 3 ↔ x.State = 3) ∧ PrOk (f x)) : PSim l (l.map f) := by
  refine ⟨List.length_map .., fun j z hz => ?_⟩
  exact ⟨f z, by rw [List.getElem?_map, hz]; rfl, h z (List.mem_of_getElem? hz)⟩
theorem VS.small {s : Int} (h : VS s) : 0 ≤ s ∧ s ≤ 9223372036854775807 := ⟨h.1, by have := h.2.1; omega⟩
theorem SS.less {s : Int} (h : SS s) {i : Nat} (hi : i ≤ 62) : SS (lessS s i) := by
  have hs := VS.small h.1
  refine ⟨VS.less h.1 hi, ?_, ?_⟩
  · rw [(hasS_less hs.1 hs.2 hi 9).1, h.2.1]; rfl
  · rw [(hasS_less hs.1 hs.2 hi 12).1, h.2.2]; rfl
theorem SS.with_ {s : Int} (h : SS s) {i : Nat} (h1 : 1 ≤ i) (hi : i ≤ 15) (h9 : i ≠ 9) (h12 : i ≠ 12) : SS (withS s i) := by
  have hs := VS.small h.1
  refine ⟨VS.with_ h.1 h1 hi, ?_, ?_⟩
  · rw [(hasS_with hs.1 hs.2 (by omega) 9).1, h.2.1]; simpa using h9
  · rw [(hasS_with hs.1 hs.2 (by omega) 12).1, h.2.2]; simpa using h12
theorem ss_zero : SS 0 := ⟨⟨by decide, by decide, by decide⟩, by decide, by decide⟩
theorem has_zero (i : Nat) : hasS 0 i = false := by unfold hasS; simp
/-- A signal that is sent. -/
theorem sendY_ok {x : DProc} {sig : Nat} (h : PrOk x) (h1 : 1 ≤ sig) (h2 : sig ≤ 15) : (sendY sig x).Id = x.Id ∧ (sendY sig x).Parent = x.Parent ∧ ((sendY sig x).State = 3 ↔ x.State = 3) ∧ PrOk (sendY sig x) := by
  unfold sendY
  by_cases hz : x.State = 3
  · rw [if_pos hz]; exact ⟨rfl, rfl, Iff.rfl, h⟩
  rw [if_neg hz]
  have hp : VS (if sig = 12 then lessS x.Pending 13 else if sig = 13 then lessS x.Pending 12 else x.Pending) := by
    split
    · exact VS.less h.pend (by omega)
    · split
      · exact VS.less h.pend (by omega)
      · exact h.pend
  have hst : (if sig = 13 then (1 : Int) else x.State) ≠ 3 ∧ 1 ≤ (if sig = 13 then (1 : Int) else x.State) ∧ (if sig = 13 then (1 : Int) else x.State) ≤ 3 := by
    have := h.st
    split
    · exact ⟨by decide, by decide, by decide⟩
    · exact ⟨hz, this.1, this.2⟩
  unfold sendX
  split
  · exact ⟨rfl, rfl, ⟨fun e => absurd e hst.1, fun e => absurd e hz⟩, ⟨h.id, h.grp, h.usr, hst.2, h.stat, fun _ => h.stz hz, hp, h.mask, h.ign, h.cau, h.apart, fun e => absurd e hst.1⟩⟩
  · exact ⟨rfl, rfl, ⟨fun e => absurd e hst.1, fun e => absurd e hz⟩, ⟨h.id, h.grp, h.usr, hst.2, h.stat, fun _ => h.stz hz, VS.with_ hp h1 h2, h.mask, h.ign, h.cau, h.apart, fun e => absurd e hst.1⟩⟩
theorem PInv.send {l : List DProc} (h : PInv l) (i : Nat) {sig : Nat} (h1 : 1 ≤ sig) (h2 : sig ≤ 15) : PSim l (sendF l i sig) := by
  unfold sendF
  split
  · rename_i x hx
    obtain ⟨a, b, c, d⟩ := sendY_ok (h.ok x (List.mem_of_getElem? hx)) h1 h2
    exact PSim.set h hx a b c d
  · exact ⟨rfl, fun i x hx => ⟨x, hx, rfl, rfl, Iff.rfl, h.ok x (List.mem_of_getElem? hx)⟩⟩
theorem PInv.reP {l : List DProc} (h : PInv l) {id : Int} (hid : 1 < id) : PInv (l.map (reP id)) ∧ ∀ x, x ∈ l.map (Proofs.Yteigefjiifihpaa.reP id) → x.Parent ≠ id := by
  have e1 : ∀ x : DProc, (Proofs.Yteigefjiifihpaa.reP id x).Id = x.Id := fun x => by unfold Proofs.Yteigefjiifihpaa.reP; split <;> rfl
  have e2 : ∀ x : DProc, (Proofs.Yteigefjiifihpaa.reP id x).State = x.State := fun x => by unfold Proofs.Yteigefjiifihpaa.reP; split <;> rfl
  have e3 : ∀ x : DProc, (Proofs.Yteigefjiifihpaa.reP id x).Parent = if x.Parent = id then 1 else x.Parent := fun x => by unfold Proofs.Yteigefjiifihpaa.reP; split <;> rfl
  have e4 : ∀ x, x ∈ l → PrOk (Proofs.Yteigefjiifihpaa.reP id x) := fun x hx => by
    have := h.ok x hx
    unfold Proofs.Yteigefjiifihpaa.reP
    split
    · exact ⟨this.id, this.grp, this.usr, this.st, this.stat, this.stz, this.pend, this.mask, this.ign, this.cau, this.apart, this.zom⟩
    · exact this
  obtain ⟨x1, hx1, g1, g2, g3⟩ := h.head
  refine ⟨⟨?_, fun y hy => ?_, ?_, fun y hy h1 => ?_, ?_⟩, fun y hy => ?_⟩
  · unfold Srt
    rw [List.pairwise_map]
    exact h.srt.imp (fun hlt => by rw [e1, e1]; exact hlt)
  · obtain ⟨x, hx, rfl⟩ := List.mem_map.1 hy; exact e4 x hx
  · refine ⟨Proofs.Yteigefjiifihpaa.reP id x1, by rw [List.getElem?_map, hx1]; rfl, by rw [e1]; exact g1, ?_, by rw [e2]; exact g3⟩
    rw [e3]
    by_cases h0 : x1.Parent = id
    · omega
    · rw [if_neg h0]; exact g2
  · obtain ⟨x, hx, rfl⟩ := List.mem_map.1 hy
    rw [e1] at h1
    rw [e3]
    by_cases hp : x.Parent = id
    · rw [if_pos hp]
      exact ⟨_, List.mem_map.2 ⟨x1, List.mem_of_getElem? hx1, rfl⟩, by rw [e1]; exact g1, by rw [e2]; exact g3⟩
    · rw [if_neg hp]
      obtain ⟨q, hq, h2, h3⟩ := h.par x hx h1
      exact ⟨_, List.mem_map.2 ⟨q, hq, rfl⟩, by rw [e1]; exact h2, by rw [e2]; exact h3⟩
  · obtain ⟨r, hr⟩ := h.rank
    refine ⟨fun a => if a = 1 then 0 else r a + 1, fun y hy h1 => ?_⟩
    obtain ⟨x, hx, rfl⟩ := List.mem_map.1 hy
    rw [e1] at h1
    rw [e1, e3]
    have := hr x hx h1
    show (if (if x.Parent = id then (1 : Int) else x.Parent) = 1 then 0 else r (if x.Parent = id then 1 else x.Parent) + 1) < if x.Id = 1 then 0 else r x.Id + 1
    rw [if_neg h1]
    by_cases hp : x.Parent = id
    · rw [if_pos hp, if_pos rfl]; omega
    · rw [if_neg hp]
      split <;> omega
  · obtain ⟨x, hx, rfl⟩ := List.mem_map.1 hy
    rw [e3]
    split
    · omega
    · assumption
/-- One that is nobody's parent goes. -/
theorem PInv.drop {l : List DProc} (h : PInv l) {id : Int} (hid : id ≠ 1) (hk : ∀ x, x ∈ l → x.Parent ≠ id) : PInv (l.filter (fun y => y.Id != id)) := by
  have hm : ∀ x, x ∈ l.filter (fun y : DProc => y.Id != id) ↔ x ∈ l ∧ x.Id ≠ id := fun x => by rw [List.mem_filter]; simp
  refine ⟨h.srt.filter _, fun x hx => h.ok x ((hm x).1 hx).1, ?_, fun x hx h1 => ?_, ?_⟩
  · obtain ⟨x, hx, g1, g2, g3⟩ := h.head
    refine ⟨x, ?_, g1, g2, g3⟩
    cases l with
    | nil => simp at hx
    | cons a r =>
      simp at hx; subst hx
      rw [List.filter_cons, if_pos (by simp; omega)]; rfl
  · obtain ⟨hx1, hx2⟩ := (hm x).1 hx
    obtain ⟨q, hq, h2, h3⟩ := h.par x hx1 h1
    exact ⟨q, (hm q).2 ⟨hq, fun e => hk x hx1 (by omega)⟩, h2, h3⟩
  · obtain ⟨r, hr⟩ := h.rank
    exact ⟨r, fun x hx h1 => hr x ((hm x).1 hx).1 h1⟩
/-- One that is nobody's parent dies. -/
theorem PInv.zomb {l : List DProc} (h : PInv l) {i : Nat} {x : DProc} (hx : l[i]? = some x) (h1 : x.Id ≠ 1) (hk : ∀ y, y ∈ l → y.Parent ≠ x.Id) {status : Int} (hs : 0 ≤ status ∧ status ≤ 255) : PInv (l.set i (zomb x status)) := by
  have hm := fun z => Srt.mem_set h.srt (y := Proofs.Yteigefjiifihpaa.zomb x status) hx z
  have ho := h.ok x (List.mem_of_getElem? hx)
  have hi := (List.getElem?_eq_some_iff.1 hx).1
  refine ⟨h.srt.set hx rfl, fun z hz => ?_, ?_, fun z hz g1 => ?_, ?_⟩
  · rcases (hm z).1 hz with rfl | ⟨hz, _⟩
    · exact ⟨ho.id, ho.grp, ho.usr, ⟨by show (1 : Int) ≤ 3; decide, by show (3 : Int) ≤ 3; decide⟩, hs, fun e => absurd rfl e, ss_zero.1, ss_zero, ss_zero, ss_zero, fun i _ => has_zero i, fun _ => ⟨rfl, rfl, rfl, rfl⟩⟩
    · exact h.ok z hz
  · obtain ⟨a, ha, g1, g2, g3⟩ := h.head
    refine ⟨a, ?_, g1, g2, g3⟩
    rw [List.getElem?_set_ne]
    · exact ha
    · rintro rfl
      rw [hx] at ha; cases ha; exact h1 g1
  · have hq : ∃ p, p ∈ l ∧ p.Id = z.Parent ∧ p.State ≠ 3 ∧ p.Id ≠ x.Id := by
      rcases (hm z).1 hz with rfl | ⟨hz, _⟩
      · obtain ⟨q, hq, h2, h3⟩ := h.par x (List.mem_of_getElem? hx) h1
        exact ⟨q, hq, h2, h3, fun e => hk x (List.mem_of_getElem? hx) (by omega)⟩
      · obtain ⟨q, hq, h2, h3⟩ := h.par z hz g1
        exact ⟨q, hq, h2, h3, fun e => hk z hz (by omega)⟩
    obtain ⟨q, hq, h2, h3, h4⟩ := hq
    exact ⟨q, (hm q).2 (.inr ⟨hq, h4⟩), h2, h3⟩
  · obtain ⟨r, hr⟩ := h.rank
    refine ⟨r, fun z hz g1 => ?_⟩
    rcases (hm z).1 hz with rfl | ⟨hz, _⟩
    · exact hr x (List.mem_of_getElem? hx) h1
    · exact hr z hz g1
theorem PInv.ix {l : List DProc} (h : PInv l) {i : Nat} {x : DProc} (hx : l[i]? = some x) : ixP l x.Id = (i : Int) ∧ prOf l x.Id = some x := ⟨h.srt.idx hx, h.srt.find (List.mem_of_getElem? hx)⟩
/-- The parent of one that is not the first. -/
theorem PInv.up {l : List DProc} (h : PInv l) {x : DProc} (hx : x ∈ l) (h1 : x.Id ≠ 1) : ∃ (j : Nat) (u : DProc), l[j]? = some u ∧ u.Id = x.Parent ∧ u.State ≠ 3 ∧ ixP l x.Parent = (j : Int) ∧ prOf l x.Parent = some u := by
  obtain ⟨q, hq, h2, h3⟩ := h.par x hx h1
  obtain ⟨j, hj⟩ := List.getElem?_of_mem hq
  obtain ⟨a, b⟩ := h.ix hj
  rw [h2] at a b
  exact ⟨j, q, hj, h2, h3, a, b⟩
theorem PInv.endA {l : List DProc} (h : PInv l) {id : Int} (hid : 1 < id) : PInv (endA l id) ∧ (∀ x, x ∈ Proofs.Yteigefjiifihpaa.endA l id → x.Parent ≠ id) ∧ ∀ (i : Nat) x, l[i]? = some x → ∃ y, (Proofs.Yteigefjiifihpaa.endA l id)[i]? = some y ∧ y.Id = x.Id := by
  obtain ⟨h1, h2⟩ := h.reP hid
  have h3 : ∀ (i : Nat) x, l[i]? = some x → (l.map (Proofs.Yteigefjiifihpaa.reP id))[i]? = some (Proofs.Yteigefjiifihpaa.reP id x) ∧ (Proofs.Yteigefjiifihpaa.reP id x).Id = x.Id := fun i x hx => by
    refine ⟨by rw [List.getElem?_map, hx]; rfl, ?_⟩
    unfold Proofs.Yteigefjiifihpaa.reP; split <;> rfl
  unfold Proofs.Yteigefjiifihpaa.endA
  split
  · have hs := h1.send 0 (sig := 14) (by omega) (by omega)
    refine ⟨h1.sim hs, fun y hy => ?_, fun i x hx => ?_⟩
    · obtain ⟨i, hi⟩ := List.getElem?_of_mem hy
      obtain ⟨x, hx, _, e, _⟩ := hs.back hi
      rw [e]; exact h2 x (List.mem_of_getElem? hx)
    · obtain ⟨g1, g2⟩ := h3 i x hx
      obtain ⟨y, hy, e, _⟩ := hs.2 i _ g1
      exact ⟨y, hy, by rw [e]; exact g2⟩
  · exact ⟨h1, h2, fun i x hx => ⟨_, h3 i x hx⟩⟩
theorem PInv.endF {l : List DProc} (h : PInv l) {i : Nat} {x : DProc} (hx : l[i]? = some x) (h1 : x.Id ≠ 1) {status : Int} (hs : 0 ≤ status ∧ status ≤ 255) : PInv (endF l x.Id status) := by
  have hid := (h.ok x (List.mem_of_getElem? hx)).id
  obtain ⟨g1, g2, g3⟩ := h.endA (id := x.Id) (by omega)
  unfold Proofs.Yteigefjiifihpaa.endF endB
  obtain ⟨y, hy, hye⟩ := g3 i x hx
  obtain ⟨e1, e2⟩ := g1.ix hy
  rw [hye] at e1 e2
  rw [e2]
  dsimp only
  obtain ⟨j, u, hj, f1, f2, f3, f4⟩ := g1.up (List.mem_of_getElem? hy) (by omega)
  rw [f4]
  dsimp only
  split
  · exact g1.drop h1 g2
  · rw [e1]
    have hz := g1.zomb (i := i) (x := y) hy (by omega) (fun z hz => by rw [hye]; exact g2 z hz) hs
    exact hz.sim (hz.send _ (by omega) (by omega))
end Go.Proofs.Yteigefjiifihpaa

/- Processes, plain law: every operation keeps a state one that can be. Conditions: none. -/
set_option linter.unusedVariables false
set_option linter.unusedSimpArgs false
namespace Go.Proofs.Yteigefjiifihpaa
open Go Go.Den
theorem gapQ_spec : ∀ (l : List DProc) (i : Nat), ∃ j, gapQ l i = i + j ∧ j ≤ l.length ∧ (∀ m x, m < j → l[m]? = some x → x.Id = ((i + m : Nat) : Int) + 1) ∧ ∀ x, l[j]? = some x → x.Id ≠ ((i + j : Nat) : Int) + 1
  | [], i => ⟨0, rfl, Nat.le_refl _, (fun m x hm _ => absurd hm (Nat.not_lt_zero _)), (fun x hx => by simp at hx)⟩
  | y :: r, i => by
    unfold gapQ
    by_cases hy : y.Id = (i : Int) + 1
    · rw [if_pos hy]
      obtain ⟨j, h1, h2, h3, h4⟩ := gapQ_spec r (i + 1)
      refine ⟨j + 1, by omega, by simp; omega, fun m x hm hx => ?_, fun x hx => ?_⟩
      · cases m with
        | zero => simp at hx; subst hx; simpa using hy
        | succ m =>
          rw [h3 m x (by omega) (by simpa using hx)]
          have : ((i + 1 + m : Nat) : Int) = ((i + (m + 1) : Nat) : Int) := by congr 1; omega
          omega
      · have := h4 x (by simpa using hx)
        rw [show i + (j + 1) = i + 1 + j by omega]; exact this
    · rw [if_neg hy]
      exact ⟨0, rfl, Nat.zero_le _, (fun m x hm _ => absurd hm (Nat.not_lt_zero _)), (fun x hx => by simp at hx; subst hx; simpa using hy)⟩
/-- The first number that is free. -/
theorem PInv.gap {l : List DProc} (h : PInv l) : 1 ≤ gapQ l 0 ∧ gapQ l 0 ≤ l.length ∧ (∀ (m : Nat) x, m < gapQ l 0 → l[m]? = some x → x.Id = (m : Int) + 1) ∧ (∀ (m : Nat) x, gapQ l 0 ≤ m → l[m]? = some x → ((gapQ l 0 : Nat) : Int) + 1 < x.Id) := by
  obtain ⟨j, h1, h2, h3, h4⟩ := gapQ_spec l 0
  rw [Nat.zero_add] at h1
  rw [h1]
  refine ⟨?_, h2, fun m x hm hx => by rw [h3 m x hm hx, Nat.zero_add], fun m x hm hx => ?_⟩
  · obtain ⟨x, hx, g, _⟩ := h.head
    rcases Nat.eq_zero_or_pos j with rfl | hp
    · have := h4 x hx
      simp at this
      exact absurd g this
    · exact hp
  · have hml := (List.getElem?_eq_some_iff.1 hx).1
    have hg : l[j]? = some l[j] := List.getElem?_eq_getElem (by omega)
    have h5 := h4 _ hg
    have h6 := h.fill hg
    rw [Nat.zero_add] at h5
    rcases Nat.lt_or_eq_of_le hm with hlt | rfl
    · have := h.srt.lt hg hx hlt; omega
    · rw [hg] at hx; cases hx; omega
theorem PInv.gapNew {l : List DProc} (h : PInv l) : ∀ y, y ∈ l → y.Id ≠ ((gapQ l 0 : Nat) : Int) + 1 := fun y hy => by
  obtain ⟨m, hm⟩ := List.getElem?_of_mem hy
  obtain ⟨_, _, h3, h4⟩ := h.gap
  rcases Nat.lt_or_ge m (gapQ l 0) with hlt | hge
  · have := h3 m y hlt hm; omega
  · have := h4 m y hge hm; omega
/-- A full table has no number left. -/
theorem PInv.full {l : List DProc} (h : PInv l) : l.length = 32 ↔ gapQ l 0 = 32 := by
  obtain ⟨h1, h2, h3, h4⟩ := h.gap
  have hl := h.len
  constructor
  · intro he
    refine Nat.le_antisymm (by omega) (Nat.le_of_not_lt (fun hlt => ?_))
    have hg : l[31]? = some l[31] := List.getElem?_eq_getElem (by omega)
    have h5 := (h.ok _ (List.mem_of_getElem? hg)).id.2
    have hs : Srt (fun x : DProc => x.Id - 2) (l.drop (gapQ l 0)) := (List.Pairwise.sublist (List.drop_sublist _ _) h.srt).imp (fun {a b} hlt => by show a.Id - 2 < b.Id - 2; omega)
    have hs2 : Srt (fun x : DProc => x.Id - (((gapQ l 0 : Nat) : Int) + 2)) (l.drop (gapQ l 0)) := (List.Pairwise.sublist (List.drop_sublist _ _) h.srt).imp (fun {a b} hlt => by show a.Id - _ < b.Id - _; omega)
    have hd : (l.drop (gapQ l 0))[31 - gapQ l 0]? = some l[31] := by rw [List.getElem?_drop, show gapQ l 0 + (31 - gapQ l 0) = 31 by omega]; exact hg
    have := hs2.fill (fun x hx => by
      obtain ⟨m, hm⟩ := List.getElem?_of_mem hx
      rw [List.getElem?_drop] at hm
      have := h4 _ x (by omega) hm
      omega) _ _ hd
    omega
  · intro he; omega
theorem PInv.fork {l : List DProc} (h : PInv l) (hl : l.length ≠ 32) {x : DProc} (hx : x ∈ l) (hs : x.State ≠ 3) : PInv (forkF l x) := by
  obtain ⟨h1, h2, h3, h4⟩ := h.gap
  have ho := h.ok x hx
  have hle := h.len
  have hg : gapQ l 0 ≠ 32 := fun e => hl (h.full.2 e)
  have hnew := h.gapNew
  have hm : ∀ z, z ∈ forkF l x ↔ z = child (gapQ l 0) x ∨ z ∈ l := fun z => mem_ins
  refine ⟨?_, fun z hz => ?_, ?_, fun z hz g1 => ?_, ?_⟩
  · refine h.srt.ins (fun y hy => ?_) (fun y hy => ?_)
    · obtain ⟨m, hm⟩ := List.getElem?_of_mem hy
      have hml : m < gapQ l 0 := by have := (List.getElem?_eq_some_iff.1 hm).1; rw [List.length_take] at this; omega
      rw [List.getElem?_take_of_lt hml] at hm
      have := h3 m y hml hm
      show y.Id < ((gapQ l 0 : Nat) : Int) + 1
      omega
    · obtain ⟨m, hm⟩ := List.getElem?_of_mem hy
      rw [List.getElem?_drop] at hm
      exact h4 _ y (by omega) hm
  · rcases (hm z).1 hz with rfl | hz
    · refine ⟨⟨by show (1 : Int) ≤ (_ : Nat) + 1; omega, by show ((_ : Nat) : Int) + 1 ≤ 32; omega⟩, ho.grp, ho.usr, ⟨by show (1 : Int) ≤ 1; decide, by show (1 : Int) ≤ 3; decide⟩, ho.stat, fun _ => ho.stz hs, ss_zero.1, ho.mask, ho.ign, ho.cau, ho.apart, fun e => ?_⟩
      exact absurd (show (1 : Int) = 3 from e) (by decide)
    · exact h.ok z hz
  · obtain ⟨a, ha, g1, g2, g3⟩ := h.head
    refine ⟨a, ?_, g1, g2, g3⟩
    unfold forkF
    rw [List.getElem?_append_left (by rw [List.length_take]; omega), List.getElem?_take_of_lt (by omega)]
    exact ha
  · rcases (hm z).1 hz with rfl | hz
    · exact ⟨x, (hm x).2 (.inr hx), rfl, hs⟩
    · obtain ⟨q, hq, f1, f2⟩ := h.par z hz g1
      exact ⟨q, (hm q).2 (.inr hq), f1, f2⟩
  · obtain ⟨r, hr⟩ := h.rank
    refine ⟨fun a => if a = ((gapQ l 0 : Nat) : Int) + 1 then r x.Id + 1 else r a, fun z hz g1 => ?_⟩
    have hxn := hnew x hx
    rcases (hm z).1 hz with rfl | hz
    · show (if x.Id = _ then r x.Id + 1 else r x.Id) < if ((gapQ l 0 : Nat) : Int) + 1 = ((gapQ l 0 : Nat) : Int) + 1 then r x.Id + 1 else _
      rw [if_neg hxn, if_pos rfl]; exact Nat.lt_succ_self _
    · obtain ⟨q, hq, f1, f2⟩ := h.par z hz g1
      have hqn := hnew q hq
      have hzn := hnew z hz
      show (if z.Parent = _ then _ else _) < if z.Id = _ then _ else _
      rw [if_neg hzn, if_neg (by omega)]
      exact hr z hz g1
theorem sigOf_le (x : DProc) : sigOf x ≤ 15 ∧ (sigOf x ≠ 0 → hasS x.Pending (sigOf x) = true) := by
  have hL : ∀ (k s : Nat), 1 ≤ s → (leastS x k s = 0 ∨ (leastS x k s < s + k ∧ hasS x.Pending (leastS x k s) = true)) := by
    intro k
    induction k with
    | zero => exact fun s _ => .inl rfl
    | succ k ih =>
      intro s hs
      unfold leastS
      split
      · exact .inr ⟨by omega, by rename_i h; exact h.1⟩
      · rcases ih (s + 1) (by omega) with h | ⟨h1, h2⟩
        · exact .inl h
        · exact .inr ⟨by omega, h2⟩
  unfold sigOf
  split
  · exact ⟨by omega, fun _ => by assumption⟩
  · split
    · exact ⟨by omega, fun h => absurd rfl h⟩
    · rcases hL 15 1 (by omega) with h | ⟨h1, h2⟩
      · rw [h]; exact ⟨by omega, fun h => absurd rfl h⟩
      · exact ⟨by omega, fun _ => h2⟩
/-- A field but number, parent and death is turned. -/
theorem PInv.turn {l : List DProc} (h : PInv l) {i : Nat} {x : DProc} (hx : l[i]? = some x) (hz : x.State ≠ 3) {g u s p m n c : Int} (hg : 1 ≤ g ∧ g ≤ 32) (hu : 0 ≤ u ∧ u ≤ 255) (hs : 1 ≤ s ∧ s ≤ 2) (hp : VS p) (hm : SS m) (hn : SS n) (hc : SS c) (ha : ∀ i, hasS n i = true → hasS c i = false) : PSim l (l.set i ⟨x.Id, x.Parent, g, u, s, x.Status, p, m, n, c⟩) := by
  have ho := h.ok x (List.mem_of_getElem? hx)
  have h3 : s ≠ 3 := by omega
  exact PSim.set h hx rfl rfl ⟨fun e => absurd e h3, fun e => absurd e hz⟩ ⟨ho.id, hg, hu, ⟨hs.1, by show s ≤ 3; omega⟩, ho.stat, fun _ => ho.stz hz, hp, hm, hn, hc, ha, fun e => absurd e h3⟩
theorem PrOk.alive {x : DProc} (h : PrOk x) (hz : x.State ≠ 3) : 1 ≤ x.State ∧ x.State ≤ 2 := by have := h.st; omega
theorem PInv.take {l : List DProc} (h : PInv l) {i : Nat} {x : DProc} (hx : l[i]? = some x) (hz : x.State ≠ 3) : PInv (takeR l i x).1 := by
  have ho := h.ok x (List.mem_of_getElem? hx)
  have hst := ho.alive hz
  obtain ⟨s1, s2⟩ := sigOf_le x
  unfold takeR
  split
  · exact h
  rename_i hs0
  have hl : VS (lessS x.Pending (sigOf x)) := VS.less ho.pend (by omega)
  split
  · rename_i hc
    have h9 : sigOf x ≠ 9 := fun e => by have := ho.cau.2.1; rw [e] at hc; rw [this] at hc; cases hc
    have h12 : sigOf x ≠ 12 := fun e => by have := ho.cau.2.2; rw [e] at hc; rw [this] at hc; cases hc
    exact h.sim (h.turn hx hz ho.grp ho.usr hst hl (SS.with_ ho.mask (by omega) s1 h9 h12) ho.ign ho.cau ho.apart)
  split
  · rename_i h12
    rw [h12] at hl
    exact h.sim (h.turn hx hz ho.grp ho.usr ⟨by decide, by decide⟩ hl ho.mask ho.ign ho.cau ho.apart)
  have hsim := h.turn hx hz ho.grp ho.usr hst hl ho.mask ho.ign ho.cau ho.apart
  split
  · exact h.sim hsim
  · rename_i h3
    have hi := (List.getElem?_eq_some_iff.1 hx).1
    exact (h.sim hsim).endF (x := ⟨x.Id, x.Parent, x.Group, x.User, x.State, x.Status, lessS x.Pending (sigOf x), x.Mask, x.Ignored, x.Caught⟩) (List.getElem?_set_self hi) (fun e => h3 (.inr (.inr e))) ⟨by omega, by omega⟩
theorem PInv.act {l : List DProc} (h : PInv l) {i : Nat} {x : DProc} (hx : l[i]? = some x) (hz : x.State ≠ 3) (to_ n : Int) : PInv (actR l i x to_ n).1 := by
  have ho := h.ok x (List.mem_of_getElem? hx)
  unfold actR
  split
  · exact h
  rename_i hg
  obtain ⟨t, rfl⟩ := Int.eq_ofNat_of_zero_le (show 0 ≤ to_ by omega)
  rw [Int.toNat_natCast]
  refine h.sim (h.turn hx hz ho.grp ho.usr (ho.alive hz) ?_ ho.mask ?_ ?_ ?_)
  · split
    · exact VS.less ho.pend (by omega)
    · exact ho.pend
  · split
    · exact SS.with_ (SS.less ho.ign (by omega)) (by omega) (by omega) (by omega) (by omega)
    · exact SS.less ho.ign (by omega)
  · split
    · exact SS.with_ (SS.less ho.cau (by omega)) (by omega) (by omega) (by omega) (by omega)
    · exact SS.less ho.cau (by omega)
  · intro j hj
    have i0 := VS.small ho.ign.1
    have c0 := VS.small ho.cau.1
    have i1 := VS.small (SS.less ho.ign (i := t) (by omega)).1
    have c1 := VS.small (SS.less ho.cau (i := t) (by omega)).1
    have hap := ho.apart j
    by_cases hn1 : n = 1
    · rw [if_pos hn1, (hasS_with i1.1 i1.2 (by omega) j).1, (hasS_less i0.1 i0.2 (by omega) j).1] at hj
      rw [if_neg (by omega), (hasS_less c0.1 c0.2 (by omega) j).1]
      by_cases htj : t = j
      · subst htj; simp
      · have : (t == j) = false := by simpa using htj
        rw [this] at hj
        simp at hj
        rw [hap hj.1]; rfl
    · rw [if_neg hn1, (hasS_less i0.1 i0.2 (by omega) j).1] at hj
      have hij : hasS x.Ignored j = true ∧ t ≠ j := by simpa using hj
      have htj : (t == j) = false := by simpa using hij.2
      split
      · rw [(hasS_with c1.1 c1.2 (by omega) j).1, (hasS_less c0.1 c0.2 (by omega) j).1, hap hij.1, htj]; rfl
      · rw [(hasS_less c0.1 c0.2 (by omega) j).1, hap hij.1]; rfl
theorem PInv.wait {l : List DProc} (h : PInv l) (x : DProc) (to_ : Int) : PInv (waitR l x to_).1 := by
  unfold waitR
  split
  · rename_i z hf
    have hz := List.mem_of_find?_eq_some hf
    have h1 := List.find?_some hf
    have h3 : z.State = 3 := by simp at h1; exact h1.2
    refine h.drop (fun e => ?_) (fun y hy e => ?_)
    · obtain ⟨a, ha, g1, g2, g3⟩ := h.head
      rw [h.srt.uniq hz (List.mem_of_getElem? ha) (by omega)] at h3
      exact g3 h3
    · by_cases hy1 : y.Id = 1
      · obtain ⟨a, ha, g1, g2, g3⟩ := h.head
        rw [h.srt.uniq hy (List.mem_of_getElem? ha) (by omega)] at e
        have := (h.ok z hz).id.1
        omega
      · obtain ⟨q, hq, f1, f2⟩ := h.par y hy hy1
        rw [h.srt.uniq hq hz (by omega)] at f2
        exact f2 h3
  · split <;> exact h
theorem PInv.kill {l : List DProc} (h : PInv l) (x : DProc) (to_ n : Int) : PInv (killR l x to_ n).1 := by
  unfold killR
  split
  · exact h
  split
  · exact h
  split
  · exact h
  show PInv (if n > 0 then _ else l)
  split
  · refine h.sim (PSim.map (fun z hz => ?_))
    split
    · exact sendY_ok (h.ok z hz) (by omega) (by omega)
    · exact ⟨rfl, rfl, Iff.rfl, h.ok z hz⟩
  · exact h
theorem PInv.grp {l : List DProc} (h : PInv l) (id to_ n : Int) : PInv (grpR l id to_ n).1 := by
  unfold grpR
  split
  · exact h
  rename_i y hy
  obtain ⟨hm, he⟩ := prOf_some hy
  split
  · exact h
  rename_i h1
  split
  · exact h
  split
  · obtain ⟨j, hj⟩ := List.getElem?_of_mem hm
    have hix := (h.ix hj).1
    rw [he] at hix
    rw [hix, Int.toNat_natCast]
    have ho := h.ok y hm
    have hz : y.State ≠ 3 := fun e => h1 (.inr e)
    exact h.sim (h.turn hj hz (by omega) ho.usr (ho.alive hz) ho.pend ho.mask ho.ign ho.cau ho.apart)
  · exact h
/-- A state stays one that can be. -/
theorem PInv.step {l : List DProc} (h : PInv l) (kind id to_ n : Int) : PInv (stepP l kind id to_ n).1 := by
  unfold stepP
  split
  · exact h
  split
  · exact h
  rename_i x hx
  split
  · exact h
  split
  · exact h
  rename_i hz
  rename_i hneg
  have hxm := List.mem_of_getElem? hx
  have ho := h.ok x hxm
  have hxid : x.Id = id := by
    rcases ixP_find l id with ⟨e, _⟩ | ⟨i, y, e1, e2, e3⟩
    · omega
    · rw [e1, Int.toNat_natCast, e2] at hx
      cases hx
      exact (prOf_some e3).2
  unfold prR
  split
  · split
    · exact h
    · rename_i hl; exact h.fork hl hxm hz
  split
  · split
    · exact h
    · split
      · exact h
      · rename_i h1 h2
        subst hxid
        exact h.endF hx h2 (by omega)
  split
  · exact h.wait x to_
  split
  · exact h.kill x to_ n
  split
  · unfold maskR
    split
    · rename_i hv
      have h1 : VS (lessS (lessS to_ 9) 12) := VS.less (VS.less hv (by omega)) (by omega)
      have v0 := VS.small hv
      have v1 := VS.small (VS.less hv (i := 9) (by omega))
      refine h.sim (h.turn hx hz ho.grp ho.usr (ho.alive hz) ho.pend ⟨h1, ?_, ?_⟩ ho.ign ho.cau ho.apart)
      · rw [(hasS_less v1.1 v1.2 (by omega) 9).1, (hasS_less v0.1 v0.2 (by omega) 9).1]; simp
      · rw [(hasS_less v1.1 v1.2 (by omega) 12).1]; simp
    · exact h
  split
  · exact h.act hx hz to_ n
  split
  · exact h.take hx hz
  split
  · exact h.grp id to_ n
  · unfold usrR
    split
    · exact h
    split
    · exact h
    · exact h.sim (h.turn hx hz ho.grp (by omega) (ho.alive hz) ho.pend ho.mask ho.ign ho.cau ho.apart)
end Go.Proofs.Yteigefjiifihpaa

/- Processes, the reference's side: sets of signals, one process. Conditions: none. -/
set_option linter.unusedVariables false
set_option linter.unusedSimpArgs false
namespace Go.Proofs.Yteigefjiifihpaa
open Go Go.Den
abbrev RP (t : Sl) (l : List DProc) : Asr := aRow t 10 (recs DProc.cells l)
theorem plain_pr (x : DProc) : ∀ v, v ∈ x.cells → plainB v = true := by intro v hv; simp [DProc.cells] at hv; rcases hv with rfl | rfl | rfl | rfl | rfl | rfl | rfl | rfl | rfl | rfl <;> rfl
structure QAt (w : World) (t : Sl) (l : List DProc) : Prop where
  tl : t.len = l.length
  tr : RowAt w t.a (t.len * 10) (l.flatMap DProc.cells)
  few : l.length ≤ 1048576
theorem QAt.ext {w w' : World} {t : Sl} {l : List DProc} (h : QAt w t l) (e : Ext w w') : QAt w' t l := ⟨h.tl, e.row h.tr, h.few⟩
theorem qatOf {w0 w : World} {As : List Asr} (h : SH w0 w As) (i : Nat) {t : Sl} {l : List DProc} (hi : As[i]? = some (RP t l)) (hf : l.length ≤ 1048576) : QAt w t l := ⟨by rw [h.len i hi, recs_len], h.rowR i hi, hf⟩
theorem QAt.pr {w : World} {t : Sl} {l : List DProc} (h : QAt w t l) {i : Nat} {x : DProc} (hx : l[i]? = some x) : ∃ p, t.a = some p ∧ ∀ j v, x.cells[j]? = some v → w.cell? ((p.add (i * 10)).add j) = some v :=
  RowAt.elem (f := DProc.cells) (z := 10) (fun _ => rfl) h.tr hx (by have := (List.getElem?_eq_some_iff.1 hx).1; have := h.tl; omega)
instance (s : Int) : Decidable (VS s) := by unfold VS; infer_instance
instance (s : Int) : Decidable (SS s) := by unfold SS; infer_instance
theorem pow_le (n : Nat) (h : n ≤ 62) : 1 ≤ (2 : Nat) ^ n ∧ (2 : Nat) ^ n ≤ 4611686018427387904 := ⟨Nat.one_le_two_pow, (Nat.pow_le_pow_right (by decide) h : 2 ^ n ≤ 2 ^ 62)⟩
theorem c156 {n : Nat} (hn : n ≤ 62) {w : World} : CallW Try.prog 156 #[.int .i64 (n : Int)] w (fun v w' => v = .int .u64 ((2 ^ n : Nat) : Int) ∧ w' = w) := by
  refine go156 ?_
  unfold W156
  refine LoopW.m2 (fun (r i : Int) w' => ∃ m : Nat, i = m ∧ m ≤ n ∧ r = ((2 ^ m : Nat) : Int) ∧ w' = w) (fun _ (i : Int) _ => (n - i).toNat) ⟨0, rfl, by omega, rfl, rfl⟩ ?_
  rintro (r : Int) (i : Int) w1 ⟨m, rfl, hm, rfl, rfl⟩ J hJ
  refine BIf.dec (fun hlt => ?_) (fun hge => ?_)
  · have h1 := pow_le m (by omega)
    rw [w64 (n := (m : Int) + 1) (by omega) (by omega), wu64 (by omega) (by omega)]
    exact hJ _ _ _ ⟨m + 1, by omega, by omega, by rw [Nat.pow_succ]; omega, rfl⟩ (by omega)
  · exact ⟨by rw [show m = n by omega], rfl⟩
theorem c153 {n : Nat} (hn : n ≤ 62) {w : World} : CallW Try.prog 153 #[.int .i64 (n : Int)] w (fun v w' => v = .int .i64 ((2 ^ n : Nat) : Int) ∧ w' = w) := by
  refine go153 ?_
  unfold W153
  refine (c156 hn).mono ?_
  rintro _ w ⟨rfl, rfl⟩
  have h1 := pow_le n hn
  exact ⟨_, rfl, by rw [w64 (by omega) (by omega)], rfl⟩
theorem c143 {s : Int} {n : Nat} (h0 : 0 ≤ s) (h1 : s ≤ 9223372036854775807) (hn : n ≤ 62) {w : World} : CallW Try.prog 143 #[.int .i64 s, .int .i64 (n : Int)] w (fun v w' => v = .bool (hasS s n) ∧ w' = w) := by
  refine go143 ?_
  unfold W143
  refine (c153 hn).mono ?_
  rintro _ w ⟨rfl, rfl⟩
  have h2 := pow_le n hn
  refine ⟨_, rfl, by omega, by decide, ?_, rfl⟩
  have h3 : 0 ≤ s / ((2 ^ n : Nat) : Int) := Int.ediv_nonneg h0 (by omega)
  have h4 : s / ((2 ^ n : Nat) : Int) ≤ s := Int.ediv_le_self _ h0
  rw [hasS_div h0, Int.tdiv_eq_ediv_of_nonneg h0, w64 (by omega) (by omega), Int.tmod_eq_emod_of_nonneg h3]
theorem c131 {s : Int} {n : Nat} (h0 : 0 ≤ s) (h1 : s ≤ 9223372036854775807) (hn : n ≤ 62) {w : World} : CallW Try.prog 131 #[.int .i64 s, .int .i64 (n : Int)] w (fun v w' => v = .int .i64 (lessS s n) ∧ w' = w) := by
  refine go131 ?_
  unfold W131
  refine (c143 h0 h1 hn).mono ?_
  rintro _ w ⟨rfl, rfl⟩
  have h2 := pow_le n hn
  refine ⟨_, rfl, BIf.of (fun hb => ?_) (fun hb => ?_)⟩
  · refine (c153 hn).mono ?_
    rintro _ _ ⟨rfl, rfl⟩
    refine ⟨_, rfl, ?_, rfl⟩
    unfold lessS
    rw [if_pos hb, w64 (by omega) (by omega)]
  · refine ⟨?_, rfl⟩
    unfold lessS
    rw [hb]; rfl
theorem c154 {s : Int} {n : Nat} (h0 : 0 ≤ s) (h1 : s ≤ 4611686018427387903) (hn : n ≤ 62) {w : World} : CallW Try.prog 154 #[.int .i64 s, .int .i64 (n : Int)] w (fun v w' => v = .int .i64 (withS s n) ∧ w' = w) := by
  refine go154 ?_
  unfold W154
  refine (c143 h0 (by omega) hn).mono ?_
  rintro _ w ⟨rfl, rfl⟩
  have h2 := pow_le n hn
  refine ⟨_, rfl, BIf.of (fun hb => ?_) (fun hb => ?_)⟩
  · refine ⟨?_, rfl⟩
    unfold withS
    rw [if_pos hb]
  · refine (c153 hn).mono ?_
    rintro _ _ ⟨rfl, rfl⟩
    refine ⟨_, rfl, ?_, rfl⟩
    unfold withS
    rw [hb, w64 (by omega) (by omega)]; rfl
theorem c130 {s : Int} {w : World} : CallW Try.prog 130 #[.int .i64 s] w (fun v w' => v = .bool (decide (VS s)) ∧ w' = w) := by
  refine go130 ?_
  unfold W130
  refine JoinW.cut1 (fun (b : Bool) w' => b = decide (0 ≤ s ∧ s < 65536) ∧ w' = w) ?_ ?_
  · refine BIf.dec (fun hge => ?_) (fun hlt => ⟨(decide_eq_false (by omega)).symm, rfl⟩)
    refine (c153 (n := 16) (by omega)).mono ?_
    rintro _ _ ⟨rfl, rfl⟩
    refine ⟨_, rfl, ?_, rfl⟩
    rw [decide_eq_decide]
    show s < 65536 ↔ _
    omega
  rintro (b : Bool) w ⟨rfl, rfl⟩
  refine JoinW.cut1 (fun (b : Bool) w' => b = decide (VS s) ∧ w' = w) ?_ ?_
  · refine BIf.dec (fun hc => ⟨by decide, ?_, rfl⟩) (fun hc => ⟨?_, rfl⟩)
    · rw [Int.tmod_eq_emod_of_nonneg hc.1]
      show decide _ = _
      rw [decide_eq_decide]
      unfold VS
      exact ⟨fun h => ⟨hc.1, hc.2, h⟩, fun h => h.2.2⟩
    · exact (decide_eq_false (fun h => hc ⟨h.1, h.2.1⟩)).symm
  · rintro (b : Bool) w ⟨rfl, rfl⟩
    exact ⟨rfl, rfl⟩
theorem c142 {s : Int} {w : World} : CallW Try.prog 142 #[.int .i64 s] w (fun v w' => v = .bool (decide (SS s)) ∧ w' = w) := by
  refine go142 ?_
  unfold W142
  refine c130.mono ?_
  rintro _ w ⟨rfl, rfl⟩
  refine ⟨_, rfl, JoinW.cut1 (fun (b : Bool) w' => b = decide (VS s ∧ hasS s 9 = false) ∧ w' = w) ?_ ?_⟩
  · refine BIf.dec (fun hv => ?_) (fun hv => ⟨(decide_eq_false (fun h => hv h.1)).symm, rfl⟩)
    refine (c143 (n := 9) (VS.small hv).1 (VS.small hv).2 (by omega)).mono ?_
    rintro _ _ ⟨rfl, rfl⟩
    refine ⟨_, rfl, ?_, rfl⟩
    cases hh : hasS s 9
    · exact (decide_eq_true ⟨hv, rfl⟩).symm
    · exact (decide_eq_false (fun h => by cases h.2)).symm
  rintro (b : Bool) w ⟨rfl, rfl⟩
  refine JoinW.cut1 (fun (b : Bool) w' => b = decide (SS s) ∧ w' = w) ?_ ?_
  · refine BIf.dec (fun hv => ?_) (fun hv => ⟨(decide_eq_false (fun h => hv ⟨h.1, h.2.1⟩)).symm, rfl⟩)
    refine (c143 (n := 12) (VS.small hv.1).1 (VS.small hv.1).2 (by omega)).mono ?_
    rintro _ _ ⟨rfl, rfl⟩
    refine ⟨_, rfl, ?_, rfl⟩
    cases hh : hasS s 12
    · exact (decide_eq_true ⟨hv.1, hv.2, hh⟩).symm
    · exact (decide_eq_false (fun h => by rw [h.2.2] at hh; cases hh)).symm
  · rintro (b : Bool) w ⟨rfl, rfl⟩
    exact ⟨rfl, rfl⟩
/-- The place of a process. -/
theorem c102 {t : Sl} {l : List DProc} {id : Int} {w : World} (h : QAt w t l) : CallW Try.prog 102 #[.agg #[.slice t.a t.len t.cap], .int .i64 id] w (fun v w' => v = .int .i64 (ixP l id) ∧ Ext w w') := by
  refine go102 ?_
  unfold W102
  have hs := SH.start w
  refine hs.alloc (fun w1 hs e1 n1 => ?_)
  have h1 := h.ext hs.ext
  have e1 := hs.ext
  have hfew := h.few
  have htl := h.tl
  refine LoopW.m1 (fun (i : Int) w' => 0 ≤ i ∧ i ≤ t.len ∧ idxFrom (fun x : DProc => x.Id == id) (l.drop i.toNat) i.toNat = ixP l id ∧ w' = w1) (fun (i : Int) _ => (t.len - i).toNat) ⟨by omega, by omega, rfl, rfl⟩ ?_
  rintro (i : Int) w1 ⟨hi0, hi1, hr, rfl⟩ J hJ
  obtain ⟨k, rfl⟩ := Int.eq_ofNat_of_zero_le hi0
  rw [Int.toNat_natCast] at hr ⊢
  refine ⟨t, hs.cell 0 rfl rfl, BIf.dec (fun hlt => ?_) (fun hge => ?_)⟩
  · have hk : k < l.length := by omega
    have hget : l[k]? = some l[k] := List.getElem?_eq_getElem hk
    obtain ⟨p, hp, hc⟩ := h1.pr hget
    rw [idxFrom_step _ _ _ hk] at hr
    refine ⟨t, hs.cell 0 rfl rfl, hi0, hlt, p, hp, _, hc 0 _ rfl, BIf.eq (fun e => ?_) (fun e => ?_)⟩
    · rw [if_pos (by simpa using e)] at hr
      exact ⟨by rw [hr], e1⟩
    · rw [if_neg (by simpa using e)] at hr
      rw [w64 (by omega) (by omega)]
      exact hJ _ _ ⟨by omega, by omega, hr, rfl⟩ (by omega)
  · rw [idxFrom_end _ _ _ (by omega)] at hr
    exact ⟨by rw [← hr], e1⟩
def livesP (l : List DProc) (id : Int) : Bool := match prOf l id with
  | none => false
  | some x => x.State != 3
theorem c101 {t : Sl} {l : List DProc} {id : Int} {w : World} (h : QAt w t l) : CallW Try.prog 101 #[.agg #[.slice t.a t.len t.cap], .int .i64 id] w (fun v w' => v = .bool (livesP l id) ∧ Ext w w') := by
  refine go101 ?_
  unfold W101
  have hs := SH.start w
  refine hs.alloc (fun w1 hs e1 n1 => ?_)
  refine ⟨t, hs.cell 0 rfl rfl, (c102 (h.ext hs.ext)).mono ?_⟩
  rintro _ w4 ⟨rfl, e4⟩
  have hs := hs.to e4
  have htl := h.tl
  refine ⟨_, rfl, ?_⟩
  unfold livesP
  rcases ixP_find l id with ⟨h1, h2⟩ | ⟨i, x, h1, h2, h3⟩
  · rw [h1, h2]
    exact JoinW.each (BIf.f rfl ⟨rfl, hs.ext⟩)
  · have hil := (List.getElem?_eq_some_iff.1 h2).1
    rw [h1, h3]
    obtain ⟨p, hp, hc⟩ := (h.ext hs.ext).pr h2
    rw [Int.toNat_natCast]
    exact JoinW.each (BIf.t (decide_eq_true (by omega)) ⟨t, hs.cell 0 rfl rfl, by omega, by omega, p, hp, _, hc 4 _ rfl, rfl, hs.ext⟩)
end Go.Proofs.Yteigefjiifihpaa

/- Processes, the reference's side: one process held against the rules; the chain of parents, plain. Conditions: none. -/
set_option linter.unusedVariables false
set_option linter.unusedSimpArgs false
namespace Go.Proofs.Yteigefjiifihpaa
open Go Go.Den
def OneP (l : List DProc) (i : Nat) (x : DProc) : Prop := PrOk x ∧ ∀ z, 0 < i → l[i - 1]? = some z → z.Id < x.Id
def Num1 (l : List DProc) (i : Nat) (x : DProc) : Prop := 1 ≤ x.Id ∧ x.Id ≤ 32 ∧ (∀ z, 0 < i → l[i - 1]? = some z → z.Id < x.Id) ∧ (1 ≤ x.Group ∧ x.Group ≤ 32) ∧ 0 ≤ x.User ∧ x.User ≤ 255
def Num2 (x : DProc) : Prop := (1 ≤ x.State ∧ x.State ≤ 3) ∧ (0 ≤ x.Status ∧ x.Status ≤ 255) ∧ (x.State ≠ 3 → x.Status = 0)
theorem OneP.num1 {l : List DProc} {i : Nat} {x : DProc} (h : OneP l i x) : Num1 l i x := ⟨h.1.id.1, h.1.id.2, h.2, h.1.grp, h.1.usr⟩
theorem OneP.num2 {l : List DProc} {i : Nat} {x : DProc} (h : OneP l i x) : Num2 x := ⟨h.1.st, h.1.stat, h.1.stz⟩
theorem c100 {t : Sl} {l : List DProc} {i : Nat} {x : DProc} {w : World} (h : QAt w t l) (hx : l[i]? = some x) : CallW Try.prog 100 #[.agg #[.slice t.a t.len t.cap], .int .i64 (i : Int)] w (fun v w' => ∃ b, v = .bool b ∧ (b = true ↔ OneP l i x) ∧ Ext w w') := by
  refine go100 ?_
  unfold W100
  have hil := (List.getElem?_eq_some_iff.1 hx).1
  have htl := h.tl
  have hfew := h.few
  have hs := SH.start w
  refine hs.alloc (fun w1 hs e1 n1 => ?_)
  obtain ⟨p, hp, hc⟩ := (h.ext hs.ext).pr hx
  rw [Int.toNat_natCast]
  refine ⟨t, hs.cell 0 rfl rfl, by omega, by omega, p, hp, _, hc 0 _ rfl, _, hc 1 _ rfl, _, hc 2 _ rfl, _, hc 3 _ rfl, _, hc 4 _ rfl, _, hc 5 _ rfl, _, hc 6 _ rfl, _, hc 7 _ rfl, _, hc 8 _ rfl, _, hc 9 _ rfl, ?_⟩
  refine hs.alloc (fun w14 hs e14 n14 => ?_)
  refine hs.put 0 rfl rfl rfl (fun w15 hs n15 => ?_)
  have hs := hs.drew
  refine JoinW.cut1 (fun (b : Bool) w' => (b = true ↔ ¬ Num1 l i x) ∧ w' = w15.drew) ?_ ?_
  · refine ⟨_, hs.cell 0 rfl rfl, BIf.dec (fun hlt => ⟨iff_of_true rfl (fun h => by have := h.1; omega), rfl⟩) (fun h1 => ⟨_, hs.cell 0 rfl rfl, BIf.dec (fun hlt => ⟨iff_of_true rfl (fun h => by have := h.2.1; omega), rfl⟩) (fun h2 => ?_)⟩)⟩
    refine BIf.dec (fun hpos => ?_) (fun h0 => ?_)
    · have hgz : l[i - 1]? = some l[i - 1] := List.getElem?_eq_getElem (by omega)
      obtain ⟨q, hq, hcz⟩ := (h.ext hs.ext).pr hgz
      rw [w64 (n := (i : Int) - 1) (by omega) (by omega), show ((i : Int) - 1).toNat = i - 1 by omega]
      generalize l[i - 1] = z at *
      refine ⟨t, hs.cell 1 rfl rfl, by omega, by omega, q, hq, _, hcz 0 _ rfl, _, hs.cell 0 rfl rfl, BIf.dec (fun hge => ⟨iff_of_true rfl (fun h => by have := h.2.2.1 z (by omega) hgz; omega), rfl⟩) (fun h3 => ?_)⟩
      refine ⟨_, hs.cell 0 rfl rfl, BIf.dec (fun hlt => ⟨iff_of_true rfl (fun h => by have := h.2.2.2.1; omega), rfl⟩) (fun h4 => ⟨_, hs.cell 0 rfl rfl, BIf.dec (fun hlt => ⟨iff_of_true rfl (fun h => by have := h.2.2.2.1; omega), rfl⟩) (fun h5 => ⟨_, hs.cell 0 rfl rfl, BIf.dec (fun hlt => ⟨iff_of_true rfl (fun h => by have := h.2.2.2.2; omega), rfl⟩) (fun h6 => ⟨_, hs.cell 0 rfl rfl, ?_, rfl⟩)⟩)⟩)⟩
      rw [decide_eq_true_iff]
      refine ⟨fun hh h => by have := h.2.2.2.2; omega, fun hh => Int.not_le.1 (fun h7 => hh ⟨by omega, by omega, fun y _ hy => ?_, by omega, by omega⟩)⟩
      rw [hgz] at hy; cases hy; omega
    · refine ⟨_, hs.cell 0 rfl rfl, BIf.dec (fun hlt => ⟨iff_of_true rfl (fun h => by have := h.2.2.2.1; omega), rfl⟩) (fun h4 => ⟨_, hs.cell 0 rfl rfl, BIf.dec (fun hlt => ⟨iff_of_true rfl (fun h => by have := h.2.2.2.1; omega), rfl⟩) (fun h5 => ⟨_, hs.cell 0 rfl rfl, BIf.dec (fun hlt => ⟨iff_of_true rfl (fun h => by have := h.2.2.2.2; omega), rfl⟩) (fun h6 => ⟨_, hs.cell 0 rfl rfl, ?_, rfl⟩)⟩)⟩)⟩
      rw [decide_eq_true_iff]
      exact ⟨fun hh h => by have := h.2.2.2.2; omega, fun hh => Int.not_le.1 (fun h7 => hh ⟨by omega, by omega, (fun y hp _ => by omega), by omega, by omega⟩)⟩
  rintro (b : Bool) w18 ⟨hb, rfl⟩
  refine BIf.of (fun hbt => ⟨false, rfl, ⟨(fun h => nomatch h), fun h => absurd h.num1 (hb.1 hbt)⟩, hs.ext⟩) (fun hbf => ?_)
  have hn1 : Num1 l i x := Classical.byContradiction (fun hn => by rw [hb.2 hn] at hbf; cases hbf)
  refine ⟨_, hs.cell 0 rfl rfl, ?_⟩
  refine join_or_ex _ (hs.cell 0 rfl rfl) ?_
  refine join_or_ex _ (hs.cell 0 rfl rfl) ?_
  refine join_or_ex _ (hs.cell 0 rfl rfl) ?_
  refine JoinW.cut1 (fun (b : Bool) w' => (b = true ↔ ¬ Num2 x) ∧ w' = w15.drew) ?_ ?_
  · refine BIf.of (fun hbt => ⟨iff_of_true rfl (fun h => ?_), rfl⟩) (fun hbf => ⟨_, hs.cell 0 rfl rfl, BIf.ne (fun hz => ⟨_, hs.cell 0 rfl rfl, ?_, rfl⟩) (fun hz => ⟨?_, rfl⟩)⟩)
    · simp only [Bool.or_eq_true, decide_eq_true_eq] at hbt
      obtain ⟨h1, h2, _⟩ := h; omega
    · simp only [Bool.or_eq_false_iff, decide_eq_false_iff_not] at hbf
      rw [show ((x.Status != 0) = true ↔ x.Status ≠ 0) by simp]
      exact ⟨fun hh h => hh (h.2.2 hz), fun hh h0 => hh ⟨by omega, by omega, fun _ => h0⟩⟩
    · simp only [Bool.or_eq_false_iff, decide_eq_false_iff_not] at hbf
      exact ⟨(fun hh => nomatch hh), fun hh => absurd ⟨by omega, by omega, fun e => absurd hz e⟩ hh⟩
  rintro (b : Bool) w31 ⟨hb2, rfl⟩
  refine BIf.of (fun hbt => ⟨false, rfl, ⟨(fun h => nomatch h), fun h => absurd h.num2 (hb2.1 hbt)⟩, hs.ext⟩) (fun hbf => ?_)
  have hn2 : Num2 x := Classical.byContradiction (fun hn => by rw [hb2.2 hn] at hbf; cases hbf)
  refine ⟨_, hs.cell 0 rfl rfl, c130.mono ?_⟩
  rintro _ w34 ⟨rfl, rfl⟩
  refine ⟨_, rfl, ?_⟩
  refine join_or_callR _ (hs.cell 0 rfl rfl) c142 ?_
  refine join_or_callR _ (hs.cell 0 rfl rfl) c142 ?_
  refine join_or_callR _ (hs.cell 0 rfl rfl) c142 ?_
  refine BIf.of (fun hbt => ⟨false, rfl, ⟨(fun h => nomatch h), fun h => ?_⟩, hs.ext⟩) (fun hbf => ?_)
  · rw [decide_eq_true h.1.pend, decide_eq_true h.1.mask, decide_eq_true h.1.ign, decide_eq_true h.1.cau] at hbt
    cases hbt
  simp only [Bool.or_eq_false_iff, Bool.not_eq_false', decide_eq_true_eq] at hbf
  obtain ⟨⟨⟨s1, s2⟩, s3⟩, s4⟩ := hbf
  refine LoopW.m1 (fun (i : Int) w' => ∃ m : Nat, i = m ∧ 1 ≤ m ∧ m ≤ 16 ∧ (∀ j, j < m → hasS x.Ignored j = true → hasS x.Caught j = false) ∧ w' = w15.drew) (fun (i : Int) _ => (16 - i).toNat) ⟨1, rfl, by omega, by omega, (fun j hj hh => by have := VS.bit s3.1 hh; omega), rfl⟩ ?_
  rintro (i' : Int) w47 ⟨m, rfl, hm1, hm2, hall, rfl⟩ J hJ
  refine BIf.dec (fun hle => ?_) (fun hgt => ?_)
  · refine ⟨_, hs.cell 0 rfl rfl, (c143 (VS.small s3.1).1 (VS.small s3.1).2 (by omega)).mono ?_⟩
    rintro _ w50 ⟨rfl, rfl⟩
    refine ⟨_, rfl, JoinW.cut1 (fun (b : Bool) w' => b = (hasS x.Ignored m && hasS x.Caught m) ∧ w' = w15.drew) ?_ ?_⟩
    · refine BIf.of (fun ht => ⟨_, hs.cell 0 rfl rfl, (c143 (VS.small s4.1).1 (VS.small s4.1).2 (by omega)).mono ?_⟩) (fun hf => ⟨by rw [hf]; rfl, rfl⟩)
      rintro _ w57 ⟨rfl, rfl⟩
      exact ⟨_, rfl, by rw [ht]; rfl, rfl⟩
    · rintro (b : Bool) w54 ⟨rfl, rfl⟩
      refine BIf.of (fun hbt => ⟨false, rfl, ⟨(fun h => nomatch h), fun h => ?_⟩, hs.ext⟩) (fun hbf => ?_)
      · rw [Bool.and_eq_true] at hbt
        rw [h.1.apart m hbt.1] at hbt
        cases hbt.2
      · rw [w64 (by omega) (by omega)]
        refine hJ _ _ ⟨m + 1, by omega, by omega, by omega, fun j hj hh => ?_, rfl⟩ (by omega)
        rcases Nat.lt_or_eq_of_le (Nat.le_of_lt_succ hj) with hlt | rfl
        · exact hall j hlt hh
        · rw [hh] at hbf; simpa using hbf
  · have hap : ∀ j, hasS x.Ignored j = true → hasS x.Caught j = false := fun j hh => hall j (by have := (VS.bit s3.1 hh).2; omega) hh
    refine ⟨_, hs.cell 0 rfl rfl, ?_⟩
    have hok : (x.State ≠ 3 ∨ (x.Pending = 0 ∧ x.Mask = 0 ∧ x.Ignored = 0 ∧ x.Caught = 0)) ↔ OneP l i x := by
      constructor
      · intro hz
        exact ⟨⟨⟨hn1.1, hn1.2.1⟩, hn1.2.2.2.1, hn1.2.2.2.2, hn2.1, hn2.2.1, hn2.2.2, s1, s2, s3, s4, hap, fun e => hz.elim (fun h => absurd e h) id⟩, hn1.2.2.1⟩
      · intro h
        by_cases hz : x.State = 3
        · exact .inr (h.1.zom hz)
        · exact .inl hz
    refine JoinW.each (BIf.ne (fun hz => ⟨true, rfl, iff_of_true rfl (hok.1 (.inl hz)), hs.ext⟩) (fun hz => ⟨_, hs.cell 0 rfl rfl, _, hs.cell 0 rfl rfl, _, hs.cell 0 rfl rfl, _, hs.cell 0 rfl rfl, _, rfl, ?_, hs.ext⟩))
    obtain ⟨p1, p2, _⟩ := s1
    obtain ⟨⟨q1, q2, _⟩, _⟩ := s2
    obtain ⟨⟨r1, r2, _⟩, _⟩ := s3
    obtain ⟨⟨u1, u2, _⟩, _⟩ := s4
    rw [w64 (n := x.Pending + x.Mask) (by omega) (by omega), w64 (n := x.Pending + x.Mask + x.Ignored) (by omega) (by omega), w64 (by omega) (by omega), beq_iff_eq, ← hok]
    exact ⟨fun h => .inr ⟨by omega, by omega, by omega, by omega⟩, fun h => by rcases h with h | h; exact absurd hz h; omega⟩
end Go.Proofs.Yteigefjiifihpaa

/- Processes, plain law: the chains of parents. Conditions: none. -/
set_option linter.unusedVariables false
set_option linter.unusedSimpArgs false
namespace Go.Proofs.Yteigefjiifihpaa
open Go Go.Den
def parP (l : List DProc) (a : Int) : Int := match prOf l a with
  | some x => x.Parent
  | none => 0
/-- From a, the first is reached in k steps at the most. -/
def reachP (l : List DProc) : Nat → Int → Prop
  | 0, a => a = 1
  | k + 1, a => a = 1 ∨ reachP l k (parP l a)
def stepsP (l : List DProc) : Nat → Int → Nat
  | 0, _ => 0
  | k + 1, a => if a = 1 then 0 else stepsP l k (parP l a) + 1
theorem reachP_one (l : List DProc) : ∀ k, reachP l k 1
  | 0 => rfl
  | _ + 1 => .inl rfl
theorem reachP_up {l : List DProc} : ∀ {k : Nat} {a : Int}, reachP l k a → ∀ m, k ≤ m → reachP l m a
  | 0, a, h, m, _ => by rw [show a = 1 from h]; exact reachP_one l m
  | k + 1, a, h, m, hm => by
    obtain ⟨n, rfl⟩ : ∃ n, m = n + 1 := ⟨m - 1, by omega⟩
    rcases h with h | h
    · exact .inl h
    · exact .inr (reachP_up h n (by omega))
theorem stepsP_same {l : List DProc} : ∀ {k : Nat} {a : Int}, reachP l k a → ∀ m, k ≤ m → stepsP l m a = stepsP l k a
  | 0, a, h, m, _ => by
    cases m with
    | zero => rfl
    | succ m => unfold stepsP; rw [if_pos (show a = 1 from h)]
  | k + 1, a, h, m, hm => by
    obtain ⟨n, rfl⟩ : ∃ n, m = n + 1 := ⟨m - 1, by omega⟩
    unfold stepsP
    by_cases h1 : a = 1
    · rw [if_pos h1, if_pos h1]
    · rw [if_neg h1, if_neg h1, stepsP_same (h.resolve_left h1) n (by omega)]
theorem PInv.reach {l : List DProc} (h : PInv l) : ∀ x, x ∈ l → reachP l (l.length - 1) x.Id := by
  obtain ⟨r, hr⟩ := h.rank
  have key : ∀ (n : Nat) x, x ∈ l → (l.filter (fun y => decide (r y.Id < r x.Id))).length = n → reachP l n x.Id := by
    intro n
    induction n using Nat.strongRecOn with
    | _ n ih =>
    intro x hx hn
    by_cases h1 : x.Id = 1
    · rw [h1]; exact reachP_one l n
    obtain ⟨q, hq, g1, g2⟩ := h.par x hx h1
    have hlt := hr x hx h1
    rw [← g1] at hlt
    have hc : (l.filter (fun y => decide (r y.Id < r q.Id))).length < n := by
      rw [← hn]
      exact filter_lt l (fun y hy hyq => by have := of_decide_eq_true hyq; exact decide_eq_true (by omega)) ⟨q, hq, decide_eq_false (by omega), decide_eq_true hlt⟩
    have := reachP_up (ih _ hc q hq rfl) (n - 1) (by omega)
    obtain ⟨m, rfl⟩ : ∃ m, n = m + 1 := ⟨n - 1, by omega⟩
    refine .inr ?_
    have hp : parP l x.Id = q.Id := by
      unfold parP
      rw [show prOf l x.Id = some x from h.srt.find hx, g1]
    rw [hp]; exact this
  intro x hx
  refine reachP_up (key _ x hx rfl) _ ?_
  have := filter_lt (p := fun y : DProc => decide (r y.Id < r x.Id)) (q := fun _ => true) l (fun _ _ _ => rfl) ⟨x, hx, decide_eq_false (by omega), rfl⟩
  rw [List.filter_eq_self.2 (fun _ _ => rfl)] at this
  omega
structure POkL (k : Nat) (l : List DProc) : Prop where
  len : 1 ≤ l.length ∧ l.length ≤ 32
  one : ∀ i x, l[i]? = some x → OneP l i x
  head : ∃ x, l[0]? = some x ∧ x.Id = 1 ∧ x.Parent = 0 ∧ x.State ≠ 3
  par : ∀ (i : Nat) x, l[i]? = some x → 0 < i → livesP l x.Parent = true
  reach : ∀ (i : Nat) x, l[i]? = some x → reachP l k x.Id
theorem livesP_iff {l : List DProc} {a : Int} : livesP l a = true ↔ ∃ q, prOf l a = some q ∧ q.State ≠ 3 := by
  unfold livesP
  constructor
  · intro h
    split at h
    · cases h
    · rename_i x hx; exact ⟨x, hx, by simpa using h⟩
  · rintro ⟨q, hq, hz⟩; rw [hq]; simpa using hz
theorem POkL.inv {k : Nat} {l : List DProc} (h : POkL k l) : PInv l := by
  have hs : Srt DProc.Id l := srt_of (fun i y hy z h0 hz => (h.one i y hy).2 z h0 hz)
  obtain ⟨x1, hx1, g1, g2, g3⟩ := h.head
  have hpos : ∀ (i : Nat) x, l[i]? = some x → x.Id ≠ 1 → 0 < i := fun i x hx h1 => by
    refine Nat.pos_of_ne_zero (fun e => ?_)
    subst e
    rw [hx1] at hx; cases hx; exact h1 g1
  have hpar : ∀ x, x ∈ l → x.Id ≠ 1 → ∃ q, prOf l x.Parent = some q ∧ q.State ≠ 3 := fun x hx h1 => by
    obtain ⟨i, hi⟩ := List.getElem?_of_mem hx
    exact livesP_iff.1 (h.par i x hi (hpos i x hi h1))
  refine ⟨hs, fun x hx => ?_, h.head, fun x hx h1 => ?_, stepsP l k, fun x hx h1 => ?_⟩
  · obtain ⟨i, hi⟩ := List.getElem?_of_mem hx; exact (h.one i x hi).1
  · obtain ⟨q, hq, hz⟩ := hpar x hx h1
    exact ⟨q, (prOf_some hq).1, (prOf_some hq).2, hz⟩
  · obtain ⟨q, hq, hz⟩ := hpar x hx h1
    have hp : parP l x.Id = x.Parent := by
      unfold parP
      rw [show prOf l x.Id = some x from hs.find hx]
    obtain ⟨i, hi⟩ := List.getElem?_of_mem hx
    have hr := h.reach i x hi
    cases k with
    | zero => exact absurd hr h1
    | succ k =>
      have hr' := hr.resolve_left h1
      rw [hp] at hr'
      have := stepsP_same hr' (k + 1) (by omega)
      rw [this]
      show stepsP l k x.Parent < if x.Id = 1 then 0 else stepsP l k (parP l x.Id) + 1
      rw [if_neg h1, hp]; omega
theorem PInv.one {l : List DProc} (h : PInv l) (i : Nat) (x : DProc) (hx : l[i]? = some x) : OneP l i x := ⟨h.ok x (List.mem_of_getElem? hx), fun z h0 hz => h.srt.lt hz hx (by omega)⟩
theorem PInv.lives {l : List DProc} (h : PInv l) (i : Nat) (x : DProc) (hx : l[i]? = some x) (h0 : 0 < i) : livesP l x.Parent = true := by
  have h1 : x.Id ≠ 1 := by have := h.fill hx; omega
  obtain ⟨j, u, _, _, hz, _, hu⟩ := h.up (List.mem_of_getElem? hx) h1
  exact livesP_iff.2 ⟨u, hu, hz⟩
theorem PInv.okL {l : List DProc} (h : PInv l) {k : Nat} (hk : l.length ≤ k + 1) : POkL k l :=
  ⟨h.len, h.one, h.head, h.lives, fun i x hx => reachP_up (h.reach x (List.mem_of_getElem? hx)) k (by omega)⟩
/-- What a check answers. -/
def KPr (l : List DProc) (w : World) (v : Value) (w' : World) : Prop := ∃ b, v = .bool b ∧ (b = true ↔ PInv l) ∧ Ext w w'
theorem KPr.no {l : List DProc} {w w' : World} (h : ¬ PInv l) (e : Ext w w') : KPr l w (.bool false) w' := ⟨false, rfl, ⟨(fun h => nomatch h), fun hh => absurd hh h⟩, e⟩
theorem c57 {t : Sl} {l : List DProc} {w : World} (h : QAt w t l) : CallW Try.prog 57 #[.agg #[.slice t.a t.len t.cap]] w (KPr l w) := by
  refine go57 ?_
  unfold W57
  have htl := h.tl
  have hfew := h.few
  have hs := SH.start w
  refine hs.alloc (fun w1 hs e1 n1 => ?_)
  have h1 := h.ext hs.ext
  refine ⟨t, hs.cell 0 rfl rfl, ?_⟩
  refine join_or_ex t (hs.cell 0 rfl rfl) ?_
  by_cases hlen : l.length = 0 ∨ 32 < l.length
  · have hb : (((t.len : Int) == 0) || decide ((t.len : Int) > 32)) = true := by
      rw [Bool.or_eq_true, beq_iff_eq, decide_eq_true_iff]; omega
    rw [hb]
    refine JoinW.each (BIf.t rfl (JoinW.each (BIf.t rfl (JoinW.each (BIf.t rfl (BIf.t rfl (KPr.no (fun hh => by have := hh.len; omega) hs.ext)))))))
  have hb : (((t.len : Int) == 0) || decide ((t.len : Int) > 32)) = false := by
    rw [Bool.or_eq_false_iff, beq_eq_false_iff_ne, decide_eq_false_iff_not]; omega
  rw [hb]
  have hg0 : l[0]? = some l[0] := List.getElem?_eq_getElem (by omega)
  obtain ⟨p, hp, hc⟩ := h1.pr hg0
  have hnohead : ¬ (l[0].Id = 1 ∧ l[0].Parent = 0 ∧ l[0].State ≠ 3) → ¬ PInv l := fun hn hh => by
    obtain ⟨y, hy, g⟩ := hh.head
    rw [hg0] at hy; cases hy; exact hn g
  generalize l[0] = x0 at *
  refine JoinW.each (BIf.f rfl ⟨t, hs.cell 0 rfl rfl, by omega, by omega, p, hp, _, hc 0 _ rfl, ?_⟩)
  have hsx := hs.ext
  refine JoinW.each (BIf.ne (fun hne => ?_) (fun h0id => ⟨t, hs.cell 0 rfl rfl, by omega, by omega, p, hp, _, hc 1 _ rfl, ?_⟩))
  · exact JoinW.each (BIf.t rfl (BIf.t rfl (KPr.no (hnohead (fun g => hne g.1)) hs.ext)))
  refine JoinW.each (BIf.ne (fun hne => ?_) (fun h0par => ⟨t, hs.cell 0 rfl rfl, by omega, by omega, p, hp, _, hc 4 _ rfl, ?_⟩))
  · exact BIf.t rfl (KPr.no (hnohead (fun g => hne g.2.1)) hs.ext)
  refine BIf.eq (fun h0st => KPr.no (hnohead (fun g => g.2.2 h0st)) hs.ext) (fun h0st => ?_)
  refine LoopW.m1 (fun (i : Int) w' => ∃ m : Nat, i = m ∧ m ≤ l.length ∧ (∀ (j : Nat) x, j < m → l[j]? = some x → OneP l j x ∧ (0 < j → livesP l x.Parent = true)) ∧ SH w w' [aB w.heap.size ([.slice t.a t.len t.cap].map Ce.v)]) (fun (i : Int) _ => (l.length - i).toNat) ⟨0, rfl, by omega, (fun j x hj => absurd hj (Nat.not_lt_zero _)), hs⟩ ?_
  clear hs
  rintro (i : Int) w17 ⟨m, rfl, hm, hall, hs⟩ J hJ
  refine ⟨t, hs.cell 0 rfl rfl, BIf.dec (fun hlt => ?_) (fun hge => ?_)⟩
  · have hget : l[m]? = some l[m] := List.getElem?_eq_getElem (by omega)
    generalize l[m] = x at *
    refine JoinW.cut1 (fun (b : Bool) w' => (b = false ↔ (OneP l m x ∧ (0 < m → livesP l x.Parent = true))) ∧ SH w w' [aB w.heap.size ([.slice t.a t.len t.cap].map Ce.v)]) ?_ ?_
    · have hs := hs.drew
      refine ⟨t, hs.cell 0 rfl rfl, (c100 (h.ext hs.ext) hget).mono ?_⟩
      rintro _ w24 ⟨b, rfl, hb, e24⟩
      have hs := hs.to e24
      refine ⟨b, rfl, BIf.not (BIf.of (fun hbt => ?_) (fun hbf => ⟨⟨(fun hh => nomatch hh), fun hh => by rw [hb.2 hh.1] at hbf; cases hbf⟩, hs⟩))⟩
      refine BIf.dec (fun hpos => ?_) (fun h0 => ⟨iff_of_true rfl ⟨hb.1 hbt, fun hh => by omega⟩, hs⟩)
      obtain ⟨q, hq, hcx⟩ := (h.ext hs.ext).pr hget
      rw [Int.toNat_natCast]
      refine ⟨t, hs.cell 0 rfl rfl, t, hs.cell 0 rfl rfl, by omega, hlt, q, hq, _, hcx 1 _ rfl, (c101 (h.ext hs.ext)).mono ?_⟩
      rintro _ w31 ⟨rfl, e31⟩
      refine ⟨_, rfl, ?_, hs.to e31⟩
      rw [Bool.not_eq_false']
      exact ⟨fun hh => ⟨hb.1 hbt, fun _ => hh⟩, fun hh => hh.2 (by omega)⟩
    · rintro (b : Bool) w21 ⟨hb, hs⟩
      refine BIf.of (fun hbt => KPr.no (fun hh => ?_) hs.ext) (fun hbf => ?_)
      · rw [hb.2 ⟨hh.one m x hget, hh.lives m x hget⟩] at hbt; cases hbt
      · rw [w64 (by omega) (by omega)]
        refine hJ _ _ ⟨m + 1, by omega, by omega, fun j y hj hy => ?_, hs⟩ (by omega)
        rcases Nat.lt_or_eq_of_le (Nat.le_of_lt_succ hj) with hlt | rfl
        · exact hall j y hlt hy
        · rw [hget] at hy; cases hy; exact hb.1 hbf
  · have hmm : m = l.length := by omega
    subst hmm
    have hone : ∀ (j : Nat) x, l[j]? = some x → OneP l j x ∧ (0 < j → livesP l x.Parent = true) := fun j x hx => hall j x (List.getElem?_eq_some_iff.1 hx).1 hx
    clear hJ J hall
    refine LoopW.m1 (fun (i : Int) w' => ∃ m : Nat, i = m ∧ m ≤ l.length ∧ (∀ (j : Nat) x, j < m → l[j]? = some x → reachP l (l.length + 1) x.Id) ∧ SH w w' [aB w.heap.size ([.slice t.a t.len t.cap].map Ce.v)]) (fun (i : Int) _ => (l.length - i).toNat) ⟨0, rfl, by omega, (fun j x hj => absurd hj (Nat.not_lt_zero _)), hs⟩ ?_
    clear hs
    rintro (i : Int) w35 ⟨m, rfl, hm, hall, hs⟩ J hJ
    refine ⟨t, hs.cell 0 rfl rfl, BIf.dec (fun hlt => ?_) (fun hge => ?_)⟩
    · have hget : l[m]? = some l[m] := List.getElem?_eq_getElem (by omega)
      generalize l[m] = x at *
      obtain ⟨q, hq, hcx⟩ := (h.ext hs.ext).pr hget
      rw [Int.toNat_natCast]
      refine ⟨t, hs.cell 0 rfl rfl, by omega, hlt, q, hq, _, hcx 0 _ rfl, ?_⟩
      refine LoopW.m2 (fun (a n : Int) w' => ∃ k : Nat, n = k ∧ k ≤ l.length + 1 ∧ (a ≠ 1 → ∃ y, prOf l a = some y) ∧ (reachP l (l.length + 1) x.Id ↔ reachP l (l.length + 1 - k) a) ∧ SH w w' [aB w.heap.size ([.slice t.a t.len t.cap].map Ce.v)]) (fun _ (n : Int) _ => (l.length + 1 - n).toNat) ⟨0, rfl, by omega, fun _ => ?_, Iff.rfl, hs⟩ ?_
      · rcases ixP_find l x.Id with ⟨_, h2⟩ | ⟨_, y, _, _, h3⟩
        · exact absurd rfl (prOf_none h2 x (List.mem_of_getElem? hget))
        · exact ⟨y, h3⟩
      clear hs
      rintro (a : Int) (n : Int) w43 ⟨k, rfl, hk, hex, hrc, hs⟩ J2 hJ2
      refine ⟨t, hs.cell 0 rfl rfl, join_and.2 ?_⟩
      refine BIf.of (fun hc => ?_) (fun hc => ?_)
      · simp only [Bool.and_eq_true, decide_eq_true_eq, bne_iff_ne, ne_eq] at hc
        have hs := hs.drew
        obtain ⟨y, hy⟩ := hex hc.2
        refine ⟨t, hs.cell 0 rfl rfl, t, hs.cell 0 rfl rfl, (c102 (h.ext hs.ext)).mono ?_⟩
        rintro _ w51 ⟨rfl, e51⟩
        have hs := hs.to e51
        rcases ixP_find l a with ⟨_, h2⟩ | ⟨j, y', g1, g2, g3⟩
        · rw [hy] at h2; cases h2
        rw [hy] at g3; cases g3
        have hjl := (List.getElem?_eq_some_iff.1 g2).1
        obtain ⟨r, hr, hcy⟩ := (h.ext hs.ext).pr g2
        rw [g1]
        refine ⟨_, rfl, ⟨t, hs.cell 0 rfl rfl, rfl⟩, by omega, by omega, ?_⟩
        rw [Int.toNat_natCast]
        refine ⟨r, hr, _, hcy 1 _ rfl, ?_⟩
        rw [w64 (by omega) (by omega)]
        have hpa : parP l a = y.Parent := by unfold parP; rw [hy]
        refine hJ2 _ _ _ ⟨k + 1, by omega, by omega, fun hy1 => ?_, ?_, hs⟩ (by omega)
        · by_cases hj0 : j = 0
          · subst hj0
            rw [hg0] at g2; cases g2
            exact absurd ((prOf_some hy).2.symm.trans h0id) hc.2
          · obtain ⟨z, hz, _⟩ := livesP_iff.1 ((hone j y g2).2 (by omega))
            exact ⟨z, hz⟩
        · rw [hrc, show l.length + 1 - k = (l.length + 1 - (k + 1)) + 1 by omega]
          show (a = 1 ∨ reachP l _ (parP l a)) ↔ _
          rw [hpa]
          exact ⟨fun hh => hh.resolve_left hc.2, .inr⟩
      · refine BIf.ne (fun hne => ?_) (fun heq => ?_)
        · refine KPr.no (fun hh => ?_) hs.ext
          have h1 : ¬ ((k : Int) ≤ t.len) := fun hle => by
            rw [Bool.and_eq_false_iff] at hc
            rcases hc with hc | hc
            · exact of_decide_eq_false hc hle
            · rw [bne_eq_false_iff_eq] at hc; exact hne hc
          have := hrc.1 ((hh.okL (k := l.length + 1) (by omega)).reach m x hget)
          rw [show l.length + 1 - k = 0 by omega] at this
          exact hne this
        · rw [w64 (by omega) (by omega)]
          refine hJ _ _ ⟨m + 1, by omega, by omega, fun j y hj hy => ?_, hs⟩ (by omega)
          rcases Nat.lt_or_eq_of_le (Nat.le_of_lt_succ hj) with hlt | rfl
          · exact hall j y hlt hy
          · rw [hget] at hy; cases hy
            refine hrc.2 ?_
            rw [heq]; exact reachP_one l _
    · refine ⟨true, rfl, iff_of_true rfl (POkL.inv (k := l.length + 1) ⟨by omega, fun j x hx => (hone j x hx).1, ⟨x0, hg0, h0id, h0par, h0st⟩, fun j x hx hj => (hone j x hx).2 hj, fun j x hx => hall j x (by have := (List.getElem?_eq_some_iff.1 hx).1; omega) hx⟩), hs.ext⟩
end Go.Proofs.Yteigefjiifihpaa

/- Processes, the reference's side: a signal sent, one taken out, an end. Conditions: none. -/
set_option linter.unusedVariables false
set_option linter.unusedSimpArgs false
namespace Go.Proofs.Yteigefjiifihpaa
open Go Go.Den
abbrev pAgg (t : Sl) : Value := .agg #[.slice t.a t.len t.cap]
abbrev BX (b : Nat) (x : DProc) : Asr := aB b (x.cells.map Ce.v)
abbrev BS (b : Nat) (t : Sl) : Asr := aB b ([Value.slice t.a t.len t.cap].map Ce.v)
/-- Processes handed by value. -/
def KP (w0 : World) (F : List Asr) (l : List DProc) (v : Value) (w' : World) : Prop := ∃ t : Sl, v = pAgg t ∧ SH w0 w' (RP t l :: F)
def KPR (w0 : World) (F : List Asr) (r : PRes) (v : Value) (w' : World) : Prop := ∃ t : Sl, v = .tuple #[pAgg t, .agg #[.int .i64 r.2.1, .int .i64 r.2.2.1, .int .i64 r.2.2.2]] ∧ SH w0 w' (RP t r.1 :: F)
def pend1 (x : DProc) (sig : Nat) : Int := if sig = 13 then lessS x.Pending 12 else x.Pending
def pend2 (x : DProc) (sig : Nat) : Int := if sig = 12 then lessS (pend1 x sig) 13 else pend1 x sig
def pend3 (x : DProc) (sig : Nat) : Int := if hasS x.Ignored sig = true then pend2 x sig else withS (pend2 x sig) sig
theorem pend_eq (x : DProc) (sig : Nat) : sendX x sig = ⟨x.Id, x.Parent, x.Group, x.User, if sig = 13 then 1 else x.State, x.Status, pend3 x sig, x.Mask, x.Ignored, x.Caught⟩ := by
  have : pend2 x sig = (if sig = 12 then lessS x.Pending 13 else if sig = 13 then lessS x.Pending 12 else x.Pending) := by
    unfold pend2 pend1
    by_cases h : sig = 12
    · subst h; rfl
    · rw [if_neg h, if_neg h]
  unfold pend3 sendX
  rw [this]
  split <;> rfl
theorem pend_vs {x : DProc} (h : PrOk x) (sig : Nat) : VS (pend1 x sig) ∧ VS (pend2 x sig) := by
  have h1 : VS (pend1 x sig) := by
    unfold pend1
    split
    · exact VS.less h.pend (by omega)
    · exact h.pend
  refine ⟨h1, ?_⟩
  unfold pend2
  split
  · exact VS.less h1 (by omega)
  · exact h1
theorem sendF_at {l : List DProc} {i sig : Nat} {x : DProc} (hx : l[i]? = some x) : sendF l i sig = l.set i (sendY sig x) := by unfold sendF; rw [hx]
theorem s151 {w0 w : World} {F : List Asr} {t : Sl} {l : List DProc} {i : Nat} {x : DProc} {sig : Nat} (h : SH w0 w (RP t l :: F)) (hx : l[i]? = some x) (ho : PrOk x) (hs1 : 1 ≤ sig) (hs2 : sig ≤ 15) (hf : l.length ≤ 1048576) :
    CallW Try.prog 151 #[pAgg t, .int .i64 (i : Int), .int .i64 (sig : Int)] w (fun v w' => v = .tuple #[] ∧ SH w0 w' (RP t (sendF l i sig) :: F)) := by
  refine go151 ?_
  unfold W151
  have hil := (List.getElem?_eq_some_iff.1 hx).1
  have htl := h.len 0 rfl
  rw [recs_len] at htl
  obtain ⟨q, hqa⟩ := h.rowQ 0 rfl hx
  simp only [Int.toNat_natCast]
  rw [sendF_at hx]
  refine h.alloc (fun w1 h e1 n1 => ?_)
  refine ⟨t, h.cell 0 rfl rfl, by omega, by omega, q, hqa, _, h.rdR 1 rfl hqa hx rfl, _, h.rdR 1 rfl hqa hx rfl, _, h.rdR 1 rfl hqa hx rfl, _, h.rdR 1 rfl hqa hx rfl, _, h.rdR 1 rfl hqa hx rfl, _, h.rdR 1 rfl hqa hx rfl, _, h.rdR 1 rfl hqa hx rfl, _, h.rdR 1 rfl hqa hx rfl, _, h.rdR 1 rfl hqa hx rfl, _, h.rdR 1 rfl hqa hx rfl, ?_⟩
  refine h.alloc (fun w14 h e14 n14 => ?_)
  refine h.put 0 rfl rfl rfl (fun w15 h n15 => ?_)
  refine ⟨_, h.cell 0 rfl rfl, BIf.eq (fun hz => ⟨trivial, ?_⟩) (fun hz => ?_)⟩
  · unfold sendY
    rw [if_pos hz, ← set_at hx]
    exact ((h.dropAt 1).dropAt 0)
  obtain ⟨v1, v2⟩ := pend_vs ho sig
  have hy : sendY sig x = ⟨x.Id, x.Parent, x.Group, x.User, if sig = 13 then 1 else x.State, x.Status, pend3 x sig, x.Mask, x.Ignored, x.Caught⟩ := by
    unfold sendY; rw [if_neg hz, pend_eq]
  rw [hy]
  refine JoinW.cut0 (fun w' => SH w0 w' (BX w1.heap.size ⟨x.Id, x.Parent, x.Group, x.User, if sig = 13 then 1 else x.State, x.Status, pend1 x sig, x.Mask, x.Ignored, x.Caught⟩ :: BS w.heap.size t :: RP t l :: F)) ?_ ?_
  · unfold pend1
    refine BIf.eq (fun h13 => ?_) (fun h13 => ?_)
    · rw [if_pos (by omega), if_pos (by omega)]
      refine h.setV 0 rfl rfl (fun w50 h n50 => ?_)
      refine ⟨_, h.cell 0 rfl rfl, (c131 (n := 12) (VS.small ho.pend).1 (VS.small ho.pend).2 (by omega)).mono ?_⟩
      rintro _ w53 ⟨rfl, rfl⟩
      refine ⟨_, rfl, ?_⟩
      exact h.setV 0 rfl rfl (fun w55 h n55 => h)
    · rw [if_neg (by omega), if_neg (by omega)]
      exact h
  clear h
  intro w18 h
  refine JoinW.cut0 (fun w' => SH w0 w' (BX w1.heap.size ⟨x.Id, x.Parent, x.Group, x.User, if sig = 13 then 1 else x.State, x.Status, pend2 x sig, x.Mask, x.Ignored, x.Caught⟩ :: BS w.heap.size t :: RP t l :: F)) ?_ ?_
  · unfold pend2
    refine BIf.eq (fun h12 => ?_) (fun h12 => ?_)
    · rw [if_pos (by omega : sig = 12)]
      refine ⟨_, h.cell 0 rfl rfl, (c131 (n := 13) (VS.small v1).1 (VS.small v1).2 (by omega)).mono ?_⟩
      rintro _ w47 ⟨rfl, rfl⟩
      refine ⟨_, rfl, ?_⟩
      exact h.setV 0 rfl rfl (fun w49 h n49 => h)
    · rw [if_neg (by omega : ¬ sig = 12)]
      exact h
  clear h
  intro w20 h
  refine JoinW.cut0 (fun w' => SH w0 w' (BX w1.heap.size ⟨x.Id, x.Parent, x.Group, x.User, if sig = 13 then 1 else x.State, x.Status, pend3 x sig, x.Mask, x.Ignored, x.Caught⟩ :: BS w.heap.size t :: RP t l :: F)) ?_ ?_
  · refine ⟨_, h.cell 0 rfl rfl, (c143 (VS.small ho.ign.1).1 (VS.small ho.ign.1).2 (by omega)).mono ?_⟩
    rintro _ w38 ⟨rfl, rfl⟩
    unfold pend3
    refine ⟨_, rfl, BIf.not (BIf.of (fun hb => ?_) (fun hb => ?_))⟩
    · rw [if_pos hb]; exact h
    · rw [if_neg (show ¬ hasS x.Ignored sig = true by rw [hb]; decide)]
      refine ⟨_, h.cell 0 rfl rfl, (c154 v2.1 (by have := v2.2.1; omega) (by omega)).mono ?_⟩
      rintro _ w42 ⟨rfl, rfl⟩
      refine ⟨_, rfl, ?_⟩
      exact h.setV 0 rfl rfl (fun w44 h n44 => h)
  clear h
  intro w22 h
  refine ⟨t, h.cell 1 rfl rfl, _, h.cell 0 rfl rfl, _, h.cell 0 rfl rfl, _, h.cell 0 rfl rfl, _, h.cell 0 rfl rfl, _, h.cell 0 rfl rfl, _, h.cell 0 rfl rfl, _, h.cell 0 rfl rfl, _, h.cell 0 rfl rfl, _, h.cell 0 rfl rfl, _, h.cell 0 rfl rfl, by omega, by omega, q, hqa, ?_⟩
  refine h.putR 2 (⟨x.Id, x.Parent, x.Group, x.User, if sig = 13 then 1 else x.State, x.Status, pend3 x sig, x.Mask, x.Ignored, x.Caught⟩ : DProc) rfl hqa hx rfl rfl rfl (fun w35 h n35 => ⟨trivial, ?_⟩)
  exact ((h.dropAt 1).dropAt 0)
theorem s152 {w0 w : World} {F : List Asr} {t : Sl} {l : List DProc} {i : Nat} (h : SH w0 w (RP t l :: F)) (hi : i < l.length) (hf : l.length ≤ 1048576) :
    CallW Try.prog 152 #[pAgg t, .int .i64 (i : Int)] w (KP w0 F (l.take i ++ l.drop (i + 1))) := by
  refine go152 ?_
  unfold W152
  have htl := h.len 0 rfl
  rw [recs_len] at htl
  have htc := h.lenCap 0 rfl
  refine h.alloc (fun w1 h e1 n1 => ?_)
  refine h.alloc (fun w2 h e2 n2 => ?_)
  have h := h.drew
  simp only [Int.toNat_natCast]
  rw [w64 (n := (i : Int) + 1) (by omega) (by omega), show ((i : Int) + 1).toNat = i + 1 by omega]
  refine ⟨t, h.cell 1 rfl rfl, by omega, by omega, t, h.cell 1 rfl rfl, by omega, by omega, ?_⟩
  refine h.alloc (fun w5 h e5 n5 => ?_)
  refine ⟨⟨t, h.cell 2 rfl rfl, rfl⟩, ⟨t, h.cell 2 rfl rfl, rfl⟩, ?_⟩
  have hrow := h.rowR 3 rfl
  have h := h.drop.nil (some ⟨w2.drew.heap.size, 0, none⟩) 10
  refine SH.appendR (f := DProc.cells) (l := []) (us := l.take i) h (hrow.pre (fun _ => rfl) (by omega)) (by simp; omega) (fun _ => rfl) rfl rfl (by decide) (by show (_ + _) * 80 ≤ _; simp; omega) plain_pr (fun l8 w9 h hl8 _ => ?_)
  refine ⟨⟨t, h.cell 2 rfl rfl, rfl⟩, ?_⟩
  have hrow := h.rowR 3 rfl
  refine SH.appendR (f := DProc.cells) (us := l.drop (i + 1)) h (hrow.suf (fun _ => rfl) htl htc (by omega)) (by simp; omega) (fun _ => rfl) rfl rfl (by decide) (by show (_ + _) * 80 ≤ _; simp; omega) plain_pr (fun l11 w12 h hl11 _ => ?_)
  refine h.setV 2 rfl rfl (fun w13 h n13 => ?_)
  refine ⟨l11, h.cell 2 rfl rfl, ?_⟩
  refine h.setV 1 rfl rfl (fun w15 h n15 => ?_)
  refine ⟨l11, h.cell 1 rfl rfl, l11, rfl, ?_⟩
  rw [List.nil_append] at h
  exact (((h.dropAt 3).dropAt 2).dropAt 1)
end Go.Proofs.Yteigefjiifihpaa

/- Processes, the reference's side: the end of one. Conditions: none. -/
set_option linter.unusedVariables false
set_option linter.unusedSimpArgs false
namespace Go.Proofs.Yteigefjiifihpaa
open Go Go.Den
theorem mapTo_get {α : Type} (f : α → α) {l : List α} {m : Nat} {x : α} (hx : l[m]? = some x) : ((l.take m).map f ++ l.drop m)[m]? = some x := by
  have hm := (List.getElem?_eq_some_iff.1 hx).1
  rw [List.getElem?_append_right (by simp; omega)]
  simp [Nat.min_eq_left (Nat.le_of_lt hm), hx]
theorem mapTo_set {α : Type} (f : α → α) {l : List α} {m : Nat} {x : α} (hx : l[m]? = some x) : ((l.take m).map f ++ l.drop m).set m (f x) = (l.take (m + 1)).map f ++ l.drop (m + 1) := by
  obtain ⟨hm, hv⟩ := List.getElem?_eq_some_iff.1 hx
  rw [List.set_append_right _ _ (by simp; omega), List.drop_eq_getElem_cons hm, hv, List.take_add_one, hx, List.map_append]
  simp [Nat.min_eq_left (Nat.le_of_lt hm)]
theorem mapTo_len {α : Type} (f : α → α) (l : List α) (m : Nat) : ((l.take m).map f ++ l.drop m).length = l.length := by simp; omega
theorem any_step {α : Type} (p : α → Bool) {l : List α} {m : Nat} {x : α} (hx : l[m]? = some x) : (l.take (m + 1)).any p = ((l.take m).any p || p x) := by
  rw [List.take_add_one, hx, List.any_append]; simp
theorem s127 {w0 w : World} {F : List Asr} {t : Sl} {l : List DProc} {i : Nat} {x : DProc} {status : Int} (h : SH w0 w (RP t l :: F)) (hv : PInv l) (hx : l[i]? = some x) (hx1 : x.Id ≠ 1) (hs : 0 ≤ status ∧ status ≤ 255) :
    CallW Try.prog 127 #[pAgg t, .int .i64 x.Id, .int .i64 status] w (KP w0 F (endF l x.Id status)) := by
  refine go127 ?_
  unfold W127
  have hlen := hv.len
  have htl := h.len 0 rfl
  rw [recs_len] at htl
  have hid := (hv.ok x (List.mem_of_getElem? hx)).id
  have hid1 : 1 < x.Id := by omega
  refine h.alloc (fun w1 h e1 n1 => ?_)
  refine h.alloc (fun w2 h e2 n2 => ?_)
  have h : SH w0 w2 (aB w1.heap.size ([Value.slice none 0 0].map Ce.v) :: BS w.heap.size t :: RP t ((l.take 0).map (reP x.Id) ++ l.drop 0) :: F) := h
  generalize hidd : x.Id = id at *
  refine LoopW.m2 (fun (b : Bool) (i : Int) w' => ∃ m : Nat, i = m ∧ m ≤ l.length ∧ b = (l.take m).any (fun x => x.Parent == id && x.State == 3) ∧ SH w0 w' (aB w1.heap.size ([Value.slice none 0 0].map Ce.v) :: BS w.heap.size t :: RP t ((l.take m).map (reP id) ++ l.drop m) :: F)) (fun _ (i : Int) _ => (l.length - i).toNat) ⟨0, rfl, by omega, rfl, h⟩ ?_
  clear h
  rintro (b : Bool) (i' : Int) w6 ⟨m, rfl, hm, rfl, h⟩ J hJ
  refine ⟨t, h.cell 1 rfl rfl, BIf.dec (fun hlt => ?_) (fun hge => ?_)⟩
  · have hget : l[m]? = some l[m] := List.getElem?_eq_getElem (by omega)
    have hstep := any_step (fun x : DProc => x.Parent == id && x.State == 3) hget
    have hmg := mapTo_get (reP id) hget
    have hms := mapTo_set (reP id) hget
    generalize l[m] = y at *
    obtain ⟨q, hqa⟩ := h.rowQ 2 rfl hmg
    simp only [Int.toNat_natCast]
    rw [w64 (n := (m : Int) + 1) (by omega) (by omega)]
    refine ⟨t, h.cell 1 rfl rfl, by omega, by omega, q, hqa, _, h.rdR 2 rfl hqa hmg rfl, BIf.eq (fun hpar => ?_) (fun hpar => ?_)⟩
    · have hre : reP id y = ⟨y.Id, 1, y.Group, y.User, y.State, y.Status, y.Pending, y.Mask, y.Ignored, y.Caught⟩ := by unfold reP; rw [if_pos hpar]
      refine ⟨t, h.cell 1 rfl rfl, by omega, by omega, q, hqa, ?_⟩
      rw [set_at hmg] at h
      refine h.setR 2 (reP id y) rfl hqa (by rw [mapTo_len]; omega) (by show 1 < 10; omega) (by rw [hre]; rfl) (fun w13 h n13 => ?_)
      rw [hms] at h
      have hmg2 : ((l.take (m + 1)).map (reP id) ++ l.drop (m + 1))[m]? = some (reP id y) := by rw [← hms]; exact List.getElem?_set_self (by rw [mapTo_len]; omega)
      refine JoinW.cut1 (fun (b : Bool) w' => b = (l.take (m + 1)).any (fun x => x.Parent == id && x.State == 3) ∧ w' = w13) ?_ ?_
      · rw [hstep, hpar]
        refine BIf.of (fun hb => ⟨by rw [hb]; rfl, rfl⟩) (fun hb => ⟨t, h.cell 1 rfl rfl, by omega, by omega, q, hqa, _, h.rdR 2 rfl hqa hmg2 rfl, ?_, rfl⟩)
        rw [hb, hre]; simp
      · rintro (b : Bool) w16 ⟨hb, rfl⟩
        exact hJ _ _ _ ⟨m + 1, by omega, by omega, hb, h⟩ (by omega)
    · have hre : reP id y = y := by unfold reP; rw [if_neg hpar]
      rw [hre] at hms
      rw [← set_at hmg] at hms
      refine hJ _ _ _ ⟨m + 1, by omega, by omega, ?_, by rw [← hms]; exact h⟩ (by omega)
      rw [hstep, show (y.Parent == id) = false by simpa using hpar]; simp
  · clear hJ J
    have hmm : m = l.length := by omega
    subst hmm
    rw [List.take_length, List.drop_length, List.append_nil] at h
    rw [List.take_length]
    obtain ⟨r1, r2⟩ := hv.reP hid1
    obtain ⟨g1, g2, g3⟩ := hv.endA hid1
    have glen := g1.len
    refine JoinW.cut0 (fun w' => SH w0 w' (RP t (endA l id) :: aB w1.heap.size ([Value.slice none 0 0].map Ce.v) :: BS w.heap.size t :: F)) ?_ ?_
    · unfold endA
      have hdk : l.any (fun x => x.Parent == id && x.State == 3) = deadKid l id := rfl
      rw [hdk]
      refine BIf.of (fun hb => ?_) (fun hb => ?_)
      · rw [if_pos hb]
        have hpos0 : 0 < (l.map (reP id)).length := by rw [List.length_map]; omega
        have hg0 : (l.map (reP id))[0]? = some (l.map (reP id))[0] := List.getElem?_eq_getElem hpos0
        refine ⟨t, h.cell 1 rfl rfl, (s151 (i := 0) (sig := 14) (h.front (n := 2) rfl) hg0 (r1.ok _ (List.mem_of_getElem? hg0)) (by omega) (by omega) (by simp; omega)).mono ?_⟩
        rintro _ w72 ⟨rfl, h⟩
        exact ⟨rfl, h⟩
      · rw [if_neg (by rw [hb]; decide)]
        exact h.front (n := 2) rfl
    clear h
    intro w21 h
    have hlen2 : (endA l id).length ≤ 1048576 := by omega
    obtain ⟨y, hy, hyid⟩ := g3 i x hx
    rw [hidd] at hyid
    obtain ⟨f1, f2⟩ := g1.ix hy
    rw [hyid] at f1 f2
    obtain ⟨j, u, hj, u1, u2, u3, u4⟩ := g1.up (List.mem_of_getElem? hy) (by omega)
    have hij : i ≠ j := by
      rintro rfl
      rw [hy] at hj; cases hj
      exact g2 y (List.mem_of_getElem? hy) (by omega)
    have hfin : endF l id status = if hasS u.Ignored 14 = true then (endA l id).filter (fun y => y.Id != id) else sendF ((endA l id).set i (zomb y status)) j 14 := by
      unfold endF endB
      rw [f2]; dsimp only; rw [u4]; dsimp only; rw [f1, u3, Int.toNat_natCast, Int.toNat_natCast]
    have htl2 := h.len 0 rfl
    rw [recs_len] at htl2
    have hil := (List.getElem?_eq_some_iff.1 hy).1
    have hjl := (List.getElem?_eq_some_iff.1 hj).1
    have huo := g1.ok u (List.mem_of_getElem? hj)
    have herase := g1.srt.erase hy
    rw [hyid] at herase
    have hz := g1.zomb hy (by omega) (fun z hz => by rw [hyid]; exact g2 z hz) hs
    rw [hfin]
    clear hfin g3
    generalize endA l id = l' at *
    refine ⟨t, h.cell 2 rfl rfl, (c102 (qatOf h 0 rfl hlen2)).mono ?_⟩
    rintro _ w24 ⟨rfl, e24⟩
    have h := h.to e24
    obtain ⟨q, hqa⟩ := h.rowQ 0 rfl hy
    rw [f1]
    refine ⟨_, rfl, t, h.cell 2 rfl rfl, by omega, by omega, q, hqa, ?_⟩
    simp only [Int.toNat_natCast]
    refine ⟨_, h.rdR 0 rfl hqa hy rfl, _, h.rdR 0 rfl hqa hy rfl, _, h.rdR 0 rfl hqa hy rfl, _, h.rdR 0 rfl hqa hy rfl, _, h.rdR 0 rfl hqa hy rfl, _, h.rdR 0 rfl hqa hy rfl, _, h.rdR 0 rfl hqa hy rfl, _, h.rdR 0 rfl hqa hy rfl, _, h.rdR 0 rfl hqa hy rfl, _, h.rdR 0 rfl hqa hy rfl, ?_⟩
    refine h.alloc (fun w38 h e38 n38 => ?_)
    refine h.put 0 rfl rfl rfl (fun w39 h n39 => ?_)
    refine ⟨t, h.cell 3 rfl rfl, _, h.cell 0 rfl rfl, (c102 (qatOf h 1 rfl hlen2)).mono ?_⟩
    rintro _ w43 ⟨rfl, e43⟩
    have h := h.to e43
    rw [u3]
    refine ⟨_, rfl, t, h.cell 3 rfl rfl, by omega, by omega, q, hqa, ?_⟩
    simp only [Int.toNat_natCast]
    refine ⟨_, h.rdR 1 rfl hqa hj rfl, (c143 (n := 14) (VS.small huo.ign.1).1 (VS.small huo.ign.1).2 (by omega)).mono ?_⟩
    rintro _ w49 ⟨rfl, rfl⟩
    refine ⟨_, rfl, BIf.of (fun hb => ?_) (fun hb => ?_)⟩
    · rw [if_pos hb]
      refine ⟨t, h.cell 3 rfl rfl, (s152 (i := i) (h.front (n := 1) rfl) hil hlen2).mono ?_⟩
      rintro _ w53 ⟨t2, rfl, h⟩
      refine ⟨t2, rfl, ?_⟩
      refine h.setV 2 rfl rfl (fun w55 h n55 => ?_)
      refine ⟨t2, h.cell 2 rfl rfl, t2, rfl, ?_⟩
      rw [herase] at h
      exact (((h.dropAt 3).dropAt 2).dropAt 1)
    · rw [if_neg (by rw [hb]; decide)]
      refine ⟨t, h.cell 3 rfl rfl, _, h.cell 0 rfl rfl, _, h.cell 0 rfl rfl, _, h.cell 0 rfl rfl, _, h.cell 0 rfl rfl, by omega, by omega, q, hqa, ?_⟩
      refine h.putR 1 (zomb y status) rfl hqa hy rfl rfl rfl (fun w63 h n63 => ?_)
      have hj2 : (l'.set i (zomb y status))[j]? = some u := by rw [List.getElem?_set_ne hij]; exact hj
      refine ⟨t, h.cell 3 rfl rfl, (s151 (i := j) (sig := 14) (h.front (n := 1) rfl) hj2 huo (by omega) (by omega) (by simp; omega)).mono ?_⟩
      rintro _ w66 ⟨rfl, h⟩
      refine ⟨rfl, t, h.cell 3 rfl rfl, ?_⟩
      refine h.setV 2 rfl rfl (fun w68 h n68 => ?_)
      refine ⟨t, h.cell 2 rfl rfl, t, rfl, ?_⟩
      exact (((h.dropAt 3).dropAt 2).dropAt 1)
end Go.Proofs.Yteigefjiifihpaa

/- Processes, the reference's side: fork, wait. Conditions: none. -/
set_option linter.unusedVariables false
set_option linter.unusedSimpArgs false
namespace Go.Proofs.Yteigefjiifihpaa
open Go Go.Den
abbrev rs3 (x y z : Int) : List Value := [.int .i64 x, .int .i64 y, .int .i64 z]
abbrev ZT : List Value := [.slice none 0 0]
/-- Processes and an answer, laid into their blocks and handed back. -/
theorem retP {w0 w : World} {As : List Asr} (h : SH w0 w As) (i j : Nat) {b c : Nat} {v0 : Value} {us : List Value} (hb : As[i]? = some (aB b ([v0].map Ce.v))) {t : Sl} {x y z : Int} {K : Value → World → Prop}
    (hc : (As.set i (BS b t))[j]? = some (aB c (us.map Ce.v))) (hu : us.length = 3) (hij : i < As.length ∧ i ≠ j)
    (hk : ∀ w2, SH w0 w2 ((As.set i (BS b t)).set j (aB c ((rs3 x y z).map Ce.v))) → K (.tuple #[pAgg t, .agg #[.int .i64 x, .int .i64 y, .int .i64 z]]) w2) :
    May w ⟨b, 0, none⟩ ∧ LetW (w.setCell ⟨b, 0, none⟩ (.slice t.a t.len t.cap)) fun w14 => MayN w14 ⟨c, 0, none⟩ 3 ∧ LetW (Den.puts w14 ⟨c, 0, none⟩ 0 [.int .i64 x, .int .i64 y, .int .i64 z]) fun w15 => ∃ l16 : Sl, w15.cell? ⟨b, 0, none⟩ = some (.slice l16.a l16.len l16.cap) ∧ ∃ n17 : Int, w15.cell? ⟨c, 0, none⟩ = some (.int .i64 n17) ∧ ∃ n18 : Int, w15.cell? ⟨c, 1, none⟩ = some (.int .i64 n18) ∧ ∃ n19 : Int, w15.cell? ⟨c, 2, none⟩ = some (.int .i64 n19) ∧ K (.tuple #[.agg #[.slice l16.a l16.len l16.cap], .agg #[.int .i64 n17, .int .i64 n18, .int .i64 n19]]) w15 := by
  refine h.setV i hb rfl (fun w13 h nw => ?_)
  refine h.put j hc rfl hu (fun w14 h nw => ?_)
  have g1 : ((As.set i (BS b t)).set j (aB c ((rs3 x y z).map Ce.v)))[i]? = some (BS b t) := by
    rw [List.getElem?_set_ne (by omega), List.getElem?_set_self hij.1]
  have hj := (List.getElem?_eq_some_iff.1 hc).1
  have g2 : ((As.set i (BS b t)).set j (aB c ((rs3 x y z).map Ce.v)))[j]? = some (aB c ((rs3 x y z).map Ce.v)) := List.getElem?_set_self hj
  exact ⟨t, h.cell i g1 rfl, x, h.cell j g2 rfl, y, h.cell j g2 rfl, z, h.cell j g2 rfl, hk _ h⟩
/-- The processes as they came, and an answer. -/
theorem retQ {w0 w : World} {As : List Asr} (h : SH w0 w As) (m i j : Nat) {a b c : Nat} {v0 : Value} {us : List Value} {t : Sl} (ha : As[m]? = some (BS a t)) (hb : As[i]? = some (aB b ([v0].map Ce.v))) {x y z : Int} {K : Value → World → Prop}
    (hc : (As.set i (BS b t))[j]? = some (aB c (us.map Ce.v))) (hu : us.length = 3) (hij : i < As.length ∧ i ≠ j)
    (hk : ∀ w2, SH w0 w2 ((As.set i (BS b t)).set j (aB c ((rs3 x y z).map Ce.v))) → K (.tuple #[pAgg t, .agg #[.int .i64 x, .int .i64 y, .int .i64 z]]) w2) :
    ∃ l13 : Sl, w.cell? ⟨a, 0, none⟩ = some (.slice l13.a l13.len l13.cap) ∧ May w ⟨b, 0, none⟩ ∧ LetW (w.setCell ⟨b, 0, none⟩ (.slice l13.a l13.len l13.cap)) fun w14 => MayN w14 ⟨c, 0, none⟩ 3 ∧ LetW (Den.puts w14 ⟨c, 0, none⟩ 0 [.int .i64 x, .int .i64 y, .int .i64 z]) fun w15 => ∃ l16 : Sl, w15.cell? ⟨b, 0, none⟩ = some (.slice l16.a l16.len l16.cap) ∧ ∃ n17 : Int, w15.cell? ⟨c, 0, none⟩ = some (.int .i64 n17) ∧ ∃ n18 : Int, w15.cell? ⟨c, 1, none⟩ = some (.int .i64 n18) ∧ ∃ n19 : Int, w15.cell? ⟨c, 2, none⟩ = some (.int .i64 n19) ∧ K (.tuple #[.agg #[.slice l16.a l16.len l16.cap], .agg #[.int .i64 n17, .int .i64 n18, .int .i64 n19]]) w15 :=
  ⟨t, h.cell m ha rfl, retP h i j hb hc hu hij hk⟩
theorem gap_ix {l : List DProc} (h : PInv l) {n : Nat} (hn : n ≤ gapQ l 0) : 0 ≤ ixP l ((n : Int) + 1) ↔ n < gapQ l 0 := by
  obtain ⟨g0, g1, g2, g3⟩ := h.gap
  constructor
  · intro hix
    rcases ixP_find l ((n : Int) + 1) with ⟨e, _⟩ | ⟨i, x, e, hx, hp⟩
    · omega
    · refine Nat.lt_of_le_of_ne hn (fun e => ?_)
      have := h.gapNew x (prOf_some hp).1
      have := (prOf_some hp).2
      omega
  · intro hlt
    have hg : l[n]? = some l[n] := List.getElem?_eq_getElem (by omega)
    have hid := g2 n _ hlt hg
    have := (h.ix hg).1
    rw [hid] at this
    omega
noncomputable def forkR (l : List DProc) (x : DProc) : PRes := if l.length = 32 then (l, 18, 0, 0) else (forkF l x, 0, ((gapQ l 0 : Nat) : Int) + 1, 0)
theorem s126 {w0 w : World} {F : List Asr} {t : Sl} {l : List DProc} {i : Nat} {x : DProc} (h : SH w0 w (RP t l :: F)) (hv : PInv l) (hx : l[i]? = some x) (hz : x.State ≠ 3) :
    CallW Try.prog 126 #[pAgg t, .int .i64 (i : Int)] w (KPR w0 F (forkR l x)) := by
  refine go126 ?_
  unfold W126
  have hlen := hv.len
  have htl := h.len 0 rfl
  rw [recs_len] at htl
  have htc := h.lenCap 0 rfl
  have hil := (List.getElem?_eq_some_iff.1 hx).1
  obtain ⟨q, hqa⟩ := h.rowQ 0 rfl hx
  refine h.alloc (fun w1 h e1 n1 => ?_)
  refine h.alloc (fun w2 h e2 n2 => ?_)
  refine h.alloc (fun w3 h e3 n3 => ?_)
  have hfull := hv.full
  obtain ⟨g0, g1, g2, g3⟩ := hv.gap
  refine LoopW.m1 (fun (i : Int) w' => ∃ n : Nat, i = (n : Int) + 1 ∧ n ≤ gapQ l 0 ∧ SH w0 w' (aB w2.heap.size ((rs3 0 0 0).map Ce.v) :: aB w1.heap.size (ZT.map Ce.v) :: BS w.heap.size t :: RP t l :: F)) (fun (i : Int) _ => (40 - i).toNat) ⟨0, rfl, by omega, h⟩ ?_
  clear h
  rintro (i' : Int) w6 ⟨n, rfl, hng, h⟩ J hJ
  refine JoinW.cut1 (fun (c : Bool) w' => c = decide (n < 32 ∧ n < gapQ l 0) ∧ SH w0 w' (aB w2.heap.size ((rs3 0 0 0).map Ce.v) :: aB w1.heap.size (ZT.map Ce.v) :: BS w.heap.size t :: RP t l :: F)) ?_ ?_
  · refine BIf.dec (fun hlt => ?_) (fun hge => ⟨(decide_eq_false (by omega)).symm, h⟩)
    refine ⟨t, h.cell 2 rfl rfl, (c102 (qatOf h 3 rfl (by omega))).mono ?_⟩
    rintro _ w66 ⟨rfl, e⟩
    refine ⟨_, rfl, ?_, h.to e⟩
    rw [decide_eq_decide]
    have := gap_ix hv hng
    omega
  clear h
  rintro (c : Bool) w9 ⟨rfl, h⟩
  refine BIf.dec (fun hc => ?_) (fun hc => ?_)
  · rw [w64 (by omega) (by omega)]
    exact hJ _ _ ⟨n + 1, by omega, by omega, h⟩ (by omega)
  refine BIf.dec (fun h32 => ?_) (fun h32 => ?_)
  · refine retQ h 2 1 0 rfl rfl rfl rfl (by simp) (fun w2 h => ?_)
    unfold forkR
    rw [if_pos (hfull.2 (by omega))]
    exact ⟨t, rfl, (((h.dropAt 2).dropAt 1).dropAt 0)⟩
  have hn32 : ¬ l.length = 32 := fun hh => by have := hfull.1 hh; omega
  obtain rfl : n = gapQ l 0 := by omega
  have hres : forkR l x = (forkF l x, 0, ((gapQ l 0 : Nat) : Int) + 1, 0) := by unfold forkR; rw [if_neg hn32]
  have hff : forkF l x = [] ++ l.take (gapQ l 0) ++ [child (gapQ l 0) x] ++ l.drop (gapQ l 0) := by unfold forkF; simp
  rw [hres, hff]
  generalize gapQ l 0 = g at *
  simp only [Int.toNat_natCast]
  rw [w64 (n := (g : Int) + 1 - 1) (by omega) (by omega), show ((g : Int) + 1 - 1) = g by omega]
  simp only [Int.toNat_natCast]
  refine ⟨t, h.cell 2 rfl rfl, by omega, by omega, q, hqa, _, h.rdR 3 rfl hqa hx rfl, _, h.rdR 3 rfl hqa hx rfl, _, h.rdR 3 rfl hqa hx rfl, _, h.rdR 3 rfl hqa hx rfl, _, h.rdR 3 rfl hqa hx rfl, _, h.rdR 3 rfl hqa hx rfl, _, h.rdR 3 rfl hqa hx rfl, _, h.rdR 3 rfl hqa hx rfl, _, h.rdR 3 rfl hqa hx rfl, _, h.rdR 3 rfl hqa hx rfl, ?_⟩
  refine h.alloc (fun w29 h e29 n29 => ?_)
  refine h.put 0 rfl rfl rfl (fun w30 h n30 => ?_)
  refine ⟨_, h.cell 0 rfl rfl, ?_⟩
  refine h.setV 0 rfl rfl (fun w32 h n32 => ?_)
  refine h.setV 0 rfl rfl (fun w33 h n33 => ?_)
  refine h.setV 0 rfl rfl (fun w34 h n34 => ?_)
  refine h.setV 0 rfl rfl (fun w35 h n35 => ?_)
  have h : SH w0 w35 (BX w9.heap.size (child g x) :: aB w2.heap.size ((rs3 0 0 0).map Ce.v) :: aB w1.heap.size (ZT.map Ce.v) :: BS w.heap.size t :: RP t l :: F) := h
  refine h.alloc (fun w36 h e36 n36 => ?_)
  refine ⟨t, h.cell 4 rfl rfl, by omega, by omega, ?_⟩
  have hrow := h.rowR 5 rfl
  have h := h.drop.nil (some ⟨w35.heap.size, 0, none⟩) 10
  refine SH.appendR (f := DProc.cells) (l := []) (us := l.take g) h (hrow.pre (fun _ => rfl) (by omega)) (by simp; omega) (fun _ => rfl) rfl rfl (by decide) (by show (_ + _) * 80 ≤ _; simp; omega) plain_pr (fun l39 w40 h hl39 _ => ?_)
  refine ⟨_, h.cell 1 rfl rfl, _, h.cell 1 rfl rfl, _, h.cell 1 rfl rfl, _, h.cell 1 rfl rfl, _, h.cell 1 rfl rfl, _, h.cell 1 rfl rfl, _, h.cell 1 rfl rfl, _, h.cell 1 rfl rfl, _, h.cell 1 rfl rfl, _, h.cell 1 rfl rfl, ?_⟩
  refine LetW_iff.2 (SH.appendR1 (f := DProc.cells) (x := child g x) h rfl rfl rfl (by decide) (by show _ * 80 ≤ _; simp; omega) (plain_pr _) (fun l42 w43 h hl42 _ => ?_))
  refine ⟨t, h.cell 4 rfl rfl, by omega, by omega, ?_⟩
  have hrow := h.rowR 5 rfl
  refine SH.appendR (f := DProc.cells) (us := l.drop g) h (hrow.suf (fun _ => rfl) htl htc (by omega)) (by simp; omega) (fun _ => rfl) rfl rfl (by decide) (by show (_ + _) * 80 ≤ _; simp; omega) plain_pr (fun l45 w46 h hl45 _ => ?_)
  refine h.setV 4 rfl rfl (fun w47 h n47 => ?_)
  refine retQ h 4 3 2 rfl rfl rfl rfl (by simp) (fun w2 h => ?_)
  exact ⟨l45, rfl, (((((h.dropAt 5).dropAt 4).dropAt 3).dropAt 2).dropAt 1)⟩
/-! ## Wait -/
theorem meant_some {me x : DProc} {to_ : Int} : (meant me to_ x = true) ↔ ¬ ((to_ = 0 ∧ x.Group ≠ me.Group) ∨ (to_ > 0 ∧ x.Id ≠ to_) ∨ (to_ < -1 ∧ x.Group ≠ IntKind.i64.wrap (0 - to_))) := by
  unfold meant
  split
  · rw [beq_iff_eq]; omega
  · split
    · rw [beq_iff_eq]; omega
    · split
      · simp; omega
      · rw [beq_iff_eq]
        constructor
        · rintro he (⟨h1, _⟩ | ⟨h1, _⟩ | ⟨_, h2⟩)
          · omega
          · omega
          · exact h2 he
        · intro hn
          exact Classical.byContradiction (fun hne => hn (.inr (.inr ⟨by omega, hne⟩)))
theorem s128 {w0 w : World} {F : List Asr} {t : Sl} {l : List DProc} {i : Nat} {x : DProc} {to_ : Int} (h : SH w0 w (RP t l :: F)) (hv : PInv l) (hx : l[i]? = some x) :
    CallW Try.prog 128 #[pAgg t, .int .i64 (i : Int), .int .i64 to_] w (KPR w0 F (waitR l x to_)) := by
  refine go128 ?_
  unfold W128
  have hlen := hv.len
  have htl := h.len 0 rfl
  rw [recs_len] at htl
  have hil := (List.getElem?_eq_some_iff.1 hx).1
  obtain ⟨q, hqa⟩ := h.rowQ 0 rfl hx
  refine h.alloc (fun w1 h e1 n1 => ?_)
  refine h.alloc (fun w2 h e2 n2 => ?_)
  refine h.alloc (fun w3 h e3 n3 => ?_)
  simp only [Int.toNat_natCast]
  refine ⟨t, h.cell 2 rfl rfl, by omega, by omega, q, hqa, _, h.rdR 3 rfl hqa hx rfl, _, h.rdR 3 rfl hqa hx rfl, _, h.rdR 3 rfl hqa hx rfl, _, h.rdR 3 rfl hqa hx rfl, _, h.rdR 3 rfl hqa hx rfl, _, h.rdR 3 rfl hqa hx rfl, _, h.rdR 3 rfl hqa hx rfl, _, h.rdR 3 rfl hqa hx rfl, _, h.rdR 3 rfl hqa hx rfl, _, h.rdR 3 rfl hqa hx rfl, ?_⟩
  refine h.alloc (fun w16 h e16 n16 => ?_)
  refine h.put 0 rfl rfl rfl (fun w17 h n17 => ?_)
  refine LoopW.m2 (fun (b : Bool) (i : Int) w' => ∃ m : Nat, i = m ∧ m ≤ l.length ∧ b = (l.take m).any (fun y => y.Parent == x.Id && meant x to_ y) ∧ (∀ y, y ∈ l.take m → (y.Parent == x.Id && meant x to_ y && y.State == 3) = false) ∧ SH w0 w' (BX w3.heap.size x :: aB w2.heap.size ((rs3 0 0 0).map Ce.v) :: aB w1.heap.size (ZT.map Ce.v) :: BS w.heap.size t :: RP t l :: F)) (fun _ (i : Int) _ => (l.length - i).toNat) ⟨0, rfl, by omega, rfl, (fun y hy => by simp at hy), h⟩ ?_
  clear h
  rintro (b : Bool) (i' : Int) w21 ⟨m, rfl, hm, rfl, hall, h⟩ J hJ
  refine ⟨t, h.cell 3 rfl rfl, BIf.dec (fun hlt => ?_) (fun hge => ?_)⟩
  · have hget : l[m]? = some l[m] := List.getElem?_eq_getElem (by omega)
    have hstep := any_step (fun y : DProc => y.Parent == x.Id && meant x to_ y) hget
    have hmem : ∀ z, z ∈ l.take (m + 1) → z ∈ l.take m ∨ z = l[m] := fun z hz => by
      rw [List.take_add_one, hget] at hz
      rcases List.mem_append.1 hz with hz | hz
      · exact .inl hz
      · exact .inr (by simpa using hz)
    generalize l[m] = y at *
    simp only [Int.toNat_natCast]
    rw [w64 (n := (m : Int) + 1) (by omega) (by omega)]
    refine ⟨t, h.cell 3 rfl rfl, by omega, by omega, q, hqa, _, h.rdR 4 rfl hqa hget rfl, _, h.rdR 4 rfl hqa hget rfl, _, h.rdR 4 rfl hqa hget rfl, _, h.rdR 4 rfl hqa hget rfl, _, h.rdR 4 rfl hqa hget rfl, _, h.rdR 4 rfl hqa hget rfl, _, h.rdR 4 rfl hqa hget rfl, _, h.rdR 4 rfl hqa hget rfl, _, h.rdR 4 rfl hqa hget rfl, _, h.rdR 4 rfl hqa hget rfl, ?_⟩
    refine h.alloc (fun w35 h e35 n35 => ?_)
    refine h.put 0 rfl rfl rfl (fun w36 h n36 => ?_)
    refine ⟨_, h.cell 0 rfl rfl, _, h.cell 1 rfl rfl, JoinW.cut1 (fun (c : Bool) w' => (c = true ↔ y.Parent ≠ x.Id ∨ (to_ = 0 ∧ y.Group ≠ x.Group)) ∧ w' = w36) ?_ ?_⟩
    · refine BIf.ne (fun hne => ⟨iff_of_true rfl (.inl hne), rfl⟩) (fun heq => BIf.eq (fun h0 => ⟨_, h.cell 0 rfl rfl, _, h.cell 1 rfl rfl, ?_, rfl⟩) (fun h0 => ⟨?_, rfl⟩))
      · rw [bne_iff_ne]; exact ⟨fun hh => .inr ⟨h0, hh⟩, fun hh => hh.elim (fun e => absurd heq e) (·.2)⟩
      · exact ⟨(fun hh => nomatch hh), fun hh => hh.elim (fun e => absurd heq e) (fun e => absurd e.1 h0)⟩
    rintro (c1 : Bool) w41 ⟨hc1, rfl⟩
    refine JoinW.cut1 (fun (c : Bool) w' => (c = true ↔ (y.Parent ≠ x.Id ∨ (to_ = 0 ∧ y.Group ≠ x.Group)) ∨ (to_ > 0 ∧ y.Id ≠ to_)) ∧ w' = w41) ?_ ?_
    · refine BIf.of (fun ht => ⟨iff_of_true rfl (.inl (hc1.1 ht)), rfl⟩) (fun hf => ?_)
      have hf' : ¬ _ := fun hh => by rw [hc1.2 hh] at hf; cases hf
      refine BIf.dec (fun h0 => ⟨_, h.cell 0 rfl rfl, ?_, rfl⟩) (fun h0 => ⟨?_, rfl⟩)
      · rw [bne_iff_ne]; exact ⟨fun hh => .inr ⟨h0, hh⟩, fun hh => hh.elim (fun e => absurd e hf') (·.2)⟩
      · exact ⟨(fun hh => nomatch hh), fun hh => hh.elim (fun e => absurd e hf') (fun e => absurd e.1 h0)⟩
    rintro (c2 : Bool) w44 ⟨hc2, rfl⟩
    refine JoinW.cut1 (fun (c : Bool) w' => (c = false ↔ (y.Parent == x.Id && meant x to_ y) = true) ∧ w' = w44) ?_ ?_
    · have hcon : (y.Parent == x.Id && meant x to_ y) = true ↔ ¬ (((y.Parent ≠ x.Id ∨ (to_ = 0 ∧ y.Group ≠ x.Group)) ∨ (to_ > 0 ∧ y.Id ≠ to_)) ∨ (to_ < -1 ∧ y.Group ≠ IntKind.i64.wrap (0 - to_))) := by
        rw [Bool.and_eq_true, beq_iff_eq, meant_some]
        constructor
        · rintro ⟨h1, h2⟩ (((h3 | h3) | h3) | h3)
          · exact h3 h1
          · exact h2 (.inl h3)
          · exact h2 (.inr (.inl h3))
          · exact h2 (.inr (.inr h3))
        · intro hn
          refine ⟨Classical.byContradiction (fun e => hn (.inl (.inl (.inl e)))), ?_⟩
          rintro (h3 | h3 | h3)
          · exact hn (.inl (.inl (.inr h3)))
          · exact hn (.inl (.inr h3))
          · exact hn (.inr h3)
      rw [hcon]
      refine BIf.of (fun ht => ⟨⟨(fun hh => nomatch hh), fun hh => absurd (.inl (hc2.1 ht)) hh⟩, rfl⟩) (fun hf => ?_)
      have hf' : ¬ _ := fun hh => by rw [hc2.2 hh] at hf; cases hf
      refine BIf.dec (fun h0 => ⟨_, h.cell 0 rfl rfl, ?_, rfl⟩) (fun h0 => ⟨?_, rfl⟩)
      · rw [bne_eq_false_iff_eq]
        constructor
        · rintro hh (e | e)
          · exact hf' e
          · exact e.2 hh
        · exact fun hn => Classical.byContradiction (fun hh => hn (.inr ⟨h0, hh⟩))
      · refine iff_of_true rfl ?_
        rintro (e | e)
        · exact hf' e
        · exact h0 e.1
    rintro (c3 : Bool) w47 ⟨hc3, rfl⟩
    refine BIf.of (fun ht => ?_) (fun hf => ?_)
    · have hno : (y.Parent == x.Id && meant x to_ y) = false := by
        rcases hh : (y.Parent == x.Id && meant x to_ y) with _ | _
        · rfl
        · rw [hc3.2 hh] at ht; cases ht
      refine hJ _ _ _ ⟨m + 1, by omega, by omega, by rw [hstep, hno, Bool.or_false], fun z hz => ?_, h.drop⟩ (by omega)
      rcases hmem z hz with hz | rfl
      · exact hall z hz
      · rw [hno]; rfl
    · have hyes := hc3.1 hf
      refine ⟨_, h.cell 0 rfl rfl, BIf.eq (fun hst => ?_) (fun hst => ?_)⟩
      · have hres : waitR l x to_ = (l.take m ++ l.drop (m + 1), 0, y.Id, y.Status) := by
          unfold waitR
          have hf : l.find? (fun x_1 => x_1.Parent == x.Id && meant x to_ x_1 && x_1.State == 3) = some y := by
            rw [← List.take_append_drop m l, List.find?_append, List.find?_eq_none.2 (fun z hz => by rw [hall z hz]; decide), List.drop_eq_getElem_cons (by omega : m < l.length)]
            have : l[m] = y := (List.getElem?_eq_some_iff.1 hget).2
            rw [this, Option.none_or, List.find?_cons_of_pos]
            rw [hyes, hst]; rfl
          rw [hf]
          dsimp only
          rw [hv.srt.erase hget]
        have h := h.drew
        refine ⟨t, h.cell 4 rfl rfl, _, h.cell 0 rfl rfl, _, h.cell 0 rfl rfl, (s152 (i := m) (h.front (n := 5) rfl) (by omega) (by omega)).mono ?_⟩
        rintro _ w53 ⟨t2, rfl, h⟩
        refine ⟨t2, rfl, ⟨_, h.cell 1 rfl rfl, rfl⟩, ⟨_, h.cell 1 rfl rfl, rfl⟩, ?_⟩
        have hc0 := h.cell 1 (i := 0) rfl rfl
        have hc5 := h.cell 1 (i := 5) rfl rfl
        refine h.setV 4 rfl rfl (fun w57 h n57 => ⟨⟨_, h.cell 1 rfl rfl, rfl⟩, ⟨_, h.cell 1 rfl rfl, rfl⟩, ?_⟩)
        refine h.put 3 rfl rfl rfl (fun w60 h n60 => ?_)
        refine ⟨t2, h.cell 4 rfl rfl, _, h.cell 3 rfl rfl, _, h.cell 3 rfl rfl, _, h.cell 3 rfl rfl, ?_⟩
        rw [hres]
        exact ⟨t2, rfl, (((((h.dropAt 5).dropAt 4).dropAt 3).dropAt 2).dropAt 1)⟩
      · refine hJ _ _ _ ⟨m + 1, by omega, by omega, by rw [hstep, hyes, Bool.or_true], fun z hz => ?_, h.drop⟩ (by omega)
        rcases hmem z hz with hz | rfl
        · exact hall z hz
        · rw [hyes]; simpa using hst
  · have hmm : m = l.length := by omega
    subst hmm
    rw [List.take_length] at *
    have hres : waitR l x to_ = if l.any (fun y => y.Parent == x.Id && meant x to_ y) = true then (l, 9, 0, 0) else (l, 11, 0, 0) := by
      unfold waitR
      rw [List.find?_eq_none.2 (fun z hz => by rw [hall z hz]; decide)]
    rw [hres]
    refine BIf.of (fun ht => ?_) (fun hf => ?_)
    · rw [if_pos ht]
      exact retQ h 3 2 1 rfl rfl rfl rfl (by simp) (fun w2 h => ⟨t, rfl, ((((h.dropAt 3).dropAt 2).dropAt 1).dropAt 0)⟩)
    · rw [if_neg (by rw [hf]; decide)]
      exact retQ h 3 2 1 rfl rfl rfl rfl (by simp) (fun w2 h => ⟨t, rfl, ((((h.dropAt 3).dropAt 2).dropAt 1).dropAt 0)⟩)
end Go.Proofs.Yteigefjiifihpaa
