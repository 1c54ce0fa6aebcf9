/- Part 3 of 4: plain readings of code, rules for them, and a proof over them, joined by a program. Conditions: none. -/
import Derived.Test.YtkgoanjemhbjgaaHP2
import Derived.Lib.Overlaps
/- The plainer reading of functions of the program, each held against its code. Conditions: none. -/
set_option linter.unusedVariables false
set_option maxRecDepth 100000
namespace Go.Proofs.Ytkgoanjemhbjgaa
open Go Go.Den
/- loop.example/g00008/laws.FnHeapApart -/
def an3 : Ann := (.seq .leaf (.seq (.seq .leaf (.cond (.seq .leaf .leaf) .leaf)) (.seq .leaf (.seq .leaf (.seq (.seq .leaf (.cond (.seq (.reg [(3, none), (3, some (8, [(42, .bool)])), (1, none), (4, some (0, [(47, .bool)])), (1, none)]) .leaf) .leaf)) (.seq (.seq .leaf (.in_ (.loop 57 [(6, .int .i64)] (.seq (.seq (.reg [(5, none), (3, some (121, [(55, .bool)]))]) (.cond .leaf .leaf)) (.seq (.in_ (.seq .leaf (.seq (.seq (.reg [(4, none), (4, some (249, [(69, .bool)]))]) (.cond .leaf .leaf)) (.seq .leaf (.join 121 [] (.seq .leaf (.in_ (.seq .leaf (.cond (.seq .leaf (.seq (.seq .leaf (.seq .leaf (.cond (.seq .leaf .leaf) .leaf))) (.seq (.seq (.reg [(3, none), (15, some (633, [(111, .bool)]))]) (.cond (.seq .leaf .leaf) .leaf)) .leaf))) (.seq .leaf (.cond (.seq .leaf (.seq (.seq .leaf (.seq .leaf (.cond (.seq .leaf .leaf) .leaf))) (.seq (.seq (.reg [(3, none), (6, some (8313, [(144, .bool)]))]) (.cond (.seq .leaf .leaf) .leaf)) .leaf))) (.seq .leaf (.cond (.seq .leaf (.seq (.seq .leaf (.seq .leaf (.cond (.seq .leaf .leaf) .leaf))) (.seq (.seq (.reg [(2, none), (7, some (131193, [(173, .bool)]))]) (.cond (.seq .leaf .leaf) .leaf)) .leaf))) .leaf)))))))) (.seq .leaf (.seq (.reg [(4, none), (8, some (2097273, [(188, .bool)])), (1, none), (6, some (2097273, [(195, .bool)])), (1, none), (7, some (121, [(203, .bool)]))]) (.cond (.seq .leaf .leaf) .leaf)))))))) .leaf))))) (.seq (.in_ (.loop 41 [] (.seq (.seq .leaf (.cond .leaf .leaf)) (.in_ (.join 41 [(22, .ptr), (23, .bool)] (.drawT [0, 0, 2, 0, 8, 0, 32, 96, 248, 510, 1022, 2046, 4095, 8191, 16383, 16383, 0, 98303, 262143] [0, 1, 2, 3, 4, 5, 6, 7, 8, 9, 10, 11] (.alt [12, 13, 14, 15] (.alt [16] (.alt [17, 18] .leaf .stop) .stop) (.alt [16] (.alt [12, 13, 14, 15] (.alt [17, 18] .leaf .stop) .stop) .stop))) (.seq (.seq .leaf (.cond (.seq .leaf .leaf) .leaf)) .leaf)))))) (.seq .leaf (.seq (.reg [(4, none), (5, some (16777224, [(237, .bool)])), (1, none), (5, some (0, [(243, .bool)])), (1, none)]) .leaf)))))))))
def W3 (a0 : Sl) (w : World) (K : Value → World → Prop) : Prop :=
  CallW Try.prog 13 #[.slice a0.a a0.len a0.cap] w fun v1 w2 => ∃ b3 : Bool, v1 = .bool b3 ∧ BIf b3 (K (.bool true) w2) (CallW Try.prog 14 #[.slice a0.a a0.len a0.cap] w2 fun v4 w5 => ∃ n6 : Int, ∃ l7 : Sl, v4 = .tuple #[.int .i64 n6, .slice l7.a l7.len l7.cap] ∧ LetW (w5.alloc (.cells #[.int .i64 0, .slice none 0 0] 29)) fun w8 => MayN w8 ⟨w5.heap.size, 0, none⟩ 2 ∧ LetW (puts w8 ⟨w5.heap.size, 0, none⟩ 0 [.int .i64 n6, .slice none 0 0]) fun w9 => ∃ n10 : Int, w9.cell? ⟨w5.heap.size, 0, none⟩ = some (.int .i64 n10) ∧ ∃ l11 : Sl, w9.cell? ⟨w5.heap.size, 1, none⟩ = some (.slice l11.a l11.len l11.cap) ∧ CallW Try.prog 15 #[.agg #[.int .i64 n10, .slice l11.a l11.len l11.cap]] w9 fun v12 w13 => ∃ b14 : Bool, v12 = .bool b14 ∧ BIf (!b14) (JoinW [.bool] (fun J16 => BIf (decide ((n6 : Int) < 0)) (J16 true w13) (J16 (decide ((n6 : Int) > 65536)) w13)) (fun (b15 : Bool) w17 => JoinW [.bool] (fun J19 => BIf b15 (J19 true w17) ((8 : Int) ≠ 0 ∧ J19 ((Int.tmod n6 8 : Int) != 0) w17)) (fun (b18 : Bool) w20 => K (.bool b18) w20))) (LoopW [.int .i64] (fun J22 => fun (n21 : Int) w23 => JoinW [.bool] (fun J25 => BIf (decide ((n21 : Int) < ((l7.len : Nat) : Int))) (J25 (decide ((n21 : Int) < 60)) w23) (J25 false w23)) (fun (b24 : Bool) w26 => BIf b24 (0 ≤ (n21 : Int) ∧ (n21 : Int) < ((l7.len : Nat) : Int) ∧ ∃ q27 : Addr, (l7.a : Option Addr) = some q27 ∧ ∃ n28 : Int, w26.cell? ((q27.add (Int.toNat n21 * 3)).add 0) = some (.int .i64 n28) ∧ ∃ n29 : Int, w26.cell? ((q27.add (Int.toNat n21 * 3)).add 1) = some (.int .i64 n29) ∧ ∃ n30 : Int, w26.cell? ((q27.add (Int.toNat n21 * 3)).add 2) = some (.int .i64 n30) ∧ LetW (w26.alloc (.cells #[.int .i64 0, .int .i64 0, .int .i64 0] 32)) fun w31 => MayN w31 ⟨w26.heap.size, 0, none⟩ 3 ∧ LetW (puts w31 ⟨w26.heap.size, 0, none⟩ 0 [.int .i64 n28, .int .i64 n29, .int .i64 n30]) fun w32 => ∃ n33 : Int, w32.cell? ⟨w26.heap.size, 2, none⟩ = some (.int .i64 n33) ∧ JoinW [.bool] (fun J35 => BIf (decide ((n33 : Int) < 0)) (J35 true w32) (∃ n155 : Int, w32.cell? ⟨w26.heap.size, 2, none⟩ = some (.int .i64 n155) ∧ J35 (decide ((n155 : Int) > 65536)) w32)) (fun (b34 : Bool) w36 => BIf b34 (J22 (IntKind.wrap .i64 (n21 + 1)) w36) (∃ l37 : Sl, w36.cell? ⟨w5.heap.size, 1, none⟩ = some (.slice l37.a l37.len l37.cap) ∧ JoinW [] (fun J38 => ∃ n70 : Int, w36.cell? ⟨w26.heap.size, 0, none⟩ = some (.int .i64 n70) ∧ BIf ((n70 : Int) == 1) (∃ n71 : Int, w36.cell? ⟨w5.heap.size, 0, none⟩ = some (.int .i64 n71) ∧ ∃ l72 : Sl, w36.cell? ⟨w5.heap.size, 1, none⟩ = some (.slice l72.a l72.len l72.cap) ∧ ∃ n73 : Int, w36.cell? ⟨w26.heap.size, 2, none⟩ = some (.int .i64 n73) ∧ CallW Try.prog 16 #[.agg #[.int .i64 n71, .slice l72.a l72.len l72.cap], .int .i64 n73] w36 fun v74 w75 => ∃ n76 : Int, ∃ l77 : Sl, ∃ n78 : Int, v74 = .tuple #[.agg #[.int .i64 n76, .slice l77.a l77.len l77.cap], .int .i64 n78] ∧ LetW (w75.alloc (.cells #[.int .i64 0, .slice none 0 0] 29)) fun w79 => MayN w79 ⟨w75.heap.size, 0, none⟩ 2 ∧ LetW (puts w79 ⟨w75.heap.size, 0, none⟩ 0 [.int .i64 n76, .slice l77.a l77.len l77.cap]) fun w80 => ∃ n81 : Int, w80.cell? ⟨w5.heap.size, 0, none⟩ = some (.int .i64 n81) ∧ ∃ l82 : Sl, w80.cell? ⟨w5.heap.size, 1, none⟩ = some (.slice l82.a l82.len l82.cap) ∧ ∃ n83 : Int, w80.cell? ⟨w26.heap.size, 2, none⟩ = some (.int .i64 n83) ∧ CallW Try.prog 17 #[.agg #[.int .i64 n81, .slice l82.a l82.len l82.cap], .int .i64 n83] w80 fun v84 w85 => ∃ n86 : Int, ∃ l87 : Sl, ∃ n88 : Int, v84 = .tuple #[.agg #[.int .i64 n86, .slice l87.a l87.len l87.cap], .int .i64 n88] ∧ LetW (w85.alloc (.cells #[.int .i64 0, .slice none 0 0] 29)) fun w89 => MayN w89 ⟨w85.heap.size, 0, none⟩ 2 ∧ LetW (puts w89 ⟨w85.heap.size, 0, none⟩ 0 [.int .i64 n86, .slice l87.a l87.len l87.cap]) fun w90 => BIf ((n78 : Int) != n88) (K (.bool false) w90) (JoinW [.bool] (fun J92 => BIf (decide ((n78 : Int) ≥ 0)) (∃ l97 : Sl, w90.cell? ⟨w75.heap.size, 1, none⟩ = some (.slice l97.a l97.len l97.cap) ∧ BIf ((((l97.len : Nat) : Int) : Int) != (IntKind.wrap .i64 (((l37.len : Nat) : Int) + 1))) (J92 true w90) (∃ n98 : Int, w90.cell? ⟨w26.heap.size, 2, none⟩ = some (.int .i64 n98) ∧ J92 (decide ((IntKind.wrap .i64 (n78 + n98) : Int) > n6)) w90)) (J92 false w90)) (fun (b91 : Bool) w93 => BIf b91 (K (.bool false) w93) (∃ n94 : Int, w93.cell? ⟨w75.heap.size, 0, none⟩ = some (.int .i64 n94) ∧ ∃ l95 : Sl, w93.cell? ⟨w75.heap.size, 1, none⟩ = some (.slice l95.a l95.len l95.cap) ∧ MayN w93 ⟨w5.heap.size, 0, none⟩ 2 ∧ LetW (puts w93 ⟨w5.heap.size, 0, none⟩ 0 [.int .i64 n94, .slice l95.a l95.len l95.cap]) fun w96 => J38 w96)))) (BIf ((n70 : Int) == 3) (∃ n99 : Int, w36.cell? ⟨w5.heap.size, 0, none⟩ = some (.int .i64 n99) ∧ ∃ l100 : Sl, w36.cell? ⟨w5.heap.size, 1, none⟩ = some (.slice l100.a l100.len l100.cap) ∧ ∃ n101 : Int, w36.cell? ⟨w26.heap.size, 1, none⟩ = some (.int .i64 n101) ∧ ∃ n102 : Int, w36.cell? ⟨w26.heap.size, 2, none⟩ = some (.int .i64 n102) ∧ CallW Try.prog 18 #[.agg #[.int .i64 n99, .slice l100.a l100.len l100.cap], .int .i64 n101, .int .i64 n102] w36 fun v103 w104 => ∃ n105 : Int, ∃ l106 : Sl, ∃ n107 : Int, v103 = .tuple #[.agg #[.int .i64 n105, .slice l106.a l106.len l106.cap], .int .i64 n107] ∧ LetW (w104.alloc (.cells #[.int .i64 0, .slice none 0 0] 29)) fun w108 => MayN w108 ⟨w104.heap.size, 0, none⟩ 2 ∧ LetW (puts w108 ⟨w104.heap.size, 0, none⟩ 0 [.int .i64 n105, .slice l106.a l106.len l106.cap]) fun w109 => ∃ n110 : Int, w109.cell? ⟨w5.heap.size, 0, none⟩ = some (.int .i64 n110) ∧ ∃ l111 : Sl, w109.cell? ⟨w5.heap.size, 1, none⟩ = some (.slice l111.a l111.len l111.cap) ∧ ∃ n112 : Int, w109.cell? ⟨w26.heap.size, 1, none⟩ = some (.int .i64 n112) ∧ ∃ n113 : Int, w109.cell? ⟨w26.heap.size, 2, none⟩ = some (.int .i64 n113) ∧ CallW Try.prog 19 #[.agg #[.int .i64 n110, .slice l111.a l111.len l111.cap], .int .i64 n112, .int .i64 n113] w109 fun v114 w115 => ∃ n116 : Int, ∃ l117 : Sl, ∃ n118 : Int, v114 = .tuple #[.agg #[.int .i64 n116, .slice l117.a l117.len l117.cap], .int .i64 n118] ∧ LetW (w115.alloc (.cells #[.int .i64 0, .slice none 0 0] 29)) fun w119 => MayN w119 ⟨w115.heap.size, 0, none⟩ 2 ∧ LetW (puts w119 ⟨w115.heap.size, 0, none⟩ 0 [.int .i64 n116, .slice l117.a l117.len l117.cap]) fun w120 => BIf ((n107 : Int) != n118) (K (.bool false) w120) (JoinW [.bool] (fun J122 => BIf (decide ((n107 : Int) ≥ 0)) (∃ l127 : Sl, w120.cell? ⟨w104.heap.size, 1, none⟩ = some (.slice l127.a l127.len l127.cap) ∧ J122 ((((l127.len : Nat) : Int) : Int) != ((l37.len : Nat) : Int)) w120) (J122 false w120)) (fun (b121 : Bool) w123 => BIf b121 (K (.bool false) w123) (∃ n124 : Int, w123.cell? ⟨w104.heap.size, 0, none⟩ = some (.int .i64 n124) ∧ ∃ l125 : Sl, w123.cell? ⟨w104.heap.size, 1, none⟩ = some (.slice l125.a l125.len l125.cap) ∧ MayN w123 ⟨w5.heap.size, 0, none⟩ 2 ∧ LetW (puts w123 ⟨w5.heap.size, 0, none⟩ 0 [.int .i64 n124, .slice l125.a l125.len l125.cap]) fun w126 => J38 w126)))) (BIf ((n70 : Int) == 2) (∃ n128 : Int, w36.cell? ⟨w5.heap.size, 0, none⟩ = some (.int .i64 n128) ∧ ∃ l129 : Sl, w36.cell? ⟨w5.heap.size, 1, none⟩ = some (.slice l129.a l129.len l129.cap) ∧ ∃ n130 : Int, w36.cell? ⟨w26.heap.size, 1, none⟩ = some (.int .i64 n130) ∧ CallW Try.prog 20 #[.agg #[.int .i64 n128, .slice l129.a l129.len l129.cap], .int .i64 n130] w36 fun v131 w132 => ∃ n133 : Int, ∃ l134 : Sl, ∃ b135 : Bool, v131 = .tuple #[.agg #[.int .i64 n133, .slice l134.a l134.len l134.cap], .bool b135] ∧ LetW (w132.alloc (.cells #[.int .i64 0, .slice none 0 0] 29)) fun w136 => MayN w136 ⟨w132.heap.size, 0, none⟩ 2 ∧ LetW (puts w136 ⟨w132.heap.size, 0, none⟩ 0 [.int .i64 n133, .slice l134.a l134.len l134.cap]) fun w137 => ∃ n138 : Int, w137.cell? ⟨w5.heap.size, 0, none⟩ = some (.int .i64 n138) ∧ ∃ l139 : Sl, w137.cell? ⟨w5.heap.size, 1, none⟩ = some (.slice l139.a l139.len l139.cap) ∧ ∃ n140 : Int, w137.cell? ⟨w26.heap.size, 1, none⟩ = some (.int .i64 n140) ∧ CallW Try.prog 21 #[.agg #[.int .i64 n138, .slice l139.a l139.len l139.cap], .int .i64 n140] w137 fun v141 w142 => ∃ n143 : Int, ∃ l144 : Sl, ∃ b145 : Bool, v141 = .tuple #[.agg #[.int .i64 n143, .slice l144.a l144.len l144.cap], .bool b145] ∧ LetW (w142.alloc (.cells #[.int .i64 0, .slice none 0 0] 29)) fun w146 => MayN w146 ⟨w142.heap.size, 0, none⟩ 2 ∧ LetW (puts w146 ⟨w142.heap.size, 0, none⟩ 0 [.int .i64 n143, .slice l144.a l144.len l144.cap]) fun w147 => BIf (!(b135 == b145)) (K (.bool false) w147) (JoinW [.bool] (fun J149 => BIf b135 (∃ l154 : Sl, w147.cell? ⟨w132.heap.size, 1, none⟩ = some (.slice l154.a l154.len l154.cap) ∧ J149 ((((l154.len : Nat) : Int) : Int) != (IntKind.wrap .i64 (((l37.len : Nat) : Int) - 1))) w147) (J149 false w147)) (fun (b148 : Bool) w150 => BIf b148 (K (.bool false) w150) (∃ n151 : Int, w150.cell? ⟨w132.heap.size, 0, none⟩ = some (.int .i64 n151) ∧ ∃ l152 : Sl, w150.cell? ⟨w132.heap.size, 1, none⟩ = some (.slice l152.a l152.len l152.cap) ∧ MayN w150 ⟨w5.heap.size, 0, none⟩ 2 ∧ LetW (puts w150 ⟨w5.heap.size, 0, none⟩ 0 [.int .i64 n151, .slice l152.a l152.len l152.cap]) fun w153 => J38 w153)))) (J38 w36)))) (fun w39 => ∃ n40 : Int, w39.cell? ⟨w5.heap.size, 0, none⟩ = some (.int .i64 n40) ∧ ∃ l41 : Sl, w39.cell? ⟨w5.heap.size, 1, none⟩ = some (.slice l41.a l41.len l41.cap) ∧ CallW Try.prog 22 #[.agg #[.int .i64 n40, .slice l41.a l41.len l41.cap]] w39 fun v42 w43 => ∃ n44 : Int, ∃ n45 : Int, ∃ n46 : Int, ∃ n47 : Int, v42 = .agg #[.int .i64 n44, .int .i64 n45, .int .i64 n46, .int .i64 n47] ∧ LetW (w43.alloc (.cells #[.int .i64 0, .int .i64 0, .int .i64 0, .int .i64 0] 39)) fun w48 => MayN w48 ⟨w43.heap.size, 0, none⟩ 4 ∧ LetW (puts w48 ⟨w43.heap.size, 0, none⟩ 0 [.int .i64 n44, .int .i64 n45, .int .i64 n46, .int .i64 n47]) fun w49 => ∃ n50 : Int, w49.cell? ⟨w5.heap.size, 0, none⟩ = some (.int .i64 n50) ∧ ∃ l51 : Sl, w49.cell? ⟨w5.heap.size, 1, none⟩ = some (.slice l51.a l51.len l51.cap) ∧ CallW Try.prog 15 #[.agg #[.int .i64 n50, .slice l51.a l51.len l51.cap]] w49 fun v52 w53 => ∃ b54 : Bool, v52 = .bool b54 ∧ JoinW [.bool] (fun J56 => BIf (!b54) (J56 true w53) (∃ n68 : Int, w53.cell? ⟨w43.heap.size, 0, none⟩ = some (.int .i64 n68) ∧ ∃ n69 : Int, w53.cell? ⟨w43.heap.size, 1, none⟩ = some (.int .i64 n69) ∧ J56 ((IntKind.wrap .i64 (n68 + n69) : Int) != n6) w53)) (fun (b55 : Bool) w57 => JoinW [.bool] (fun J59 => BIf b55 (J59 true w57) (∃ n66 : Int, w57.cell? ⟨w43.heap.size, 2, none⟩ = some (.int .i64 n66) ∧ ∃ n67 : Int, w57.cell? ⟨w43.heap.size, 1, none⟩ = some (.int .i64 n67) ∧ J59 (decide ((n66 : Int) > n67)) w57)) (fun (b58 : Bool) w60 => JoinW [.bool] (fun J62 => BIf b58 (J62 true w60) (∃ n64 : Int, w60.cell? ⟨w43.heap.size, 3, none⟩ = some (.int .i64 n64) ∧ ∃ l65 : Sl, w60.cell? ⟨w5.heap.size, 1, none⟩ = some (.slice l65.a l65.len l65.cap) ∧ J62 ((n64 : Int) != ((l65.len : Nat) : Int)) w60)) (fun (b61 : Bool) w63 => BIf b61 (K (.bool false) w63) (J22 (IntKind.wrap .i64 (n21 + 1)) w63)))))))) (LoopW [] (fun J156 => fun w157 => ∃ l158 : Sl, w157.cell? ⟨w5.heap.size, 1, none⟩ = some (.slice l158.a l158.len l158.cap) ∧ BIf (decide ((((l158.len : Nat) : Int) : Int) > 0)) (JoinW [.ptr, .bool] (fun J161 => ∃ n167 : Int, w157.drew.cell? ⟨w5.heap.size, 0, none⟩ = some (.int .i64 n167) ∧ ∃ l168 : Sl, w157.drew.cell? ⟨w5.heap.size, 1, none⟩ = some (.slice l168.a l168.len l168.cap) ∧ ∃ l169 : Sl, w157.drew.cell? ⟨w5.heap.size, 1, none⟩ = some (.slice l169.a l169.len l169.cap) ∧ ∃ l170 : Sl, w157.drew.cell? ⟨w5.heap.size, 1, none⟩ = some (.slice l170.a l170.len l170.cap) ∧ ((l170.len : Nat) : Int) ≠ 0 ∧ 0 ≤ (Int.tmod ((a0.len : Nat) : Int) ((l170.len : Nat) : Int) : Int) ∧ (Int.tmod ((a0.len : Nat) : Int) ((l170.len : Nat) : Int) : Int) < ((l169.len : Nat) : Int) ∧ ∃ q171 : Addr, (l169.a : Option Addr) = some q171 ∧ ∃ n172 : Int, w157.drew.cell? ((q171.add (Int.toNat (Int.tmod ((a0.len : Nat) : Int) ((l170.len : Nat) : Int)) * 2)).add 0) = some (.int .i64 n172) ∧ (CallW Try.prog 20 #[.agg #[.int .i64 n167, .slice l168.a l168.len l168.cap], .int .i64 n172] w157.drew fun v185 w186 => ∃ n187 : Int, ∃ l188 : Sl, ∃ b189 : Bool, v185 = .tuple #[.agg #[.int .i64 n187, .slice l188.a l188.len l188.cap], .bool b189] ∧ (LetW (w186.alloc (.cells #[.int .i64 0, .slice none 0 0] 29)) fun w190 => (∃ n191 : Int, w190.cell? ((q171.add (Int.toNat (Int.tmod ((a0.len : Nat) : Int) ((l170.len : Nat) : Int)) * 2)).add 0) = some (.int .i64 n191) ∧ (.int .i64 n191 : Value) = (.int .i64 n172 : Value)) ∧ ((.int .i64 ((l170.len : Nat) : Int) : Value) = (.int .i64 ((l170.len : Nat) : Int) : Value)) ∧ (∃ l192 : Sl, w190.cell? ⟨w5.heap.size, 1, none⟩ = some (.slice l192.a l192.len l192.cap) ∧ (.slice l192.a l192.len l192.cap : Value) = (.slice l170.a l170.len l170.cap : Value)) ∧ ((.int .i64 ((a0.len : Nat) : Int) : Value) = (.int .i64 ((a0.len : Nat) : Int) : Value)) ∧ (∃ l193 : Sl, w190.cell? ⟨w5.heap.size, 1, none⟩ = some (.slice l193.a l193.len l193.cap) ∧ (.slice l193.a l193.len l193.cap : Value) = (.slice l169.a l169.len l169.cap : Value)) ∧ (∃ n194 : Int, w190.cell? ⟨w5.heap.size, 0, none⟩ = some (.int .i64 n194) ∧ ∃ l195 : Sl, w190.cell? ⟨w5.heap.size, 1, none⟩ = some (.slice l195.a l195.len l195.cap) ∧ (.agg #[.int .i64 n194, .slice l195.a l195.len l195.cap] : Value) = (.agg #[.int .i64 n167, .slice l168.a l168.len l168.cap] : Value)) ∧ (MayN w190 ⟨w186.heap.size, 0, none⟩ 2 ∧ LetW (puts w190 ⟨w186.heap.size, 0, none⟩ 0 [.int .i64 n187, .slice l188.a l188.len l188.cap]) fun w196 => J161 (some ⟨w186.heap.size, 0, none⟩) b189 w196) ∧ (True)) ∧ (True)) ∧ ((LetW (w157.drew.alloc (.cells #[.int .i64 0, .slice none 0 0] 29)) fun w173 => (∃ n174 : Int, w173.cell? ((q171.add (Int.toNat (Int.tmod ((a0.len : Nat) : Int) ((l170.len : Nat) : Int)) * 2)).add 0) = some (.int .i64 n174) ∧ (.int .i64 n174 : Value) = (.int .i64 n172 : Value)) ∧ ((.int .i64 ((l170.len : Nat) : Int) : Value) = (.int .i64 ((l170.len : Nat) : Int) : Value)) ∧ (∃ l175 : Sl, w173.cell? ⟨w5.heap.size, 1, none⟩ = some (.slice l175.a l175.len l175.cap) ∧ (.slice l175.a l175.len l175.cap : Value) = (.slice l170.a l170.len l170.cap : Value)) ∧ ((.int .i64 ((a0.len : Nat) : Int) : Value) = (.int .i64 ((a0.len : Nat) : Int) : Value)) ∧ (∃ l176 : Sl, w173.cell? ⟨w5.heap.size, 1, none⟩ = some (.slice l176.a l176.len l176.cap) ∧ (.slice l176.a l176.len l176.cap : Value) = (.slice l169.a l169.len l169.cap : Value)) ∧ (∃ n177 : Int, w173.cell? ⟨w5.heap.size, 0, none⟩ = some (.int .i64 n177) ∧ ∃ l178 : Sl, w173.cell? ⟨w5.heap.size, 1, none⟩ = some (.slice l178.a l178.len l178.cap) ∧ (.agg #[.int .i64 n177, .slice l178.a l178.len l178.cap] : Value) = (.agg #[.int .i64 n167, .slice l168.a l168.len l168.cap] : Value)) ∧ (CallW Try.prog 20 #[.agg #[.int .i64 n167, .slice l168.a l168.len l168.cap], .int .i64 n172] w173 fun v179 w180 => ∃ n181 : Int, ∃ l182 : Sl, ∃ b183 : Bool, v179 = .tuple #[.agg #[.int .i64 n181, .slice l182.a l182.len l182.cap], .bool b183] ∧ (MayN w180 ⟨w157.drew.heap.size, 0, none⟩ 2 ∧ LetW (puts w180 ⟨w157.drew.heap.size, 0, none⟩ 0 [.int .i64 n181, .slice l182.a l182.len l182.cap]) fun w184 => J161 (some ⟨w157.drew.heap.size, 0, none⟩) b183 w184) ∧ (True)) ∧ (True)) ∧ (True))) (fun (p159 : Option Addr) (b160 : Bool) w162 => BIf (!b160) (K (.bool false) w162) (addrOf (some (.pointer p159)) fun p163 => ∃ n164 : Int, w162.cell? (p163.add 0) = some (.int .i64 n164) ∧ ∃ l165 : Sl, w162.cell? (p163.add 1) = some (.slice l165.a l165.len l165.cap) ∧ MayN w162 ⟨w5.heap.size, 0, none⟩ 2 ∧ LetW (puts w162 ⟨w5.heap.size, 0, none⟩ 0 [.int .i64 n164, .slice l165.a l165.len l165.cap]) fun w166 => J156 w166))) (∃ n197 : Int, w157.cell? ⟨w5.heap.size, 0, none⟩ = some (.int .i64 n197) ∧ ∃ l198 : Sl, w157.cell? ⟨w5.heap.size, 1, none⟩ = some (.slice l198.a l198.len l198.cap) ∧ CallW Try.prog 22 #[.agg #[.int .i64 n197, .slice l198.a l198.len l198.cap]] w157 fun v199 w200 => ∃ n201 : Int, ∃ n202 : Int, ∃ n203 : Int, ∃ n204 : Int, v199 = .agg #[.int .i64 n201, .int .i64 n202, .int .i64 n203, .int .i64 n204] ∧ LetW (w200.alloc (.cells #[.int .i64 0, .int .i64 0, .int .i64 0, .int .i64 0] 39)) fun w205 => MayN w205 ⟨w200.heap.size, 0, none⟩ 4 ∧ LetW (puts w205 ⟨w200.heap.size, 0, none⟩ 0 [.int .i64 n201, .int .i64 n202, .int .i64 n203, .int .i64 n204]) fun w206 => ∃ n207 : Int, w206.cell? ⟨w200.heap.size, 0, none⟩ = some (.int .i64 n207) ∧ JoinW [.bool] (fun J209 => BIf ((n207 : Int) == 0) (∃ n215 : Int, w206.cell? ⟨w200.heap.size, 1, none⟩ = some (.int .i64 n215) ∧ J209 ((n215 : Int) == n6) w206) (J209 false w206)) (fun (b208 : Bool) w210 => JoinW [.bool] (fun J212 => BIf b208 (∃ n214 : Int, w210.cell? ⟨w200.heap.size, 2, none⟩ = some (.int .i64 n214) ∧ J212 ((n214 : Int) == n6) w210) (J212 false w210)) (fun (b211 : Bool) w213 => K (.bool b211) w213)))) () w26))) ((0 : Int), ()) w13))
theorem eq3 (a0 : Sl) (w : World) (K : Value → World → Prop) : denFn Try.prog tt Try.f3 an3 [.slice a0.a a0.len a0.cap] w K = W3 a0 w K := by kernel_rfl
/- loop.example/g00008/laws.big -/
def an13 : Ann := (.seq .leaf (.seq .leaf .leaf))
def W13 (a0 : Sl) (w : World) (K : Value → World → Prop) : Prop :=
  K (.bool (decide ((((a0.len : Nat) : Int) : Int) > 1048576))) w
theorem eq13 (a0 : Sl) (w : World) (K : Value → World → Prop) : denFn Try.prog tt Try.f13 an13 [.slice a0.a a0.len a0.cap] w K = W13 a0 w K := by kernel_rfl
theorem ok13 : OkFn Try.prog 13 := ⟨Try.f13, Try.func13, by kernel_rfl, by kernel_rfl⟩
theorem go13 {a0 : Sl} {w : World} {K : Value → World → Prop} (h : W13 a0 w K) : CallW Try.prog 13 #[.slice a0.a a0.len a0.cap] w K :=
  .inl ⟨ok13, denFn_sound tt_ok mix Try.func13 (by kernel_rfl) (eq13 a0 w K ▸ h)⟩

/- loop.example/g00008/spec.DrawHeapRun -/
def an14 : Ann := (.seq .leaf (.seq .leaf (.seq .leaf (.seq .leaf (.seq .leaf (.seq .leaf (.seq (.seq .leaf (.in_ (.loop 240 [(8, .slice), (9, .int .i64)] (.seq (.seq .leaf (.cond .leaf .leaf)) (.seq (.in_ (.seq .leaf (.seq .leaf (.seq .leaf (.cond (.seq .leaf .leaf) .leaf))))) .leaf))))) (.seq .leaf .leaf))))))))
def W14 (a0 : Sl) (w : World) (K : Value → World → Prop) : Prop :=
  CallW Try.prog 61 #[.slice a0.a a0.len a0.cap] w fun v1 w2 => ∃ p3 : Option Addr, v1 = .pointer p3 ∧ CallW Try.prog 62 #[.pointer p3] w2 fun v4 w5 => ∃ n6 : Int, v4 = .int .i64 n6 ∧ LetW (w5.alloc (.cells #[.int .i64 0, .slice none 0 0] 29)) fun w7 => MayN w7 ⟨w5.heap.size, 0, none⟩ 2 ∧ LetW (puts w7 ⟨w5.heap.size, 0, none⟩ 0 [.int .i64 n6, .slice none 0 0]) fun w8 => CallW Try.prog 63 #[.pointer p3, .int .i64 30] w8 fun v9 w10 => ∃ n11 : Int, v9 = .int .i64 n11 ∧ LetW (w10.alloc (.cells #[] 32)) fun w12 => LoopW [.slice, .int .i64] (fun J15 => fun (l13 : Sl) (n14 : Int) w16 => BIf (decide ((n14 : Int) < n11)) (∃ n17 : Int, w16.cell? ⟨w5.heap.size, 0, none⟩ = some (.int .i64 n17) ∧ ∃ l18 : Sl, w16.cell? ⟨w5.heap.size, 1, none⟩ = some (.slice l18.a l18.len l18.cap) ∧ CallW Try.prog 64 #[.pointer p3, .agg #[.int .i64 n17, .slice l18.a l18.len l18.cap]] w16 fun v19 w20 => ∃ n21 : Int, ∃ n22 : Int, ∃ n23 : Int, v19 = .agg #[.int .i64 n21, .int .i64 n22, .int .i64 n23] ∧ LetW (w20.alloc (.cells #[.int .i64 0, .int .i64 0, .int .i64 0] 32)) fun w24 => MayN w24 ⟨w20.heap.size, 0, none⟩ 3 ∧ LetW (puts w24 ⟨w20.heap.size, 0, none⟩ 0 [.int .i64 n21, .int .i64 n22, .int .i64 n23]) fun w25 => ∃ n26 : Int, w25.cell? ⟨w20.heap.size, 0, none⟩ = some (.int .i64 n26) ∧ ∃ n27 : Int, w25.cell? ⟨w20.heap.size, 1, none⟩ = some (.int .i64 n27) ∧ ∃ n28 : Int, w25.cell? ⟨w20.heap.size, 2, none⟩ = some (.int .i64 n28) ∧ LetW (w25.alloc (.cells #[.int .i64 n26, .int .i64 n27, .int .i64 n28] 32)) fun w29 => AppendW 32 ti32 l13 ⟨some ⟨w25.heap.size, 0, none⟩, 1, 1⟩ w29 fun l30 w31 => ∃ n32 : Int, w31.cell? ⟨w5.heap.size, 0, none⟩ = some (.int .i64 n32) ∧ ∃ l33 : Sl, w31.cell? ⟨w5.heap.size, 1, none⟩ = some (.slice l33.a l33.len l33.cap) ∧ CallW Try.prog 15 #[.agg #[.int .i64 n32, .slice l33.a l33.len l33.cap]] w31 fun v34 w35 => ∃ b36 : Bool, v34 = .bool b36 ∧ BIf b36 (∃ n37 : Int, w35.cell? ⟨w5.heap.size, 0, none⟩ = some (.int .i64 n37) ∧ ∃ l38 : Sl, w35.cell? ⟨w5.heap.size, 1, none⟩ = some (.slice l38.a l38.len l38.cap) ∧ ∃ n39 : Int, w35.cell? ⟨w20.heap.size, 0, none⟩ = some (.int .i64 n39) ∧ ∃ n40 : Int, w35.cell? ⟨w20.heap.size, 1, none⟩ = some (.int .i64 n40) ∧ ∃ n41 : Int, w35.cell? ⟨w20.heap.size, 2, none⟩ = some (.int .i64 n41) ∧ CallW Try.prog 65 #[.agg #[.int .i64 n37, .slice l38.a l38.len l38.cap], .agg #[.int .i64 n39, .int .i64 n40, .int .i64 n41]] w35 fun v42 w43 => ∃ n44 : Int, ∃ l45 : Sl, ∃ n46 : Int, v42 = .tuple #[.agg #[.int .i64 n44, .slice l45.a l45.len l45.cap], .int .i64 n46] ∧ LetW (w43.alloc (.cells #[.int .i64 0, .slice none 0 0] 29)) fun w47 => MayN w47 ⟨w43.heap.size, 0, none⟩ 2 ∧ LetW (puts w47 ⟨w43.heap.size, 0, none⟩ 0 [.int .i64 n44, .slice l45.a l45.len l45.cap]) fun w48 => ∃ n49 : Int, w48.cell? ⟨w43.heap.size, 0, none⟩ = some (.int .i64 n49) ∧ ∃ l50 : Sl, w48.cell? ⟨w43.heap.size, 1, none⟩ = some (.slice l50.a l50.len l50.cap) ∧ MayN w48 ⟨w5.heap.size, 0, none⟩ 2 ∧ LetW (puts w48 ⟨w5.heap.size, 0, none⟩ 0 [.int .i64 n49, .slice l50.a l50.len l50.cap]) fun w51 => J15 l30 (IntKind.wrap .i64 (n14 + 1)) w51) (J15 l30 (IntKind.wrap .i64 (n14 + 1)) w35)) (K (.tuple #[.int .i64 n6, .slice l13.a l13.len l13.cap]) w16)) ((⟨some ⟨w10.heap.size, 0, none⟩, 0, 0⟩ : Sl), ((0 : Int), ())) w12
theorem eq14 (a0 : Sl) (w : World) (K : Value → World → Prop) : denFn Try.prog tt Try.f14 an14 [.slice a0.a a0.len a0.cap] w K = W14 a0 w K := by kernel_rfl
theorem ok14 : OkFn Try.prog 14 := ⟨Try.f14, Try.func14, by kernel_rfl, by kernel_rfl⟩
theorem go14 {a0 : Sl} {w : World} {K : Value → World → Prop} (h : W14 a0 w K) : CallW Try.prog 14 #[.slice a0.a a0.len a0.cap] w K :=
  .inl ⟨ok14, denFn_sound tt_ok mix Try.func14 (by kernel_rfl) (eq14 a0 w K ▸ h)⟩

/- loop.example/g00008/spec.HeapOk -/
def an15 : Ann := (.seq .leaf (.seq (.seq (.reg [(4, none), (4, some (2, [(13, .bool)])), (1, none), (5, some (2, [(19, .bool)])), (1, none), (5, some (2, [(25, .bool)]))]) (.cond (.seq .leaf .leaf) .leaf)) (.seq .leaf (.seq (.seq .leaf (.in_ (.loop 2 [(3, .int .i64), (4, .int .i64)] (.seq (.seq .leaf (.cond .leaf .leaf)) (.seq (.in_ (.seq .leaf (.seq (.seq (.reg [(5, none), (5, some (50, [(47, .bool)])), (1, none), (4, some (50, [(52, .bool)])), (1, none), (5, some (50, [(58, .bool)])), (1, none), (6, some (50, [(65, .bool)])), (1, none), (9, some (50, [(75, .bool)]))]) (.cond (.seq .leaf .leaf) .leaf)) .leaf))) .leaf))))) (.seq .leaf .leaf)))))
def W15 (a0_0 : Int) (a0_1 : Sl) (w : World) (K : Value → World → Prop) : Prop :=
  LetW (w.alloc (.cells #[.int .i64 a0_0, .slice a0_1.a a0_1.len a0_1.cap] 29)) fun w1 => ∃ n2 : Int, w1.cell? ⟨w.heap.size, 0, none⟩ = some (.int .i64 n2) ∧ JoinW [.bool] (fun J4 => BIf (decide ((n2 : Int) < 0)) (J4 true w1) (∃ n51 : Int, w1.cell? ⟨w.heap.size, 0, none⟩ = some (.int .i64 n51) ∧ J4 (decide ((n51 : Int) > 65536)) w1)) (fun (b3 : Bool) w5 => JoinW [.bool] (fun J7 => BIf b3 (J7 true w5) (∃ n50 : Int, w5.cell? ⟨w.heap.size, 0, none⟩ = some (.int .i64 n50) ∧ (8 : Int) ≠ 0 ∧ J7 ((Int.tmod n50 8 : Int) != 0) w5)) (fun (b6 : Bool) w8 => JoinW [.bool] (fun J10 => BIf b6 (J10 true w8) (∃ l49 : Sl, w8.cell? ⟨w.heap.size, 1, none⟩ = some (.slice l49.a l49.len l49.cap) ∧ J10 (decide ((((l49.len : Nat) : Int) : Int) > 512)) w8)) (fun (b9 : Bool) w11 => BIf b9 (K (.bool false) w11) (LoopW [.int .i64, .int .i64] (fun J14 => fun (n12 : Int) (n13 : Int) w15 => ∃ l16 : Sl, w15.cell? ⟨w.heap.size, 1, none⟩ = some (.slice l16.a l16.len l16.cap) ∧ BIf (decide ((n13 : Int) < ((l16.len : Nat) : Int))) (∃ l17 : Sl, w15.cell? ⟨w.heap.size, 1, none⟩ = some (.slice l17.a l17.len l17.cap) ∧ 0 ≤ (n13 : Int) ∧ (n13 : Int) < ((l17.len : Nat) : Int) ∧ ∃ q18 : Addr, (l17.a : Option Addr) = some q18 ∧ ∃ n19 : Int, w15.cell? ((q18.add (Int.toNat n13 * 2)).add 0) = some (.int .i64 n19) ∧ ∃ n20 : Int, w15.cell? ((q18.add (Int.toNat n13 * 2)).add 1) = some (.int .i64 n20) ∧ LetW (w15.alloc (.cells #[.int .i64 0, .int .i64 0] 42)) fun w21 => MayN w21 ⟨w15.heap.size, 0, none⟩ 2 ∧ LetW (puts w21 ⟨w15.heap.size, 0, none⟩ 0 [.int .i64 n19, .int .i64 n20]) fun w22 => ∃ n23 : Int, w22.cell? ⟨w15.heap.size, 0, none⟩ = some (.int .i64 n23) ∧ JoinW [.bool] (fun J25 => BIf (decide ((n23 : Int) < n12)) (J25 true w22) (∃ n48 : Int, w22.cell? ⟨w15.heap.size, 0, none⟩ = some (.int .i64 n48) ∧ (8 : Int) ≠ 0 ∧ J25 ((Int.tmod n48 8 : Int) != 0) w22)) (fun (b24 : Bool) w26 => JoinW [.bool] (fun J28 => BIf b24 (J28 true w26) (∃ n47 : Int, w26.cell? ⟨w15.heap.size, 1, none⟩ = some (.int .i64 n47) ∧ J28 (decide ((n47 : Int) ≤ 0)) w26)) (fun (b27 : Bool) w29 => JoinW [.bool] (fun J31 => BIf b27 (J31 true w29) (∃ n46 : Int, w29.cell? ⟨w15.heap.size, 1, none⟩ = some (.int .i64 n46) ∧ (8 : Int) ≠ 0 ∧ J31 ((Int.tmod n46 8 : Int) != 0) w29)) (fun (b30 : Bool) w32 => JoinW [.bool] (fun J34 => BIf b30 (J34 true w32) (∃ n44 : Int, w32.cell? ⟨w15.heap.size, 1, none⟩ = some (.int .i64 n44) ∧ ∃ n45 : Int, w32.cell? ⟨w.heap.size, 0, none⟩ = some (.int .i64 n45) ∧ J34 (decide ((n44 : Int) > n45)) w32)) (fun (b33 : Bool) w35 => JoinW [.bool] (fun J37 => BIf b33 (J37 true w35) (∃ n41 : Int, w35.cell? ⟨w15.heap.size, 0, none⟩ = some (.int .i64 n41) ∧ ∃ n42 : Int, w35.cell? ⟨w.heap.size, 0, none⟩ = some (.int .i64 n42) ∧ ∃ n43 : Int, w35.cell? ⟨w15.heap.size, 1, none⟩ = some (.int .i64 n43) ∧ J37 (decide ((n41 : Int) > (IntKind.wrap .i64 (n42 - n43)))) w35)) (fun (b36 : Bool) w38 => BIf b36 (K (.bool false) w38) (∃ n39 : Int, w38.cell? ⟨w15.heap.size, 0, none⟩ = some (.int .i64 n39) ∧ ∃ n40 : Int, w38.cell? ⟨w15.heap.size, 1, none⟩ = some (.int .i64 n40) ∧ J14 (IntKind.wrap .i64 (n39 + n40)) (IntKind.wrap .i64 (n13 + 1)) w38))))))) (K (.bool true) w15)) ((0 : Int), ((0 : Int), ())) w11))))
theorem eq15 (a0_0 : Int) (a0_1 : Sl) (w : World) (K : Value → World → Prop) : denFn Try.prog tt Try.f15 an15 [.agg #[.int .i64 a0_0, .slice a0_1.a a0_1.len a0_1.cap]] w K = W15 a0_0 a0_1 w K := by kernel_rfl
theorem ok15 : OkFn Try.prog 15 := ⟨Try.f15, Try.func15, by kernel_rfl, by kernel_rfl⟩
theorem go15 {a0_0 : Int} {a0_1 : Sl} {w : World} {K : Value → World → Prop} (h : W15 a0_0 a0_1 w K) : CallW Try.prog 15 #[.agg #[.int .i64 a0_0, .slice a0_1.a a0_1.len a0_1.cap]] w K :=
  .inl ⟨ok15, denFn_sound tt_ok mix Try.func15 (by kernel_rfl) (eq15 a0_0 a0_1 w K ▸ h)⟩

/- loop.example/g00008/impl.HeapTake -/
def an16 : Ann := (.seq .leaf (.seq (.seq (.reg [(4, none), (3, some (22, [(14, .bool)])), (1, none), (3, some (22, [(18, .bool)]))]) (.cond (.seq .leaf .leaf) .leaf)) (.seq .leaf (.seq .leaf (.seq .leaf (.seq (.seq (.reg [(3, none), (5, some (214, [(36, .bool)]))]) (.cond (.seq .leaf .leaf) .leaf)) (.seq .leaf (.seq .leaf .leaf))))))))
def W16 (a0_0 : Int) (a0_1 : Sl) (a1 : Int) (w : World) (K : Value → World → Prop) : Prop :=
  LetW (w.alloc (.cells #[.int .i64 a0_0, .slice a0_1.a a0_1.len a0_1.cap] 29)) fun w1 => LetW (w1.alloc (.cells #[.int .i64 0, .slice none 0 0] 29)) fun w2 => ∃ n3 : Int, w2.cell? ⟨w.heap.size, 0, none⟩ = some (.int .i64 n3) ∧ ∃ l4 : Sl, w2.cell? ⟨w.heap.size, 1, none⟩ = some (.slice l4.a l4.len l4.cap) ∧ CallW Try.prog 66 #[.agg #[.int .i64 n3, .slice l4.a l4.len l4.cap]] w2 fun v5 w6 => ∃ b7 : Bool, v5 = .bool b7 ∧ JoinW [.bool] (fun J9 => BIf (!b7) (J9 true w6) (J9 (decide ((a1 : Int) < 0)) w6)) (fun (b8 : Bool) w10 => JoinW [.bool] (fun J12 => BIf b8 (J12 true w10) (J12 (decide ((a1 : Int) > 65536)) w10)) (fun (b11 : Bool) w13 => BIf b11 (MayN w13 ⟨w1.heap.size, 0, none⟩ 2 ∧ LetW (puts w13 ⟨w1.heap.size, 0, none⟩ 0 [.int .i64 0, .slice none 0 0]) fun w14 => ∃ n15 : Int, w14.cell? ⟨w1.heap.size, 0, none⟩ = some (.int .i64 n15) ∧ ∃ l16 : Sl, w14.cell? ⟨w1.heap.size, 1, none⟩ = some (.slice l16.a l16.len l16.cap) ∧ K (.tuple #[.agg #[.int .i64 n15, .slice l16.a l16.len l16.cap], .int .i64 (-1)]) w14) (∃ n17 : Int, w13.cell? ⟨w.heap.size, 0, none⟩ = some (.int .i64 n17) ∧ ∃ l18 : Sl, w13.cell? ⟨w.heap.size, 1, none⟩ = some (.slice l18.a l18.len l18.cap) ∧ CallW Try.prog 67 #[.agg #[.int .i64 n17, .slice l18.a l18.len l18.cap]] w13 fun v19 w20 => ∃ n21 : Int, ∃ l22 : Sl, v19 = .agg #[.int .i64 n21, .slice l22.a l22.len l22.cap] ∧ MayN w20 ⟨w.heap.size, 0, none⟩ 2 ∧ LetW (puts w20 ⟨w.heap.size, 0, none⟩ 0 [.int .i64 n21, .slice l22.a l22.len l22.cap]) fun w23 => CallW Try.prog 68 #[.int .i64 a1] w23 fun v24 w25 => ∃ n26 : Int, v24 = .int .i64 n26 ∧ CallW Try.prog 69 #[.pointer (some ⟨w.heap.size, 0, none⟩), .int .i64 n26] w25 fun v27 w28 => ∃ n29 : Int, ∃ n30 : Int, v27 = .tuple #[.int .i64 n29, .int .i64 n30] ∧ JoinW [.bool] (fun J32 => BIf (decide ((n29 : Int) < 0)) (J32 true w28) (∃ l50 : Sl, w28.cell? ⟨w.heap.size, 1, none⟩ = some (.slice l50.a l50.len l50.cap) ∧ J32 (decide ((((l50.len : Nat) : Int) : Int) ≥ 512)) w28)) (fun (b31 : Bool) w33 => BIf b31 (∃ n34 : Int, w33.cell? ⟨w.heap.size, 0, none⟩ = some (.int .i64 n34) ∧ ∃ l35 : Sl, w33.cell? ⟨w.heap.size, 1, none⟩ = some (.slice l35.a l35.len l35.cap) ∧ MayN w33 ⟨w1.heap.size, 0, none⟩ 2 ∧ LetW (puts w33 ⟨w1.heap.size, 0, none⟩ 0 [.int .i64 n34, .slice l35.a l35.len l35.cap]) fun w36 => ∃ n37 : Int, w36.cell? ⟨w1.heap.size, 0, none⟩ = some (.int .i64 n37) ∧ ∃ l38 : Sl, w36.cell? ⟨w1.heap.size, 1, none⟩ = some (.slice l38.a l38.len l38.cap) ∧ K (.tuple #[.agg #[.int .i64 n37, .slice l38.a l38.len l38.cap], .int .i64 (-1)]) w36) (∃ l39 : Sl, w33.cell? ⟨w.heap.size, 1, none⟩ = some (.slice l39.a l39.len l39.cap) ∧ LetW (w33.alloc (.cells #[.int .i64 n29, .int .i64 n26] 42)) fun w40 => CallW Try.prog 70 #[.slice l39.a l39.len l39.cap, .int .i64 n30, .slice (some ⟨w33.heap.size, 0, none⟩) 1 1] w40 fun v41 w42 => ∃ l43 : Sl, v41 = .slice l43.a l43.len l43.cap ∧ May w42 ⟨w.heap.size, 1, none⟩ ∧ LetW (w42.setCell ⟨w.heap.size, 1, none⟩ (.slice l43.a l43.len l43.cap)) fun w44 => ∃ n45 : Int, w44.cell? ⟨w.heap.size, 0, none⟩ = some (.int .i64 n45) ∧ ∃ l46 : Sl, w44.cell? ⟨w.heap.size, 1, none⟩ = some (.slice l46.a l46.len l46.cap) ∧ MayN w44 ⟨w1.heap.size, 0, none⟩ 2 ∧ LetW (puts w44 ⟨w1.heap.size, 0, none⟩ 0 [.int .i64 n45, .slice l46.a l46.len l46.cap]) fun w47 => ∃ n48 : Int, w47.cell? ⟨w1.heap.size, 0, none⟩ = some (.int .i64 n48) ∧ ∃ l49 : Sl, w47.cell? ⟨w1.heap.size, 1, none⟩ = some (.slice l49.a l49.len l49.cap) ∧ K (.tuple #[.agg #[.int .i64 n48, .slice l49.a l49.len l49.cap], .int .i64 n29]) w47)))))
theorem eq16 (a0_0 : Int) (a0_1 : Sl) (a1 : Int) (w : World) (K : Value → World → Prop) : denFn Try.prog tt Try.f16 an16 [.agg #[.int .i64 a0_0, .slice a0_1.a a0_1.len a0_1.cap], .int .i64 a1] w K = W16 a0_0 a0_1 a1 w K := by kernel_rfl
theorem ok16 : OkFn Try.prog 16 := ⟨Try.f16, Try.func16, by kernel_rfl, by kernel_rfl⟩
theorem go16 {a0_0 : Int} {a0_1 : Sl} {a1 : Int} {w : World} {K : Value → World → Prop} (h : W16 a0_0 a0_1 a1 w K) : CallW Try.prog 16 #[.agg #[.int .i64 a0_0, .slice a0_1.a a0_1.len a0_1.cap], .int .i64 a1] w K :=
  .inl ⟨ok16, denFn_sound tt_ok mix Try.func16 (by kernel_rfl) (eq16 a0_0 a0_1 a1 w K ▸ h)⟩

/- loop.example/g00008/spec.HeapTake -/
def an17 : Ann := (.seq .leaf (.seq (.seq (.reg [(4, none), (3, some (22, [(14, .bool)])), (1, none), (3, some (22, [(18, .bool)]))]) (.cond (.seq .leaf .leaf) .leaf)) (.seq (.draw [0, 0, 2, 7, 15, 31, 31, 63, 255] [0, 1, 2, 3, 4, 5, 6, 7, 8]) (.seq (.seq (.reg [(3, none), (5, some (214, [(34, .bool)]))]) (.cond (.seq .leaf .leaf) .leaf)) (.seq (.draw [0, 0, 0, 0, 8, 28, 63, 0, 127, 511] [0, 1, 2, 3, 7, 4, 5, 6, 8, 9]) .leaf)))))
def W17 (a0_0 : Int) (a0_1 : Sl) (a1 : Int) (w : World) (K : Value → World → Prop) : Prop :=
  LetW (w.alloc (.cells #[.int .i64 a0_0, .slice a0_1.a a0_1.len a0_1.cap] 29)) fun w1 => LetW (w1.alloc (.cells #[.int .i64 0, .slice none 0 0] 29)) fun w2 => ∃ n3 : Int, w2.cell? ⟨w.heap.size, 0, none⟩ = some (.int .i64 n3) ∧ ∃ l4 : Sl, w2.cell? ⟨w.heap.size, 1, none⟩ = some (.slice l4.a l4.len l4.cap) ∧ CallW Try.prog 15 #[.agg #[.int .i64 n3, .slice l4.a l4.len l4.cap]] w2 fun v5 w6 => ∃ b7 : Bool, v5 = .bool b7 ∧ JoinW [.bool] (fun J9 => BIf (!b7) (J9 true w6) (J9 (decide ((a1 : Int) < 0)) w6)) (fun (b8 : Bool) w10 => JoinW [.bool] (fun J12 => BIf b8 (J12 true w10) (J12 (decide ((a1 : Int) > 65536)) w10)) (fun (b11 : Bool) w13 => BIf b11 (MayN w13 ⟨w1.heap.size, 0, none⟩ 2 ∧ LetW (puts w13 ⟨w1.heap.size, 0, none⟩ 0 [.int .i64 0, .slice none 0 0]) fun w14 => ∃ n15 : Int, w14.cell? ⟨w1.heap.size, 0, none⟩ = some (.int .i64 n15) ∧ ∃ l16 : Sl, w14.cell? ⟨w1.heap.size, 1, none⟩ = some (.slice l16.a l16.len l16.cap) ∧ K (.tuple #[.agg #[.int .i64 n15, .slice l16.a l16.len l16.cap], .int .i64 (-1)]) w14) (∃ n17 : Int, w13.drew.cell? ⟨w.heap.size, 0, none⟩ = some (.int .i64 n17) ∧ ∃ l18 : Sl, w13.drew.cell? ⟨w.heap.size, 1, none⟩ = some (.slice l18.a l18.len l18.cap) ∧ CallW Try.prog 72 #[.int .i64 a1] w13.drew fun v19 w20 => ∃ n21 : Int, v19 = .int .i64 n21 ∧ (∃ n22 : Int, w20.cell? ⟨w.heap.size, 0, none⟩ = some (.int .i64 n22) ∧ ∃ l23 : Sl, w20.cell? ⟨w.heap.size, 1, none⟩ = some (.slice l23.a l23.len l23.cap) ∧ (.agg #[.int .i64 n22, .slice l23.a l23.len l23.cap] : Value) = (.agg #[.int .i64 n17, .slice l18.a l18.len l18.cap] : Value)) ∧ CallW Try.prog 71 #[.agg #[.int .i64 n17, .slice l18.a l18.len l18.cap], .int .i64 n21] w20 fun v24 w25 => ∃ n26 : Int, ∃ n27 : Int, v24 = .tuple #[.int .i64 n26, .int .i64 n27] ∧ JoinW [.bool] (fun J29 => BIf (decide ((n26 : Int) < 0)) (J29 true w25) (∃ l54 : Sl, w25.cell? ⟨w.heap.size, 1, none⟩ = some (.slice l54.a l54.len l54.cap) ∧ J29 (decide ((((l54.len : Nat) : Int) : Int) ≥ 512)) w25)) (fun (b28 : Bool) w30 => BIf b28 (∃ n31 : Int, w30.cell? ⟨w.heap.size, 0, none⟩ = some (.int .i64 n31) ∧ ∃ l32 : Sl, w30.cell? ⟨w.heap.size, 1, none⟩ = some (.slice l32.a l32.len l32.cap) ∧ CallW Try.prog 73 #[.agg #[.int .i64 n31, .slice l32.a l32.len l32.cap]] w30 fun v33 w34 => ∃ n35 : Int, ∃ l36 : Sl, v33 = .agg #[.int .i64 n35, .slice l36.a l36.len l36.cap] ∧ MayN w34 ⟨w1.heap.size, 0, none⟩ 2 ∧ LetW (puts w34 ⟨w1.heap.size, 0, none⟩ 0 [.int .i64 n35, .slice l36.a l36.len l36.cap]) fun w37 => ∃ n38 : Int, w37.cell? ⟨w1.heap.size, 0, none⟩ = some (.int .i64 n38) ∧ ∃ l39 : Sl, w37.cell? ⟨w1.heap.size, 1, none⟩ = some (.slice l39.a l39.len l39.cap) ∧ K (.tuple #[.agg #[.int .i64 n38, .slice l39.a l39.len l39.cap], .int .i64 (-1)]) w37) (∃ n40 : Int, w30.drew.cell? ⟨w.heap.size, 0, none⟩ = some (.int .i64 n40) ∧ ∃ l41 : Sl, w30.drew.cell? ⟨w.heap.size, 1, none⟩ = some (.slice l41.a l41.len l41.cap) ∧ CallW Try.prog 72 #[.int .i64 a1] w30.drew fun v42 w43 => ∃ n44 : Int, v42 = .int .i64 n44 ∧ (∃ n45 : Int, w43.cell? ⟨w.heap.size, 0, none⟩ = some (.int .i64 n45) ∧ ∃ l46 : Sl, w43.cell? ⟨w.heap.size, 1, none⟩ = some (.slice l46.a l46.len l46.cap) ∧ (.agg #[.int .i64 n45, .slice l46.a l46.len l46.cap] : Value) = (.agg #[.int .i64 n40, .slice l41.a l41.len l41.cap] : Value)) ∧ CallW Try.prog 74 #[.agg #[.int .i64 n40, .slice l41.a l41.len l41.cap], .int .i64 n26, .agg #[.int .i64 n27, .int .i64 n44]] w43 fun v47 w48 => ∃ n49 : Int, ∃ l50 : Sl, v47 = .agg #[.int .i64 n49, .slice l50.a l50.len l50.cap] ∧ MayN w48 ⟨w1.heap.size, 0, none⟩ 2 ∧ LetW (puts w48 ⟨w1.heap.size, 0, none⟩ 0 [.int .i64 n49, .slice l50.a l50.len l50.cap]) fun w51 => ∃ n52 : Int, w51.cell? ⟨w1.heap.size, 0, none⟩ = some (.int .i64 n52) ∧ ∃ l53 : Sl, w51.cell? ⟨w1.heap.size, 1, none⟩ = some (.slice l53.a l53.len l53.cap) ∧ K (.tuple #[.agg #[.int .i64 n52, .slice l53.a l53.len l53.cap], .int .i64 n27]) w51)))))
theorem eq17 (a0_0 : Int) (a0_1 : Sl) (a1 : Int) (w : World) (K : Value → World → Prop) : denFn Try.prog tt Try.f17 an17 [.agg #[.int .i64 a0_0, .slice a0_1.a a0_1.len a0_1.cap], .int .i64 a1] w K = W17 a0_0 a0_1 a1 w K := by kernel_rfl
theorem ok17 : OkFn Try.prog 17 := ⟨Try.f17, Try.func17, by kernel_rfl, by kernel_rfl⟩
theorem go17 {a0_0 : Int} {a0_1 : Sl} {a1 : Int} {w : World} {K : Value → World → Prop} (h : W17 a0_0 a0_1 a1 w K) : CallW Try.prog 17 #[.agg #[.int .i64 a0_0, .slice a0_1.a a0_1.len a0_1.cap], .int .i64 a1] w K :=
  .inl ⟨ok17, denFn_sound tt_ok mix Try.func17 (by kernel_rfl) (eq17 a0_0 a0_1 a1 w K ▸ h)⟩

/- loop.example/g00008/impl.HeapResize -/
def an18 : Ann := (.seq .leaf (.seq (.seq (.reg [(4, none), (3, some (78, [(18, .bool)])), (1, none), (3, some (78, [(22, .bool)]))]) (.cond (.seq .leaf .leaf) .leaf)) (.seq .leaf (.seq .leaf (.seq (.seq .leaf (.cond (.seq .leaf .leaf) .leaf)) (.seq .leaf (.seq .leaf (.join 334 [(9, .int .i64)] (.seq .leaf (.cond .leaf .leaf)) (.seq (.seq .leaf (.cond (.seq .leaf (.seq .leaf .leaf)) .leaf)) (.seq .leaf (.seq (.seq .leaf (.cond (.seq .leaf .leaf) .leaf)) (.seq .leaf (.join 1096 [(8, .int .i64)] (.seq .leaf (.cond .leaf .leaf)) (.seq .leaf (.seq .leaf .leaf)))))))))))))))
def W18 (a0_0 : Int) (a0_1 : Sl) (a1 : Int) (a2 : Int) (w : World) (K : Value → World → Prop) : Prop :=
  LetW (w.alloc (.cells #[.int .i64 a0_0, .slice a0_1.a a0_1.len a0_1.cap] 29)) fun w1 => LetW (w1.alloc (.cells #[.int .i64 0, .slice none 0 0] 29)) fun w2 => ∃ n3 : Int, w2.cell? ⟨w.heap.size, 0, none⟩ = some (.int .i64 n3) ∧ ∃ l4 : Sl, w2.cell? ⟨w.heap.size, 1, none⟩ = some (.slice l4.a l4.len l4.cap) ∧ CallW Try.prog 66 #[.agg #[.int .i64 n3, .slice l4.a l4.len l4.cap]] w2 fun v5 w6 => ∃ b7 : Bool, v5 = .bool b7 ∧ JoinW [.bool] (fun J9 => BIf (!b7) (J9 true w6) (J9 (decide ((a2 : Int) < 0)) w6)) (fun (b8 : Bool) w10 => JoinW [.bool] (fun J12 => BIf b8 (J12 true w10) (J12 (decide ((a2 : Int) > 65536)) w10)) (fun (b11 : Bool) w13 => BIf b11 (MayN w13 ⟨w1.heap.size, 0, none⟩ 2 ∧ LetW (puts w13 ⟨w1.heap.size, 0, none⟩ 0 [.int .i64 0, .slice none 0 0]) fun w14 => ∃ n15 : Int, w14.cell? ⟨w1.heap.size, 0, none⟩ = some (.int .i64 n15) ∧ ∃ l16 : Sl, w14.cell? ⟨w1.heap.size, 1, none⟩ = some (.slice l16.a l16.len l16.cap) ∧ K (.tuple #[.agg #[.int .i64 n15, .slice l16.a l16.len l16.cap], .int .i64 (-1)]) w14) (∃ n17 : Int, w13.cell? ⟨w.heap.size, 0, none⟩ = some (.int .i64 n17) ∧ ∃ l18 : Sl, w13.cell? ⟨w.heap.size, 1, none⟩ = some (.slice l18.a l18.len l18.cap) ∧ CallW Try.prog 67 #[.agg #[.int .i64 n17, .slice l18.a l18.len l18.cap]] w13 fun v19 w20 => ∃ n21 : Int, ∃ l22 : Sl, v19 = .agg #[.int .i64 n21, .slice l22.a l22.len l22.cap] ∧ MayN w20 ⟨w.heap.size, 0, none⟩ 2 ∧ LetW (puts w20 ⟨w.heap.size, 0, none⟩ 0 [.int .i64 n21, .slice l22.a l22.len l22.cap]) fun w23 => CallW Try.prog 75 #[.pointer (some ⟨w.heap.size, 0, none⟩), .int .i64 a1] w23 fun v24 w25 => ∃ n26 : Int, v24 = .int .i64 n26 ∧ BIf (decide ((n26 : Int) < 0)) (∃ n27 : Int, w25.cell? ⟨w.heap.size, 0, none⟩ = some (.int .i64 n27) ∧ ∃ l28 : Sl, w25.cell? ⟨w.heap.size, 1, none⟩ = some (.slice l28.a l28.len l28.cap) ∧ MayN w25 ⟨w1.heap.size, 0, none⟩ 2 ∧ LetW (puts w25 ⟨w1.heap.size, 0, none⟩ 0 [.int .i64 n27, .slice l28.a l28.len l28.cap]) fun w29 => ∃ n30 : Int, w29.cell? ⟨w1.heap.size, 0, none⟩ = some (.int .i64 n30) ∧ ∃ l31 : Sl, w29.cell? ⟨w1.heap.size, 1, none⟩ = some (.slice l31.a l31.len l31.cap) ∧ K (.tuple #[.agg #[.int .i64 n30, .slice l31.a l31.len l31.cap], .int .i64 (-1)]) w29) (CallW Try.prog 68 #[.int .i64 a2] w25 fun v32 w33 => ∃ n34 : Int, v32 = .int .i64 n34 ∧ ∃ n35 : Int, w33.cell? ⟨w.heap.size, 0, none⟩ = some (.int .i64 n35) ∧ JoinW [.int .i64] (fun J37 => ∃ l75 : Sl, w33.cell? ⟨w.heap.size, 1, none⟩ = some (.slice l75.a l75.len l75.cap) ∧ BIf (decide ((IntKind.wrap .i64 (n26 + 1) : Int) < ((l75.len : Nat) : Int))) (∃ l76 : Sl, w33.cell? ⟨w.heap.size, 1, none⟩ = some (.slice l76.a l76.len l76.cap) ∧ 0 ≤ (IntKind.wrap .i64 (n26 + 1) : Int) ∧ (IntKind.wrap .i64 (n26 + 1) : Int) < ((l76.len : Nat) : Int) ∧ ∃ q77 : Addr, (l76.a : Option Addr) = some q77 ∧ ∃ n78 : Int, w33.cell? ((q77.add (Int.toNat (IntKind.wrap .i64 (n26 + 1)) * 2)).add 0) = some (.int .i64 n78) ∧ J37 n78 w33) (J37 n35 w33)) (fun (n36 : Int) w38 => BIf (decide ((IntKind.wrap .i64 (n36 - a1) : Int) ≥ n34)) (∃ l39 : Sl, w38.cell? ⟨w.heap.size, 1, none⟩ = some (.slice l39.a l39.len l39.cap) ∧ 0 ≤ (n26 : Int) ∧ (n26 : Int) < ((l39.len : Nat) : Int) ∧ ∃ q40 : Addr, (l39.a : Option Addr) = some q40 ∧ May w38 ((q40.add (Int.toNat n26 * 2)).add 1) ∧ LetW (w38.setCell ((q40.add (Int.toNat n26 * 2)).add 1) (.int .i64 n34)) fun w41 => ∃ n42 : Int, w41.cell? ⟨w.heap.size, 0, none⟩ = some (.int .i64 n42) ∧ ∃ l43 : Sl, w41.cell? ⟨w.heap.size, 1, none⟩ = some (.slice l43.a l43.len l43.cap) ∧ MayN w41 ⟨w1.heap.size, 0, none⟩ 2 ∧ LetW (puts w41 ⟨w1.heap.size, 0, none⟩ 0 [.int .i64 n42, .slice l43.a l43.len l43.cap]) fun w44 => ∃ n45 : Int, w44.cell? ⟨w1.heap.size, 0, none⟩ = some (.int .i64 n45) ∧ ∃ l46 : Sl, w44.cell? ⟨w1.heap.size, 1, none⟩ = some (.slice l46.a l46.len l46.cap) ∧ K (.tuple #[.agg #[.int .i64 n45, .slice l46.a l46.len l46.cap], .int .i64 a1]) w44) (CallW Try.prog 69 #[.pointer (some ⟨w.heap.size, 0, none⟩), .int .i64 n34] w38 fun v47 w48 => ∃ n49 : Int, ∃ n50 : Int, v47 = .tuple #[.int .i64 n49, .int .i64 n50] ∧ BIf (decide ((n49 : Int) < 0)) (∃ n51 : Int, w48.cell? ⟨w.heap.size, 0, none⟩ = some (.int .i64 n51) ∧ ∃ l52 : Sl, w48.cell? ⟨w.heap.size, 1, none⟩ = some (.slice l52.a l52.len l52.cap) ∧ MayN w48 ⟨w1.heap.size, 0, none⟩ 2 ∧ LetW (puts w48 ⟨w1.heap.size, 0, none⟩ 0 [.int .i64 n51, .slice l52.a l52.len l52.cap]) fun w53 => ∃ n54 : Int, w53.cell? ⟨w1.heap.size, 0, none⟩ = some (.int .i64 n54) ∧ ∃ l55 : Sl, w53.cell? ⟨w1.heap.size, 1, none⟩ = some (.slice l55.a l55.len l55.cap) ∧ K (.tuple #[.agg #[.int .i64 n54, .slice l55.a l55.len l55.cap], .int .i64 (-1)]) w53) (∃ l56 : Sl, w48.cell? ⟨w.heap.size, 1, none⟩ = some (.slice l56.a l56.len l56.cap) ∧ LetW (w48.alloc (.cells #[.int .i64 n49, .int .i64 n34] 42)) fun w57 => CallW Try.prog 70 #[.slice l56.a l56.len l56.cap, .int .i64 n50, .slice (some ⟨w48.heap.size, 0, none⟩) 1 1] w57 fun v58 w59 => ∃ l60 : Sl, v58 = .slice l60.a l60.len l60.cap ∧ May w59 ⟨w.heap.size, 1, none⟩ ∧ LetW (w59.setCell ⟨w.heap.size, 1, none⟩ (.slice l60.a l60.len l60.cap)) fun w61 => JoinW [.int .i64] (fun J63 => BIf (decide ((n50 : Int) ≤ n26)) (J63 (IntKind.wrap .i64 (n26 + 1)) w61) (J63 n26 w61)) (fun (n62 : Int) w64 => ∃ l65 : Sl, w64.cell? ⟨w.heap.size, 1, none⟩ = some (.slice l65.a l65.len l65.cap) ∧ CallW Try.prog 76 #[.slice l65.a l65.len l65.cap, .int .i64 n62, .int .i64 (IntKind.wrap .i64 (n62 + 1))] w64 fun v66 w67 => ∃ l68 : Sl, v66 = .slice l68.a l68.len l68.cap ∧ May w67 ⟨w.heap.size, 1, none⟩ ∧ LetW (w67.setCell ⟨w.heap.size, 1, none⟩ (.slice l68.a l68.len l68.cap)) fun w69 => ∃ n70 : Int, w69.cell? ⟨w.heap.size, 0, none⟩ = some (.int .i64 n70) ∧ ∃ l71 : Sl, w69.cell? ⟨w.heap.size, 1, none⟩ = some (.slice l71.a l71.len l71.cap) ∧ MayN w69 ⟨w1.heap.size, 0, none⟩ 2 ∧ LetW (puts w69 ⟨w1.heap.size, 0, none⟩ 0 [.int .i64 n70, .slice l71.a l71.len l71.cap]) fun w72 => ∃ n73 : Int, w72.cell? ⟨w1.heap.size, 0, none⟩ = some (.int .i64 n73) ∧ ∃ l74 : Sl, w72.cell? ⟨w1.heap.size, 1, none⟩ = some (.slice l74.a l74.len l74.cap) ∧ K (.tuple #[.agg #[.int .i64 n73, .slice l74.a l74.len l74.cap], .int .i64 n49]) w72))))))))
theorem eq18 (a0_0 : Int) (a0_1 : Sl) (a1 : Int) (a2 : Int) (w : World) (K : Value → World → Prop) : denFn Try.prog tt Try.f18 an18 [.agg #[.int .i64 a0_0, .slice a0_1.a a0_1.len a0_1.cap], .int .i64 a1, .int .i64 a2] w K = W18 a0_0 a0_1 a1 a2 w K := by kernel_rfl
theorem ok18 : OkFn Try.prog 18 := ⟨Try.f18, Try.func18, by kernel_rfl, by kernel_rfl⟩
theorem go18 {a0_0 : Int} {a0_1 : Sl} {a1 : Int} {a2 : Int} {w : World} {K : Value → World → Prop} (h : W18 a0_0 a0_1 a1 a2 w K) : CallW Try.prog 18 #[.agg #[.int .i64 a0_0, .slice a0_1.a a0_1.len a0_1.cap], .int .i64 a1, .int .i64 a2] w K :=
  .inl ⟨ok18, denFn_sound tt_ok mix Try.func18 (by kernel_rfl) (eq18 a0_0 a0_1 a1 a2 w K ▸ h)⟩

/- loop.example/g00008/spec.HeapResize -/
def an19 : Ann := (.seq .leaf (.seq (.seq (.reg [(4, none), (3, some (78, [(21, .bool)])), (1, none), (3, some (78, [(25, .bool)]))]) (.cond (.seq .leaf .leaf) .leaf)) (.seq .leaf (.seq (.seq .leaf (.cond (.seq .leaf .leaf) .leaf)) (.seq .leaf (.seq .leaf (.join 842 [(10, .int .i64)] (.seq .leaf (.cond .leaf .leaf)) (.seq (.seq .leaf (.cond (.seq .leaf (.seq .leaf (.seq .leaf .leaf))) .leaf)) (.seq .leaf (.seq (.seq .leaf (.cond (.seq .leaf .leaf) .leaf)) (.seq .leaf (.seq (.draw [0, 0, 0, 6, 15, 0, 31, 127] [0, 1, 2, 5, 3, 4, 6, 7]) .leaf))))))))))))
def W19 (a0_0 : Int) (a0_1 : Sl) (a1 : Int) (a2 : Int) (w : World) (K : Value → World → Prop) : Prop :=
  LetW (w.alloc (.cells #[.int .i64 a0_0, .slice a0_1.a a0_1.len a0_1.cap] 29)) fun w1 => LetW (w1.alloc (.cells #[.int .i64 0, .slice none 0 0] 29)) fun w2 => ∃ n3 : Int, w2.cell? ⟨w.heap.size, 0, none⟩ = some (.int .i64 n3) ∧ ∃ l4 : Sl, w2.cell? ⟨w.heap.size, 1, none⟩ = some (.slice l4.a l4.len l4.cap) ∧ CallW Try.prog 15 #[.agg #[.int .i64 n3, .slice l4.a l4.len l4.cap]] w2 fun v5 w6 => ∃ b7 : Bool, v5 = .bool b7 ∧ JoinW [.bool] (fun J9 => BIf (!b7) (J9 true w6) (J9 (decide ((a2 : Int) < 0)) w6)) (fun (b8 : Bool) w10 => JoinW [.bool] (fun J12 => BIf b8 (J12 true w10) (J12 (decide ((a2 : Int) > 65536)) w10)) (fun (b11 : Bool) w13 => BIf b11 (MayN w13 ⟨w1.heap.size, 0, none⟩ 2 ∧ LetW (puts w13 ⟨w1.heap.size, 0, none⟩ 0 [.int .i64 0, .slice none 0 0]) fun w14 => ∃ n15 : Int, w14.cell? ⟨w1.heap.size, 0, none⟩ = some (.int .i64 n15) ∧ ∃ l16 : Sl, w14.cell? ⟨w1.heap.size, 1, none⟩ = some (.slice l16.a l16.len l16.cap) ∧ K (.tuple #[.agg #[.int .i64 n15, .slice l16.a l16.len l16.cap], .int .i64 (-1)]) w14) (∃ n17 : Int, w13.cell? ⟨w.heap.size, 0, none⟩ = some (.int .i64 n17) ∧ ∃ l18 : Sl, w13.cell? ⟨w.heap.size, 1, none⟩ = some (.slice l18.a l18.len l18.cap) ∧ CallW Try.prog 77 #[.agg #[.int .i64 n17, .slice l18.a l18.len l18.cap], .int .i64 a1] w13 fun v19 w20 => ∃ n21 : Int, v19 = .int .i64 n21 ∧ BIf (decide ((n21 : Int) < 0)) (∃ n22 : Int, w20.cell? ⟨w.heap.size, 0, none⟩ = some (.int .i64 n22) ∧ ∃ l23 : Sl, w20.cell? ⟨w.heap.size, 1, none⟩ = some (.slice l23.a l23.len l23.cap) ∧ CallW Try.prog 73 #[.agg #[.int .i64 n22, .slice l23.a l23.len l23.cap]] w20 fun v24 w25 => ∃ n26 : Int, ∃ l27 : Sl, v24 = .agg #[.int .i64 n26, .slice l27.a l27.len l27.cap] ∧ MayN w25 ⟨w1.heap.size, 0, none⟩ 2 ∧ LetW (puts w25 ⟨w1.heap.size, 0, none⟩ 0 [.int .i64 n26, .slice l27.a l27.len l27.cap]) fun w28 => ∃ n29 : Int, w28.cell? ⟨w1.heap.size, 0, none⟩ = some (.int .i64 n29) ∧ ∃ l30 : Sl, w28.cell? ⟨w1.heap.size, 1, none⟩ = some (.slice l30.a l30.len l30.cap) ∧ K (.tuple #[.agg #[.int .i64 n29, .slice l30.a l30.len l30.cap], .int .i64 (-1)]) w28) (CallW Try.prog 72 #[.int .i64 a2] w20 fun v31 w32 => ∃ n33 : Int, v31 = .int .i64 n33 ∧ ∃ n34 : Int, w32.cell? ⟨w.heap.size, 0, none⟩ = some (.int .i64 n34) ∧ JoinW [.int .i64] (fun J36 => ∃ l93 : Sl, w32.cell? ⟨w.heap.size, 1, none⟩ = some (.slice l93.a l93.len l93.cap) ∧ BIf (decide ((IntKind.wrap .i64 (n21 + 1) : Int) < ((l93.len : Nat) : Int))) (∃ l94 : Sl, w32.cell? ⟨w.heap.size, 1, none⟩ = some (.slice l94.a l94.len l94.cap) ∧ 0 ≤ (IntKind.wrap .i64 (n21 + 1) : Int) ∧ (IntKind.wrap .i64 (n21 + 1) : Int) < ((l94.len : Nat) : Int) ∧ ∃ q95 : Addr, (l94.a : Option Addr) = some q95 ∧ ∃ n96 : Int, w32.cell? ((q95.add (Int.toNat (IntKind.wrap .i64 (n21 + 1)) * 2)).add 0) = some (.int .i64 n96) ∧ J36 n96 w32) (J36 n34 w32)) (fun (n35 : Int) w37 => BIf (decide ((n33 : Int) ≤ (IntKind.wrap .i64 (n35 - a1)))) (∃ n38 : Int, w37.cell? ⟨w.heap.size, 0, none⟩ = some (.int .i64 n38) ∧ ∃ l39 : Sl, w37.cell? ⟨w.heap.size, 1, none⟩ = some (.slice l39.a l39.len l39.cap) ∧ CallW Try.prog 73 #[.agg #[.int .i64 n38, .slice l39.a l39.len l39.cap]] w37 fun v40 w41 => ∃ n42 : Int, ∃ l43 : Sl, v40 = .agg #[.int .i64 n42, .slice l43.a l43.len l43.cap] ∧ LetW (w41.alloc (.cells #[.int .i64 0, .slice none 0 0] 29)) fun w44 => MayN w44 ⟨w41.heap.size, 0, none⟩ 2 ∧ LetW (puts w44 ⟨w41.heap.size, 0, none⟩ 0 [.int .i64 n42, .slice l43.a l43.len l43.cap]) fun w45 => ∃ l46 : Sl, w45.cell? ⟨w41.heap.size, 1, none⟩ = some (.slice l46.a l46.len l46.cap) ∧ 0 ≤ (n21 : Int) ∧ (n21 : Int) < ((l46.len : Nat) : Int) ∧ ∃ q47 : Addr, (l46.a : Option Addr) = some q47 ∧ May w45 ((q47.add (Int.toNat n21 * 2)).add 1) ∧ LetW (w45.setCell ((q47.add (Int.toNat n21 * 2)).add 1) (.int .i64 n33)) fun w48 => ∃ n49 : Int, w48.cell? ⟨w41.heap.size, 0, none⟩ = some (.int .i64 n49) ∧ ∃ l50 : Sl, w48.cell? ⟨w41.heap.size, 1, none⟩ = some (.slice l50.a l50.len l50.cap) ∧ MayN w48 ⟨w1.heap.size, 0, none⟩ 2 ∧ LetW (puts w48 ⟨w1.heap.size, 0, none⟩ 0 [.int .i64 n49, .slice l50.a l50.len l50.cap]) fun w51 => ∃ n52 : Int, w51.cell? ⟨w1.heap.size, 0, none⟩ = some (.int .i64 n52) ∧ ∃ l53 : Sl, w51.cell? ⟨w1.heap.size, 1, none⟩ = some (.slice l53.a l53.len l53.cap) ∧ K (.tuple #[.agg #[.int .i64 n52, .slice l53.a l53.len l53.cap], .int .i64 a1]) w51) (∃ n54 : Int, w37.cell? ⟨w.heap.size, 0, none⟩ = some (.int .i64 n54) ∧ ∃ l55 : Sl, w37.cell? ⟨w.heap.size, 1, none⟩ = some (.slice l55.a l55.len l55.cap) ∧ CallW Try.prog 71 #[.agg #[.int .i64 n54, .slice l55.a l55.len l55.cap], .int .i64 n33] w37 fun v56 w57 => ∃ n58 : Int, ∃ n59 : Int, v56 = .tuple #[.int .i64 n58, .int .i64 n59] ∧ BIf (decide ((n58 : Int) < 0)) (∃ n60 : Int, w57.cell? ⟨w.heap.size, 0, none⟩ = some (.int .i64 n60) ∧ ∃ l61 : Sl, w57.cell? ⟨w.heap.size, 1, none⟩ = some (.slice l61.a l61.len l61.cap) ∧ CallW Try.prog 73 #[.agg #[.int .i64 n60, .slice l61.a l61.len l61.cap]] w57 fun v62 w63 => ∃ n64 : Int, ∃ l65 : Sl, v62 = .agg #[.int .i64 n64, .slice l65.a l65.len l65.cap] ∧ MayN w63 ⟨w1.heap.size, 0, none⟩ 2 ∧ LetW (puts w63 ⟨w1.heap.size, 0, none⟩ 0 [.int .i64 n64, .slice l65.a l65.len l65.cap]) fun w66 => ∃ n67 : Int, w66.cell? ⟨w1.heap.size, 0, none⟩ = some (.int .i64 n67) ∧ ∃ l68 : Sl, w66.cell? ⟨w1.heap.size, 1, none⟩ = some (.slice l68.a l68.len l68.cap) ∧ K (.tuple #[.agg #[.int .i64 n67, .slice l68.a l68.len l68.cap], .int .i64 (-1)]) w66) (∃ n69 : Int, w57.cell? ⟨w.heap.size, 0, none⟩ = some (.int .i64 n69) ∧ ∃ l70 : Sl, w57.cell? ⟨w.heap.size, 1, none⟩ = some (.slice l70.a l70.len l70.cap) ∧ CallW Try.prog 74 #[.agg #[.int .i64 n69, .slice l70.a l70.len l70.cap], .int .i64 n58, .agg #[.int .i64 n59, .int .i64 n33]] w57 fun v71 w72 => ∃ n73 : Int, ∃ l74 : Sl, v71 = .agg #[.int .i64 n73, .slice l74.a l74.len l74.cap] ∧ LetW (w72.alloc (.cells #[.int .i64 0, .slice none 0 0] 29)) fun w75 => MayN w75 ⟨w72.heap.size, 0, none⟩ 2 ∧ LetW (puts w75 ⟨w72.heap.size, 0, none⟩ 0 [.int .i64 n73, .slice l74.a l74.len l74.cap]) fun w76 => ∃ n77 : Int, w76.drew.cell? ⟨w72.heap.size, 0, none⟩ = some (.int .i64 n77) ∧ ∃ l78 : Sl, w76.drew.cell? ⟨w72.heap.size, 1, none⟩ = some (.slice l78.a l78.len l78.cap) ∧ ∃ n79 : Int, w76.drew.cell? ⟨w72.heap.size, 0, none⟩ = some (.int .i64 n79) ∧ ∃ l80 : Sl, w76.drew.cell? ⟨w72.heap.size, 1, none⟩ = some (.slice l80.a l80.len l80.cap) ∧ CallW Try.prog 77 #[.agg #[.int .i64 n79, .slice l80.a l80.len l80.cap], .int .i64 a1] w76.drew fun v81 w82 => ∃ n83 : Int, v81 = .int .i64 n83 ∧ (∃ n84 : Int, w82.cell? ⟨w72.heap.size, 0, none⟩ = some (.int .i64 n84) ∧ ∃ l85 : Sl, w82.cell? ⟨w72.heap.size, 1, none⟩ = some (.slice l85.a l85.len l85.cap) ∧ (.agg #[.int .i64 n84, .slice l85.a l85.len l85.cap] : Value) = (.agg #[.int .i64 n77, .slice l78.a l78.len l78.cap] : Value)) ∧ CallW Try.prog 78 #[.agg #[.int .i64 n77, .slice l78.a l78.len l78.cap], .int .i64 n83] w82 fun v86 w87 => ∃ n88 : Int, ∃ l89 : Sl, v86 = .agg #[.int .i64 n88, .slice l89.a l89.len l89.cap] ∧ MayN w87 ⟨w1.heap.size, 0, none⟩ 2 ∧ LetW (puts w87 ⟨w1.heap.size, 0, none⟩ 0 [.int .i64 n88, .slice l89.a l89.len l89.cap]) fun w90 => ∃ n91 : Int, w90.cell? ⟨w1.heap.size, 0, none⟩ = some (.int .i64 n91) ∧ ∃ l92 : Sl, w90.cell? ⟨w1.heap.size, 1, none⟩ = some (.slice l92.a l92.len l92.cap) ∧ K (.tuple #[.agg #[.int .i64 n91, .slice l92.a l92.len l92.cap], .int .i64 n59]) w90)))))))
theorem eq19 (a0_0 : Int) (a0_1 : Sl) (a1 : Int) (a2 : Int) (w : World) (K : Value → World → Prop) : denFn Try.prog tt Try.f19 an19 [.agg #[.int .i64 a0_0, .slice a0_1.a a0_1.len a0_1.cap], .int .i64 a1, .int .i64 a2] w K = W19 a0_0 a0_1 a1 a2 w K := by kernel_rfl
theorem ok19 : OkFn Try.prog 19 := ⟨Try.f19, Try.func19, by kernel_rfl, by kernel_rfl⟩
theorem go19 {a0_0 : Int} {a0_1 : Sl} {a1 : Int} {a2 : Int} {w : World} {K : Value → World → Prop} (h : W19 a0_0 a0_1 a1 a2 w K) : CallW Try.prog 19 #[.agg #[.int .i64 a0_0, .slice a0_1.a a0_1.len a0_1.cap], .int .i64 a1, .int .i64 a2] w K :=
  .inl ⟨ok19, denFn_sound tt_ok mix Try.func19 (by kernel_rfl) (eq19 a0_0 a0_1 a1 a2 w K ▸ h)⟩

/- loop.example/g00008/impl.HeapGive -/
def an20 : Ann := (.seq .leaf (.seq (.seq .leaf (.cond (.seq .leaf .leaf) .leaf)) (.seq .leaf (.seq .leaf (.seq (.seq .leaf (.cond (.seq .leaf .leaf) .leaf)) (.seq .leaf (.seq .leaf .leaf)))))))
def W20 (a0_0 : Int) (a0_1 : Sl) (a1 : Int) (w : World) (K : Value → World → Prop) : Prop :=
  LetW (w.alloc (.cells #[.int .i64 a0_0, .slice a0_1.a a0_1.len a0_1.cap] 29)) fun w1 => LetW (w1.alloc (.cells #[.int .i64 0, .slice none 0 0] 29)) fun w2 => ∃ n3 : Int, w2.cell? ⟨w.heap.size, 0, none⟩ = some (.int .i64 n3) ∧ ∃ l4 : Sl, w2.cell? ⟨w.heap.size, 1, none⟩ = some (.slice l4.a l4.len l4.cap) ∧ CallW Try.prog 66 #[.agg #[.int .i64 n3, .slice l4.a l4.len l4.cap]] w2 fun v5 w6 => ∃ b7 : Bool, v5 = .bool b7 ∧ BIf (!b7) (MayN w6 ⟨w1.heap.size, 0, none⟩ 2 ∧ LetW (puts w6 ⟨w1.heap.size, 0, none⟩ 0 [.int .i64 0, .slice none 0 0]) fun w8 => ∃ n9 : Int, w8.cell? ⟨w1.heap.size, 0, none⟩ = some (.int .i64 n9) ∧ ∃ l10 : Sl, w8.cell? ⟨w1.heap.size, 1, none⟩ = some (.slice l10.a l10.len l10.cap) ∧ K (.tuple #[.agg #[.int .i64 n9, .slice l10.a l10.len l10.cap], .bool false]) w8) (∃ n11 : Int, w6.cell? ⟨w.heap.size, 0, none⟩ = some (.int .i64 n11) ∧ ∃ l12 : Sl, w6.cell? ⟨w.heap.size, 1, none⟩ = some (.slice l12.a l12.len l12.cap) ∧ CallW Try.prog 67 #[.agg #[.int .i64 n11, .slice l12.a l12.len l12.cap]] w6 fun v13 w14 => ∃ n15 : Int, ∃ l16 : Sl, v13 = .agg #[.int .i64 n15, .slice l16.a l16.len l16.cap] ∧ MayN w14 ⟨w.heap.size, 0, none⟩ 2 ∧ LetW (puts w14 ⟨w.heap.size, 0, none⟩ 0 [.int .i64 n15, .slice l16.a l16.len l16.cap]) fun w17 => CallW Try.prog 75 #[.pointer (some ⟨w.heap.size, 0, none⟩), .int .i64 a1] w17 fun v18 w19 => ∃ n20 : Int, v18 = .int .i64 n20 ∧ BIf (decide ((n20 : Int) < 0)) (∃ n21 : Int, w19.cell? ⟨w.heap.size, 0, none⟩ = some (.int .i64 n21) ∧ ∃ l22 : Sl, w19.cell? ⟨w.heap.size, 1, none⟩ = some (.slice l22.a l22.len l22.cap) ∧ MayN w19 ⟨w1.heap.size, 0, none⟩ 2 ∧ LetW (puts w19 ⟨w1.heap.size, 0, none⟩ 0 [.int .i64 n21, .slice l22.a l22.len l22.cap]) fun w23 => ∃ n24 : Int, w23.cell? ⟨w1.heap.size, 0, none⟩ = some (.int .i64 n24) ∧ ∃ l25 : Sl, w23.cell? ⟨w1.heap.size, 1, none⟩ = some (.slice l25.a l25.len l25.cap) ∧ K (.tuple #[.agg #[.int .i64 n24, .slice l25.a l25.len l25.cap], .bool false]) w23) (∃ l26 : Sl, w19.cell? ⟨w.heap.size, 1, none⟩ = some (.slice l26.a l26.len l26.cap) ∧ CallW Try.prog 76 #[.slice l26.a l26.len l26.cap, .int .i64 n20, .int .i64 (IntKind.wrap .i64 (n20 + 1))] w19 fun v27 w28 => ∃ l29 : Sl, v27 = .slice l29.a l29.len l29.cap ∧ May w28 ⟨w.heap.size, 1, none⟩ ∧ LetW (w28.setCell ⟨w.heap.size, 1, none⟩ (.slice l29.a l29.len l29.cap)) fun w30 => ∃ n31 : Int, w30.cell? ⟨w.heap.size, 0, none⟩ = some (.int .i64 n31) ∧ ∃ l32 : Sl, w30.cell? ⟨w.heap.size, 1, none⟩ = some (.slice l32.a l32.len l32.cap) ∧ MayN w30 ⟨w1.heap.size, 0, none⟩ 2 ∧ LetW (puts w30 ⟨w1.heap.size, 0, none⟩ 0 [.int .i64 n31, .slice l32.a l32.len l32.cap]) fun w33 => ∃ n34 : Int, w33.cell? ⟨w1.heap.size, 0, none⟩ = some (.int .i64 n34) ∧ ∃ l35 : Sl, w33.cell? ⟨w1.heap.size, 1, none⟩ = some (.slice l35.a l35.len l35.cap) ∧ K (.tuple #[.agg #[.int .i64 n34, .slice l35.a l35.len l35.cap], .bool true]) w33))
theorem eq20 (a0_0 : Int) (a0_1 : Sl) (a1 : Int) (w : World) (K : Value → World → Prop) : denFn Try.prog tt Try.f20 an20 [.agg #[.int .i64 a0_0, .slice a0_1.a a0_1.len a0_1.cap], .int .i64 a1] w K = W20 a0_0 a0_1 a1 w K := by kernel_rfl
theorem ok20 : OkFn Try.prog 20 := ⟨Try.f20, Try.func20, by kernel_rfl, by kernel_rfl⟩
theorem go20 {a0_0 : Int} {a0_1 : Sl} {a1 : Int} {w : World} {K : Value → World → Prop} (h : W20 a0_0 a0_1 a1 w K) : CallW Try.prog 20 #[.agg #[.int .i64 a0_0, .slice a0_1.a a0_1.len a0_1.cap], .int .i64 a1] w K :=
  .inl ⟨ok20, denFn_sound tt_ok mix Try.func20 (by kernel_rfl) (eq20 a0_0 a0_1 a1 w K ▸ h)⟩

/- loop.example/g00008/spec.HeapGive -/
def an21 : Ann := (.seq .leaf (.seq (.seq .leaf (.cond (.seq .leaf .leaf) .leaf)) (.seq .leaf (.seq (.seq .leaf (.cond (.seq .leaf .leaf) .leaf)) (.seq .leaf .leaf)))))
def W21 (a0_0 : Int) (a0_1 : Sl) (a1 : Int) (w : World) (K : Value → World → Prop) : Prop :=
  LetW (w.alloc (.cells #[.int .i64 a0_0, .slice a0_1.a a0_1.len a0_1.cap] 29)) fun w1 => LetW (w1.alloc (.cells #[.int .i64 0, .slice none 0 0] 29)) fun w2 => ∃ n3 : Int, w2.cell? ⟨w.heap.size, 0, none⟩ = some (.int .i64 n3) ∧ ∃ l4 : Sl, w2.cell? ⟨w.heap.size, 1, none⟩ = some (.slice l4.a l4.len l4.cap) ∧ CallW Try.prog 15 #[.agg #[.int .i64 n3, .slice l4.a l4.len l4.cap]] w2 fun v5 w6 => ∃ b7 : Bool, v5 = .bool b7 ∧ BIf (!b7) (MayN w6 ⟨w1.heap.size, 0, none⟩ 2 ∧ LetW (puts w6 ⟨w1.heap.size, 0, none⟩ 0 [.int .i64 0, .slice none 0 0]) fun w8 => ∃ n9 : Int, w8.cell? ⟨w1.heap.size, 0, none⟩ = some (.int .i64 n9) ∧ ∃ l10 : Sl, w8.cell? ⟨w1.heap.size, 1, none⟩ = some (.slice l10.a l10.len l10.cap) ∧ K (.tuple #[.agg #[.int .i64 n9, .slice l10.a l10.len l10.cap], .bool false]) w8) (∃ n11 : Int, w6.cell? ⟨w.heap.size, 0, none⟩ = some (.int .i64 n11) ∧ ∃ l12 : Sl, w6.cell? ⟨w.heap.size, 1, none⟩ = some (.slice l12.a l12.len l12.cap) ∧ CallW Try.prog 77 #[.agg #[.int .i64 n11, .slice l12.a l12.len l12.cap], .int .i64 a1] w6 fun v13 w14 => ∃ n15 : Int, v13 = .int .i64 n15 ∧ BIf (decide ((n15 : Int) < 0)) (∃ n16 : Int, w14.cell? ⟨w.heap.size, 0, none⟩ = some (.int .i64 n16) ∧ ∃ l17 : Sl, w14.cell? ⟨w.heap.size, 1, none⟩ = some (.slice l17.a l17.len l17.cap) ∧ CallW Try.prog 73 #[.agg #[.int .i64 n16, .slice l17.a l17.len l17.cap]] w14 fun v18 w19 => ∃ n20 : Int, ∃ l21 : Sl, v18 = .agg #[.int .i64 n20, .slice l21.a l21.len l21.cap] ∧ MayN w19 ⟨w1.heap.size, 0, none⟩ 2 ∧ LetW (puts w19 ⟨w1.heap.size, 0, none⟩ 0 [.int .i64 n20, .slice l21.a l21.len l21.cap]) fun w22 => ∃ n23 : Int, w22.cell? ⟨w1.heap.size, 0, none⟩ = some (.int .i64 n23) ∧ ∃ l24 : Sl, w22.cell? ⟨w1.heap.size, 1, none⟩ = some (.slice l24.a l24.len l24.cap) ∧ K (.tuple #[.agg #[.int .i64 n23, .slice l24.a l24.len l24.cap], .bool false]) w22) (∃ n25 : Int, w14.cell? ⟨w.heap.size, 0, none⟩ = some (.int .i64 n25) ∧ ∃ l26 : Sl, w14.cell? ⟨w.heap.size, 1, none⟩ = some (.slice l26.a l26.len l26.cap) ∧ CallW Try.prog 78 #[.agg #[.int .i64 n25, .slice l26.a l26.len l26.cap], .int .i64 n15] w14 fun v27 w28 => ∃ n29 : Int, ∃ l30 : Sl, v27 = .agg #[.int .i64 n29, .slice l30.a l30.len l30.cap] ∧ MayN w28 ⟨w1.heap.size, 0, none⟩ 2 ∧ LetW (puts w28 ⟨w1.heap.size, 0, none⟩ 0 [.int .i64 n29, .slice l30.a l30.len l30.cap]) fun w31 => ∃ n32 : Int, w31.cell? ⟨w1.heap.size, 0, none⟩ = some (.int .i64 n32) ∧ ∃ l33 : Sl, w31.cell? ⟨w1.heap.size, 1, none⟩ = some (.slice l33.a l33.len l33.cap) ∧ K (.tuple #[.agg #[.int .i64 n32, .slice l33.a l33.len l33.cap], .bool true]) w31))
theorem eq21 (a0_0 : Int) (a0_1 : Sl) (a1 : Int) (w : World) (K : Value → World → Prop) : denFn Try.prog tt Try.f21 an21 [.agg #[.int .i64 a0_0, .slice a0_1.a a0_1.len a0_1.cap], .int .i64 a1] w K = W21 a0_0 a0_1 a1 w K := by kernel_rfl
theorem ok21 : OkFn Try.prog 21 := ⟨Try.f21, Try.func21, by kernel_rfl, by kernel_rfl⟩
theorem go21 {a0_0 : Int} {a0_1 : Sl} {a1 : Int} {w : World} {K : Value → World → Prop} (h : W21 a0_0 a0_1 a1 w K) : CallW Try.prog 21 #[.agg #[.int .i64 a0_0, .slice a0_1.a a0_1.len a0_1.cap], .int .i64 a1] w K :=
  .inl ⟨ok21, denFn_sound tt_ok mix Try.func21 (by kernel_rfl) (eq21 a0_0 a0_1 a1 w K ▸ h)⟩

/- loop.example/g00008/impl.HeapStat -/
def an22 : Ann := (.seq .leaf (.seq (.seq .leaf (.cond (.seq .leaf .leaf) .leaf)) (.seq .leaf (.seq .leaf (.seq (.seq .leaf (.in_ (.loop 196622 [(4, .int .i64), (18, .int .i64)] (.seq .leaf (.seq (.cond .leaf .leaf) (.seq (.in_ (.seq .leaf (.seq .leaf (.seq .leaf .leaf)))) .leaf)))))) (.seq .leaf (.seq .leaf (.seq .leaf .leaf))))))))
def W22 (a0_0 : Int) (a0_1 : Sl) (w : World) (K : Value → World → Prop) : Prop :=
  LetW (w.alloc (.cells #[.int .i64 a0_0, .slice a0_1.a a0_1.len a0_1.cap] 29)) fun w1 => LetW (w1.alloc (.cells #[.int .i64 0, .int .i64 0, .int .i64 0, .int .i64 0] 39)) fun w2 => ∃ n3 : Int, w2.cell? ⟨w.heap.size, 0, none⟩ = some (.int .i64 n3) ∧ ∃ l4 : Sl, w2.cell? ⟨w.heap.size, 1, none⟩ = some (.slice l4.a l4.len l4.cap) ∧ CallW Try.prog 66 #[.agg #[.int .i64 n3, .slice l4.a l4.len l4.cap]] w2 fun v5 w6 => ∃ b7 : Bool, v5 = .bool b7 ∧ BIf (!b7) (MayN w6 ⟨w1.heap.size, 0, none⟩ 4 ∧ LetW (puts w6 ⟨w1.heap.size, 0, none⟩ 0 [.int .i64 0, .int .i64 0, .int .i64 0, .int .i64 0]) fun w8 => ∃ n9 : Int, w8.cell? ⟨w1.heap.size, 0, none⟩ = some (.int .i64 n9) ∧ ∃ n10 : Int, w8.cell? ⟨w1.heap.size, 1, none⟩ = some (.int .i64 n10) ∧ ∃ n11 : Int, w8.cell? ⟨w1.heap.size, 2, none⟩ = some (.int .i64 n11) ∧ ∃ n12 : Int, w8.cell? ⟨w1.heap.size, 3, none⟩ = some (.int .i64 n12) ∧ K (.agg #[.int .i64 n9, .int .i64 n10, .int .i64 n11, .int .i64 n12]) w8) (∃ l13 : Sl, w6.cell? ⟨w.heap.size, 1, none⟩ = some (.slice l13.a l13.len l13.cap) ∧ LetW (w6.alloc (.cells #[.int .i64 0, .int .i64 0, .int .i64 0, .int .i64 0] 39)) fun w14 => MayN w14 ⟨w6.heap.size, 0, none⟩ 4 ∧ LetW (puts w14 ⟨w6.heap.size, 0, none⟩ 0 [.int .i64 0, .int .i64 0, .int .i64 0, .int .i64 ((l13.len : Nat) : Int)]) fun w15 => ∃ l16 : Sl, w15.cell? ⟨w.heap.size, 1, none⟩ = some (.slice l16.a l16.len l16.cap) ∧ LoopW [.int .i64, .int .i64] (fun J19 => fun (n17 : Int) (n18 : Int) w20 => BIf (decide ((n18 : Int) < ((l16.len : Nat) : Int))) (0 ≤ (n18 : Int) ∧ (n18 : Int) < ((l16.len : Nat) : Int) ∧ ∃ q21 : Addr, (l16.a : Option Addr) = some q21 ∧ ∃ n22 : Int, w20.cell? ((q21.add (Int.toNat n18 * 2)).add 0) = some (.int .i64 n22) ∧ ∃ n23 : Int, w20.cell? ((q21.add (Int.toNat n18 * 2)).add 1) = some (.int .i64 n23) ∧ LetW (w20.alloc (.cells #[.int .i64 0, .int .i64 0] 42)) fun w24 => MayN w24 ⟨w20.heap.size, 0, none⟩ 2 ∧ LetW (puts w24 ⟨w20.heap.size, 0, none⟩ 0 [.int .i64 n22, .int .i64 n23]) fun w25 => ∃ n26 : Int, w25.cell? ⟨w6.heap.size, 0, none⟩ = some (.int .i64 n26) ∧ ∃ n27 : Int, w25.cell? ⟨w20.heap.size, 1, none⟩ = some (.int .i64 n27) ∧ May w25 ⟨w6.heap.size, 0, none⟩ ∧ LetW (w25.setCell ⟨w6.heap.size, 0, none⟩ (.int .i64 (IntKind.wrap .i64 (n26 + n27)))) fun w28 => ∃ n29 : Int, w28.cell? ⟨w6.heap.size, 2, none⟩ = some (.int .i64 n29) ∧ ∃ n30 : Int, w28.cell? ⟨w20.heap.size, 0, none⟩ = some (.int .i64 n30) ∧ May w28 ⟨w6.heap.size, 2, none⟩ ∧ LetW (w28.setCell ⟨w6.heap.size, 2, none⟩ (.int .i64 (maxI n29 (IntKind.wrap .i64 (n30 - n17))))) fun w31 => ∃ n32 : Int, w31.cell? ⟨w20.heap.size, 0, none⟩ = some (.int .i64 n32) ∧ ∃ n33 : Int, w31.cell? ⟨w20.heap.size, 1, none⟩ = some (.int .i64 n33) ∧ J19 (IntKind.wrap .i64 (n32 + n33)) (IntKind.wrap .i64 (n18 + 1)) w31) (∃ n34 : Int, w20.cell? ⟨w6.heap.size, 2, none⟩ = some (.int .i64 n34) ∧ ∃ n35 : Int, w20.cell? ⟨w.heap.size, 0, none⟩ = some (.int .i64 n35) ∧ May w20 ⟨w6.heap.size, 2, none⟩ ∧ LetW (w20.setCell ⟨w6.heap.size, 2, none⟩ (.int .i64 (maxI n34 (IntKind.wrap .i64 (n35 - n17))))) fun w36 => ∃ n37 : Int, w36.cell? ⟨w.heap.size, 0, none⟩ = some (.int .i64 n37) ∧ ∃ n38 : Int, w36.cell? ⟨w6.heap.size, 0, none⟩ = some (.int .i64 n38) ∧ May w36 ⟨w6.heap.size, 1, none⟩ ∧ LetW (w36.setCell ⟨w6.heap.size, 1, none⟩ (.int .i64 (IntKind.wrap .i64 (n37 - n38)))) fun w39 => ∃ n40 : Int, w39.cell? ⟨w6.heap.size, 0, none⟩ = some (.int .i64 n40) ∧ ∃ n41 : Int, w39.cell? ⟨w6.heap.size, 1, none⟩ = some (.int .i64 n41) ∧ ∃ n42 : Int, w39.cell? ⟨w6.heap.size, 2, none⟩ = some (.int .i64 n42) ∧ ∃ n43 : Int, w39.cell? ⟨w6.heap.size, 3, none⟩ = some (.int .i64 n43) ∧ MayN w39 ⟨w1.heap.size, 0, none⟩ 4 ∧ LetW (puts w39 ⟨w1.heap.size, 0, none⟩ 0 [.int .i64 n40, .int .i64 n41, .int .i64 n42, .int .i64 n43]) fun w44 => ∃ n45 : Int, w44.cell? ⟨w1.heap.size, 0, none⟩ = some (.int .i64 n45) ∧ ∃ n46 : Int, w44.cell? ⟨w1.heap.size, 1, none⟩ = some (.int .i64 n46) ∧ ∃ n47 : Int, w44.cell? ⟨w1.heap.size, 2, none⟩ = some (.int .i64 n47) ∧ ∃ n48 : Int, w44.cell? ⟨w1.heap.size, 3, none⟩ = some (.int .i64 n48) ∧ K (.agg #[.int .i64 n45, .int .i64 n46, .int .i64 n47, .int .i64 n48]) w44)) ((0 : Int), ((0 : Int), ())) w15)
theorem eq22 (a0_0 : Int) (a0_1 : Sl) (w : World) (K : Value → World → Prop) : denFn Try.prog tt Try.f22 an22 [.agg #[.int .i64 a0_0, .slice a0_1.a a0_1.len a0_1.cap]] w K = W22 a0_0 a0_1 w K := by kernel_rfl
theorem ok22 : OkFn Try.prog 22 := ⟨Try.f22, Try.func22, by kernel_rfl, by kernel_rfl⟩
theorem go22 {a0_0 : Int} {a0_1 : Sl} {w : World} {K : Value → World → Prop} (h : W22 a0_0 a0_1 w K) : CallW Try.prog 22 #[.agg #[.int .i64 a0_0, .slice a0_1.a a0_1.len a0_1.cap]] w K :=
  .inl ⟨ok22, denFn_sound tt_ok mix Try.func22 (by kernel_rfl) (eq22 a0_0 a0_1 w K ▸ h)⟩

/- loop.example/g00008/spec.l1New -/
def an61 : Ann := (.seq .leaf (.seq .leaf (.seq (.seq .leaf (.in_ (.loop 1 [(3, .int .i64), (4, .int .i64)] (.seq (.seq .leaf (.cond .leaf .leaf)) (.seq (.in_ .leaf) .leaf))))) (.seq .leaf .leaf))))
def W61 (a0 : Sl) (w : World) (K : Value → World → Prop) : Prop :=
  LoopW [.int .i64, .int .i64] (fun J3 => fun (n1 : Int) (n2 : Int) w4 => BIf (decide ((n2 : Int) < ((a0.len : Nat) : Int))) (0 ≤ (n2 : Int) ∧ (n2 : Int) < ((a0.len : Nat) : Int) ∧ ∃ q5 : Addr, (a0.a : Option Addr) = some q5 ∧ ∃ n6 : Int, w4.cell? (q5.add (Int.toNat n2 * 1)) = some (.int .u8 n6) ∧ J3 (andI .i64 (IntKind.wrap .i64 ((IntKind.wrap .i64 ((IntKind.wrap .i64 (n1 * 131)) + (IntKind.wrap .i64 n6))) + 7)) 1073741823) (IntKind.wrap .i64 (n2 + 1)) w4) (LetW (w4.alloc (.cells #[.slice a0.a a0.len a0.cap, .int .i64 0, .int .i64 n1] 174)) fun w7 => K (.pointer (some ⟨w4.heap.size, 0, none⟩)) w7)) ((IntKind.wrap .i64 (76543 + ((a0.len : Nat) : Int)) : Int), ((0 : Int), ())) w
theorem eq61 (a0 : Sl) (w : World) (K : Value → World → Prop) : denFn Try.prog tt Try.f61 an61 [.slice a0.a a0.len a0.cap] w K = W61 a0 w K := by kernel_rfl
theorem ok61 : OkFn Try.prog 61 := ⟨Try.f61, Try.func61, by kernel_rfl, by kernel_rfl⟩
theorem go61 {a0 : Sl} {w : World} {K : Value → World → Prop} (h : W61 a0 w K) : CallW Try.prog 61 #[.slice a0.a a0.len a0.cap] w K :=
  .inl ⟨ok61, denFn_sound tt_ok mix Try.func61 (by kernel_rfl) (eq61 a0 w K ▸ h)⟩

/- loop.example/g00008/spec.l8DrawSize -/
def an62 : Ann := (.seq .leaf (.seq .leaf (.seq (.seq .leaf (.cond .leaf .leaf)) (.seq .leaf .leaf))))
def W62 (a0 : Option Addr) (w : World) (K : Value → World → Prop) : Prop :=
  CallW Try.prog 63 #[.pointer a0, .int .i64 40] w fun v1 w2 => ∃ n3 : Int, v1 = .int .i64 n3 ∧ CallW Try.prog 135 #[.pointer a0, .int .i64 10] w2 fun v4 w5 => ∃ b6 : Bool, v4 = .bool b6 ∧ BIf b6 (LetW (w5.alloc (.cells #[.int .i64 (-8), .int .i64 4, .int .i64 65536, .int .i64 65544] 2)) fun w7 => CallW Try.prog 63 #[.pointer a0, .int .i64 4] w7 fun v8 w9 => ∃ n10 : Int, v8 = .int .i64 n10 ∧ 0 ≤ (n10 : Int) ∧ (n10 : Int) < ((4 : Nat) : Int) ∧ ∃ q11 : Addr, (some ⟨w5.heap.size, 0, none⟩ : Option Addr) = some q11 ∧ ∃ n12 : Int, w9.cell? (q11.add (Int.toNat n10 * 1)) = some (.int .i64 n12) ∧ K (.int .i64 n12) w9) (K (.int .i64 (IntKind.wrap .i64 (8 * n3))) w5)
theorem eq62 (a0 : Option Addr) (w : World) (K : Value → World → Prop) : denFn Try.prog tt Try.f62 an62 [.pointer a0] w K = W62 a0 w K := by kernel_rfl
theorem ok62 : OkFn Try.prog 62 := ⟨Try.f62, Try.func62, by kernel_rfl, by kernel_rfl⟩
theorem go62 {a0 : Option Addr} {w : World} {K : Value → World → Prop} (h : W62 a0 w K) : CallW Try.prog 62 #[.pointer a0] w K :=
  .inl ⟨ok62, denFn_sound tt_ok mix Try.func62 (by kernel_rfl) (eq62 a0 w K ▸ h)⟩

/- loop.example/g00008/spec.l1Below -/
def an63 : Ann := (.seq .leaf (.seq (.seq .leaf (.cond (.seq .leaf .leaf) .leaf)) (.seq (.seq .leaf (.cond (.seq .leaf .leaf) .leaf)) (.seq .leaf (.seq .leaf (.seq .leaf (.seq .leaf .leaf)))))))
def W63 (a0 : Option Addr) (a1 : Int) (w : World) (K : Value → World → Prop) : Prop :=
  BIf (decide ((a1 : Int) ≤ 0)) (K (.int .i64 0) w) (BIf (decide ((a1 : Int) ≤ 256)) (CallW Try.prog 136 #[.pointer a0] w fun v1 w2 => ∃ n3 : Int, v1 = .int .i64 n3 ∧ (a1 : Int) ≠ 0 ∧ K (.int .i64 (Int.tmod n3 a1)) w2) (CallW Try.prog 136 #[.pointer a0] w fun v4 w5 => ∃ n6 : Int, v4 = .int .i64 n6 ∧ CallW Try.prog 136 #[.pointer a0] w5 fun v7 w8 => ∃ n9 : Int, v7 = .int .i64 n9 ∧ CallW Try.prog 136 #[.pointer a0] w8 fun v10 w11 => ∃ n12 : Int, v10 = .int .i64 n12 ∧ (a1 : Int) ≠ 0 ∧ K (.int .i64 (Int.tmod (IntKind.wrap .i64 ((IntKind.wrap .i64 ((IntKind.wrap .i64 (n6 * 65536)) + (IntKind.wrap .i64 (n9 * 256)))) + n12)) a1)) w11))
theorem eq63 (a0 : Option Addr) (a1 : Int) (w : World) (K : Value → World → Prop) : denFn Try.prog tt Try.f63 an63 [.pointer a0, .int .i64 a1] w K = W63 a0 a1 w K := by kernel_rfl
theorem ok63 : OkFn Try.prog 63 := ⟨Try.f63, Try.func63, by kernel_rfl, by kernel_rfl⟩
theorem go63 {a0 : Option Addr} {a1 : Int} {w : World} {K : Value → World → Prop} (h : W63 a0 a1 w K) : CallW Try.prog 63 #[.pointer a0, .int .i64 a1] w K :=
  .inl ⟨ok63, denFn_sound tt_ok mix Try.func63 (by kernel_rfl) (eq63 a0 a1 w K ▸ h)⟩

/- loop.example/g00008/spec.l8DrawHeapOp -/
def an64 : Ann := (.seq .leaf (.seq .leaf (.seq .leaf (.join 57 [(6, .int .i64)] (.seq .leaf (.cond .leaf .leaf)) (.join 57 [(6, .int .i64)] (.seq .leaf (.cond .leaf .leaf)) (.seq .leaf (.join 112 [(7, .int .i64)] (.seq (.reg [(5, none), (4, some (249, [(37, .bool)]))]) (.cond (.draw [0, 1, 0, 0, 8, 24, 60, 127, 255, 511, 1023] [0, 1, 2, 3, 4, 5, 6, 7, 8, 9, 10]) .leaf)) (.seq .leaf .leaf))))))))
def W64 (a0 : Option Addr) (a1_0 : Int) (a1_1 : Sl) (w : World) (K : Value → World → Prop) : Prop :=
  LetW (w.alloc (.cells #[.int .i64 a1_0, .slice a1_1.a a1_1.len a1_1.cap] 29)) fun w1 => LetW (w1.alloc (.cells #[.int .i64 0, .int .i64 0, .int .i64 0] 32)) fun w2 => LetW (w2.alloc (.cells #[.int .i64 1, .int .i64 1, .int .i64 1, .int .i64 2, .int .i64 3, .int .i64 3, .int .i64 4, .int .i64 5] 2)) fun w3 => CallW Try.prog 63 #[.pointer a0, .int .i64 8] w3 fun v4 w5 => ∃ n6 : Int, v4 = .int .i64 n6 ∧ 0 ≤ (n6 : Int) ∧ (n6 : Int) < ((8 : Nat) : Int) ∧ ∃ q7 : Addr, (some ⟨w2.heap.size, 0, none⟩ : Option Addr) = some q7 ∧ ∃ n8 : Int, w5.cell? (q7.add (Int.toNat n6 * 1)) = some (.int .i64 n8) ∧ CallW Try.prog 63 #[.pointer a0, .int .i64 40] w5 fun v9 w10 => ∃ n11 : Int, v9 = .int .i64 n11 ∧ JoinW [.int .i64] (fun J13 => CallW Try.prog 135 #[.pointer a0, .int .i64 6] w10 fun v52 w53 => ∃ b54 : Bool, v52 = .bool b54 ∧ BIf b54 (CallW Try.prog 63 #[.pointer a0, .int .i64 400] w53 fun v55 w56 => ∃ n57 : Int, v55 = .int .i64 n57 ∧ J13 n57 w56) (J13 n11 w53)) (fun (n12 : Int) w14 => JoinW [.int .i64] (fun J16 => CallW Try.prog 135 #[.pointer a0, .int .i64 20] w14 fun v43 w44 => ∃ b45 : Bool, v43 = .bool b45 ∧ BIf b45 (LetW (w44.alloc (.cells #[.int .i64 (-1), .int .i64 0, .int .i64 65536, .int .i64 65537, .int .i64 4611686018427387904] 2)) fun w46 => CallW Try.prog 63 #[.pointer a0, .int .i64 5] w46 fun v47 w48 => ∃ n49 : Int, v47 = .int .i64 n49 ∧ 0 ≤ (n49 : Int) ∧ (n49 : Int) < ((5 : Nat) : Int) ∧ ∃ q50 : Addr, (some ⟨w44.heap.size, 0, none⟩ : Option Addr) = some q50 ∧ ∃ n51 : Int, w48.cell? (q50.add (Int.toNat n49 * 1)) = some (.int .i64 n51) ∧ J16 n51 w48) (J16 n12 w44)) (fun (n15 : Int) w17 => CallW Try.prog 63 #[.pointer a0, .int .i64 12] w17 fun v18 w19 => ∃ n20 : Int, v18 = .int .i64 n20 ∧ JoinW [.int .i64] (fun J22 => ∃ l28 : Sl, w19.cell? ⟨w.heap.size, 1, none⟩ = some (.slice l28.a l28.len l28.cap) ∧ JoinW [.bool] (fun J30 => BIf (decide ((((l28.len : Nat) : Int) : Int) > 0)) (CallW Try.prog 135 #[.pointer a0, .int .i64 4] w19 fun v40 w41 => ∃ b42 : Bool, v40 = .bool b42 ∧ J30 (!b42) w41) (J30 false w19)) (fun (b29 : Bool) w31 => BIf b29 (∃ l32 : Sl, w31.drew.cell? ⟨w.heap.size, 1, none⟩ = some (.slice l32.a l32.len l32.cap) ∧ ∃ l33 : Sl, w31.drew.cell? ⟨w.heap.size, 1, none⟩ = some (.slice l33.a l33.len l33.cap) ∧ CallW Try.prog 63 #[.pointer a0, .int .i64 ((l33.len : Nat) : Int)] w31.drew fun v34 w35 => ∃ n36 : Int, v34 = .int .i64 n36 ∧ (∃ l37 : Sl, w35.cell? ⟨w.heap.size, 1, none⟩ = some (.slice l37.a l37.len l37.cap) ∧ (.slice l37.a l37.len l37.cap : Value) = (.slice l32.a l32.len l32.cap : Value)) ∧ 0 ≤ (n36 : Int) ∧ (n36 : Int) < ((l32.len : Nat) : Int) ∧ ∃ q38 : Addr, (l32.a : Option Addr) = some q38 ∧ ∃ n39 : Int, w35.cell? ((q38.add (Int.toNat n36 * 2)).add 0) = some (.int .i64 n39) ∧ J22 n39 w35) (J22 (IntKind.wrap .i64 (8 * n20)) w31))) (fun (n21 : Int) w23 => MayN w23 ⟨w1.heap.size, 0, none⟩ 3 ∧ LetW (puts w23 ⟨w1.heap.size, 0, none⟩ 0 [.int .i64 n8, .int .i64 n21, .int .i64 n15]) fun w24 => ∃ n25 : Int, w24.cell? ⟨w1.heap.size, 0, none⟩ = some (.int .i64 n25) ∧ ∃ n26 : Int, w24.cell? ⟨w1.heap.size, 1, none⟩ = some (.int .i64 n26) ∧ ∃ n27 : Int, w24.cell? ⟨w1.heap.size, 2, none⟩ = some (.int .i64 n27) ∧ K (.agg #[.int .i64 n25, .int .i64 n26, .int .i64 n27]) w24)))
theorem eq64 (a0 : Option Addr) (a1_0 : Int) (a1_1 : Sl) (w : World) (K : Value → World → Prop) : denFn Try.prog tt Try.f64 an64 [.pointer a0, .agg #[.int .i64 a1_0, .slice a1_1.a a1_1.len a1_1.cap]] w K = W64 a0 a1_0 a1_1 w K := by kernel_rfl
theorem ok64 : OkFn Try.prog 64 := ⟨Try.f64, Try.func64, by kernel_rfl, by kernel_rfl⟩
theorem go64 {a0 : Option Addr} {a1_0 : Int} {a1_1 : Sl} {w : World} {K : Value → World → Prop} (h : W64 a0 a1_0 a1_1 w K) : CallW Try.prog 64 #[.pointer a0, .agg #[.int .i64 a1_0, .slice a1_1.a a1_1.len a1_1.cap]] w K :=
  .inl ⟨ok64, denFn_sound tt_ok mix Try.func64 (by kernel_rfl) (eq64 a0 a1_0 a1_1 w K ▸ h)⟩

/- loop.example/g00008/spec.l8HeapStep -/
def an65 : Ann := (.seq .leaf (.seq (.reg [(4, none), (4, some (28, [(16, .bool)])), (1, none)]) (.seq (.seq (.reg [(4, none), (3, some (92, [(23, .bool)]))]) (.cond (.seq .leaf .leaf) .leaf)) (.seq (.seq .leaf (.cond (.seq .leaf (.seq (.draw [0, 0, 2, 7, 15] [0, 1, 2, 3, 4]) .leaf)) .leaf)) (.seq (.seq (.reg [(4, none), (3, some (28, [(49, .bool)]))]) (.cond (.seq .leaf .leaf) .leaf)) (.seq (.seq .leaf (.cond (.seq (.draw [0, 0, 2, 6, 7, 31] [0, 1, 2, 3, 4, 5]) .leaf) .leaf)) (.seq .leaf .leaf)))))))
def W65 (a0_0 : Int) (a0_1 : Sl) (a1_0 : Int) (a1_1 : Int) (a1_2 : Int) (w : World) (K : Value → World → Prop) : Prop :=
  LetW (w.alloc (.cells #[.int .i64 a0_0, .slice a0_1.a a0_1.len a0_1.cap] 29)) fun w1 => LetW (w1.alloc (.cells #[.int .i64 a1_0, .int .i64 a1_1, .int .i64 a1_2] 32)) fun w2 => LetW (w2.alloc (.cells #[.int .i64 0, .slice none 0 0] 29)) fun w3 => ∃ n4 : Int, w3.cell? ⟨w1.heap.size, 2, none⟩ = some (.int .i64 n4) ∧ JoinW [.bool] (fun J6 => BIf (decide ((n4 : Int) < 0)) (J6 true w3) (∃ n81 : Int, w3.cell? ⟨w1.heap.size, 2, none⟩ = some (.int .i64 n81) ∧ J6 (decide ((n81 : Int) > 65536)) w3)) (fun (b5 : Bool) w7 => ∃ n8 : Int, w7.cell? ⟨w1.heap.size, 0, none⟩ = some (.int .i64 n8) ∧ JoinW [.bool] (fun J10 => BIf ((n8 : Int) == 1) (J10 (!b5) w7) (J10 false w7)) (fun (b9 : Bool) w11 => BIf b9 (∃ n12 : Int, w11.cell? ⟨w.heap.size, 0, none⟩ = some (.int .i64 n12) ∧ ∃ l13 : Sl, w11.cell? ⟨w.heap.size, 1, none⟩ = some (.slice l13.a l13.len l13.cap) ∧ ∃ n14 : Int, w11.cell? ⟨w1.heap.size, 2, none⟩ = some (.int .i64 n14) ∧ CallW Try.prog 17 #[.agg #[.int .i64 n12, .slice l13.a l13.len l13.cap], .int .i64 n14] w11 fun v15 w16 => ∃ n17 : Int, ∃ l18 : Sl, ∃ n19 : Int, v15 = .tuple #[.agg #[.int .i64 n17, .slice l18.a l18.len l18.cap], .int .i64 n19] ∧ MayN w16 ⟨w2.heap.size, 0, none⟩ 2 ∧ LetW (puts w16 ⟨w2.heap.size, 0, none⟩ 0 [.int .i64 n17, .slice l18.a l18.len l18.cap]) fun w20 => ∃ n21 : Int, w20.cell? ⟨w2.heap.size, 0, none⟩ = some (.int .i64 n21) ∧ ∃ l22 : Sl, w20.cell? ⟨w2.heap.size, 1, none⟩ = some (.slice l22.a l22.len l22.cap) ∧ K (.tuple #[.agg #[.int .i64 n21, .slice l22.a l22.len l22.cap], .int .i64 n19]) w20) (∃ n23 : Int, w11.cell? ⟨w1.heap.size, 0, none⟩ = some (.int .i64 n23) ∧ BIf ((n23 : Int) == 2) (∃ n24 : Int, w11.cell? ⟨w.heap.size, 0, none⟩ = some (.int .i64 n24) ∧ ∃ l25 : Sl, w11.cell? ⟨w.heap.size, 1, none⟩ = some (.slice l25.a l25.len l25.cap) ∧ ∃ n26 : Int, w11.cell? ⟨w1.heap.size, 1, none⟩ = some (.int .i64 n26) ∧ CallW Try.prog 21 #[.agg #[.int .i64 n24, .slice l25.a l25.len l25.cap], .int .i64 n26] w11 fun v27 w28 => ∃ n29 : Int, ∃ l30 : Sl, ∃ b31 : Bool, v27 = .tuple #[.agg #[.int .i64 n29, .slice l30.a l30.len l30.cap], .bool b31] ∧ LetW (w28.alloc (.cells #[.int .i64 0, .slice none 0 0] 29)) fun w32 => MayN w32 ⟨w28.heap.size, 0, none⟩ 2 ∧ LetW (puts w32 ⟨w28.heap.size, 0, none⟩ 0 [.int .i64 n29, .slice l30.a l30.len l30.cap]) fun w33 => ∃ n34 : Int, w33.drew.cell? ⟨w28.heap.size, 0, none⟩ = some (.int .i64 n34) ∧ ∃ l35 : Sl, w33.drew.cell? ⟨w28.heap.size, 1, none⟩ = some (.slice l35.a l35.len l35.cap) ∧ CallW Try.prog 137 #[.bool b31] w33.drew fun v36 w37 => ∃ n38 : Int, v36 = .int .i64 n38 ∧ (∃ n39 : Int, w37.cell? ⟨w28.heap.size, 0, none⟩ = some (.int .i64 n39) ∧ ∃ l40 : Sl, w37.cell? ⟨w28.heap.size, 1, none⟩ = some (.slice l40.a l40.len l40.cap) ∧ (.agg #[.int .i64 n39, .slice l40.a l40.len l40.cap] : Value) = (.agg #[.int .i64 n34, .slice l35.a l35.len l35.cap] : Value)) ∧ MayN w37 ⟨w2.heap.size, 0, none⟩ 2 ∧ LetW (puts w37 ⟨w2.heap.size, 0, none⟩ 0 [.int .i64 n34, .slice l35.a l35.len l35.cap]) fun w41 => ∃ n42 : Int, w41.cell? ⟨w2.heap.size, 0, none⟩ = some (.int .i64 n42) ∧ ∃ l43 : Sl, w41.cell? ⟨w2.heap.size, 1, none⟩ = some (.slice l43.a l43.len l43.cap) ∧ K (.tuple #[.agg #[.int .i64 n42, .slice l43.a l43.len l43.cap], .int .i64 n38]) w41) (∃ n44 : Int, w11.cell? ⟨w1.heap.size, 0, none⟩ = some (.int .i64 n44) ∧ JoinW [.bool] (fun J46 => BIf ((n44 : Int) == 3) (J46 (!b5) w11) (J46 false w11)) (fun (b45 : Bool) w47 => BIf b45 (∃ n48 : Int, w47.cell? ⟨w.heap.size, 0, none⟩ = some (.int .i64 n48) ∧ ∃ l49 : Sl, w47.cell? ⟨w.heap.size, 1, none⟩ = some (.slice l49.a l49.len l49.cap) ∧ ∃ n50 : Int, w47.cell? ⟨w1.heap.size, 1, none⟩ = some (.int .i64 n50) ∧ ∃ n51 : Int, w47.cell? ⟨w1.heap.size, 2, none⟩ = some (.int .i64 n51) ∧ CallW Try.prog 19 #[.agg #[.int .i64 n48, .slice l49.a l49.len l49.cap], .int .i64 n50, .int .i64 n51] w47 fun v52 w53 => ∃ n54 : Int, ∃ l55 : Sl, ∃ n56 : Int, v52 = .tuple #[.agg #[.int .i64 n54, .slice l55.a l55.len l55.cap], .int .i64 n56] ∧ MayN w53 ⟨w2.heap.size, 0, none⟩ 2 ∧ LetW (puts w53 ⟨w2.heap.size, 0, none⟩ 0 [.int .i64 n54, .slice l55.a l55.len l55.cap]) fun w57 => ∃ n58 : Int, w57.cell? ⟨w2.heap.size, 0, none⟩ = some (.int .i64 n58) ∧ ∃ l59 : Sl, w57.cell? ⟨w2.heap.size, 1, none⟩ = some (.slice l59.a l59.len l59.cap) ∧ K (.tuple #[.agg #[.int .i64 n58, .slice l59.a l59.len l59.cap], .int .i64 n56]) w57) (∃ n60 : Int, w47.cell? ⟨w1.heap.size, 0, none⟩ = some (.int .i64 n60) ∧ BIf ((n60 : Int) == 4) (∃ n61 : Int, w47.drew.cell? ⟨w.heap.size, 0, none⟩ = some (.int .i64 n61) ∧ ∃ l62 : Sl, w47.drew.cell? ⟨w.heap.size, 1, none⟩ = some (.slice l62.a l62.len l62.cap) ∧ ∃ n63 : Int, w47.drew.cell? ⟨w.heap.size, 0, none⟩ = some (.int .i64 n63) ∧ ∃ l64 : Sl, w47.drew.cell? ⟨w.heap.size, 1, none⟩ = some (.slice l64.a l64.len l64.cap) ∧ CallW Try.prog 138 #[.agg #[.int .i64 n63, .slice l64.a l64.len l64.cap]] w47.drew fun v65 w66 => ∃ n67 : Int, ∃ n68 : Int, ∃ n69 : Int, ∃ n70 : Int, v65 = .agg #[.int .i64 n67, .int .i64 n68, .int .i64 n69, .int .i64 n70] ∧ (∃ n71 : Int, w66.cell? ⟨w.heap.size, 0, none⟩ = some (.int .i64 n71) ∧ ∃ l72 : Sl, w66.cell? ⟨w.heap.size, 1, none⟩ = some (.slice l72.a l72.len l72.cap) ∧ (.agg #[.int .i64 n71, .slice l72.a l72.len l72.cap] : Value) = (.agg #[.int .i64 n61, .slice l62.a l62.len l62.cap] : Value)) ∧ MayN w66 ⟨w2.heap.size, 0, none⟩ 2 ∧ LetW (puts w66 ⟨w2.heap.size, 0, none⟩ 0 [.int .i64 n61, .slice l62.a l62.len l62.cap]) fun w73 => ∃ n74 : Int, w73.cell? ⟨w2.heap.size, 0, none⟩ = some (.int .i64 n74) ∧ ∃ l75 : Sl, w73.cell? ⟨w2.heap.size, 1, none⟩ = some (.slice l75.a l75.len l75.cap) ∧ K (.tuple #[.agg #[.int .i64 n74, .slice l75.a l75.len l75.cap], .int .i64 n69]) w73) (∃ n76 : Int, w47.cell? ⟨w.heap.size, 0, none⟩ = some (.int .i64 n76) ∧ ∃ l77 : Sl, w47.cell? ⟨w.heap.size, 1, none⟩ = some (.slice l77.a l77.len l77.cap) ∧ MayN w47 ⟨w2.heap.size, 0, none⟩ 2 ∧ LetW (puts w47 ⟨w2.heap.size, 0, none⟩ 0 [.int .i64 n76, .slice l77.a l77.len l77.cap]) fun w78 => ∃ n79 : Int, w78.cell? ⟨w2.heap.size, 0, none⟩ = some (.int .i64 n79) ∧ ∃ l80 : Sl, w78.cell? ⟨w2.heap.size, 1, none⟩ = some (.slice l80.a l80.len l80.cap) ∧ K (.tuple #[.agg #[.int .i64 n79, .slice l80.a l80.len l80.cap], .int .i64 (-2)]) w78)))))))
theorem eq65 (a0_0 : Int) (a0_1 : Sl) (a1_0 : Int) (a1_1 : Int) (a1_2 : Int) (w : World) (K : Value → World → Prop) : denFn Try.prog tt Try.f65 an65 [.agg #[.int .i64 a0_0, .slice a0_1.a a0_1.len a0_1.cap], .agg #[.int .i64 a1_0, .int .i64 a1_1, .int .i64 a1_2]] w K = W65 a0_0 a0_1 a1_0 a1_1 a1_2 w K := by kernel_rfl
theorem ok65 : OkFn Try.prog 65 := ⟨Try.f65, Try.func65, by kernel_rfl, by kernel_rfl⟩
theorem go65 {a0_0 : Int} {a0_1 : Sl} {a1_0 : Int} {a1_1 : Int} {a1_2 : Int} {w : World} {K : Value → World → Prop} (h : W65 a0_0 a0_1 a1_0 a1_1 a1_2 w K) : CallW Try.prog 65 #[.agg #[.int .i64 a0_0, .slice a0_1.a a0_1.len a0_1.cap], .agg #[.int .i64 a1_0, .int .i64 a1_1, .int .i64 a1_2]] w K :=
  .inl ⟨ok65, denFn_sound tt_ok mix Try.func65 (by kernel_rfl) (eq65 a0_0 a0_1 a1_0 a1_1 a1_2 w K ▸ h)⟩

/- loop.example/g00008/impl.HeapOk -/
def an66 : Ann := (.seq .leaf (.seq (.seq (.reg [(4, none), (4, some (2, [(13, .bool)])), (1, none), (5, some (2, [(19, .bool)])), (1, none), (5, some (2, [(25, .bool)]))]) (.cond (.seq .leaf .leaf) .leaf)) (.seq .leaf (.seq (.seq .leaf (.in_ (.loop 402653186 [(3, .int .i64), (29, .int .i64)] (.seq .leaf (.seq (.cond .leaf .leaf) (.seq (.in_ (.seq .leaf (.seq (.seq (.reg [(5, none), (5, some (939524130, [(42, .bool)])), (1, none), (5, some (939524130, [(48, .bool)])), (1, none), (4, some (939524130, [(53, .bool)])), (1, none), (6, some (939524130, [(60, .bool)])), (1, none), (9, some (939524130, [(70, .bool)]))]) (.cond (.seq .leaf .leaf) .leaf)) .leaf))) .leaf)))))) (.seq .leaf .leaf)))))
def W66 (a0_0 : Int) (a0_1 : Sl) (w : World) (K : Value → World → Prop) : Prop :=
  LetW (w.alloc (.cells #[.int .i64 a0_0, .slice a0_1.a a0_1.len a0_1.cap] 29)) fun w1 => ∃ n2 : Int, w1.cell? ⟨w.heap.size, 0, none⟩ = some (.int .i64 n2) ∧ JoinW [.bool] (fun J4 => BIf (decide ((n2 : Int) < 0)) (J4 true w1) (∃ n50 : Int, w1.cell? ⟨w.heap.size, 0, none⟩ = some (.int .i64 n50) ∧ J4 (decide ((n50 : Int) > 65536)) w1)) (fun (b3 : Bool) w5 => JoinW [.bool] (fun J7 => BIf b3 (J7 true w5) (∃ n49 : Int, w5.cell? ⟨w.heap.size, 0, none⟩ = some (.int .i64 n49) ∧ (8 : Int) ≠ 0 ∧ J7 ((Int.tmod n49 8 : Int) != 0) w5)) (fun (b6 : Bool) w8 => JoinW [.bool] (fun J10 => BIf b6 (J10 true w8) (∃ l48 : Sl, w8.cell? ⟨w.heap.size, 1, none⟩ = some (.slice l48.a l48.len l48.cap) ∧ J10 (decide ((((l48.len : Nat) : Int) : Int) > 512)) w8)) (fun (b9 : Bool) w11 => BIf b9 (K (.bool false) w11) (∃ l12 : Sl, w11.cell? ⟨w.heap.size, 1, none⟩ = some (.slice l12.a l12.len l12.cap) ∧ LoopW [.int .i64, .int .i64] (fun J15 => fun (n13 : Int) (n14 : Int) w16 => BIf (decide ((n14 : Int) < ((l12.len : Nat) : Int))) (0 ≤ (n14 : Int) ∧ (n14 : Int) < ((l12.len : Nat) : Int) ∧ ∃ q17 : Addr, (l12.a : Option Addr) = some q17 ∧ ∃ n18 : Int, w16.cell? ((q17.add (Int.toNat n14 * 2)).add 0) = some (.int .i64 n18) ∧ ∃ n19 : Int, w16.cell? ((q17.add (Int.toNat n14 * 2)).add 1) = some (.int .i64 n19) ∧ LetW (w16.alloc (.cells #[.int .i64 0, .int .i64 0] 42)) fun w20 => MayN w20 ⟨w16.heap.size, 0, none⟩ 2 ∧ LetW (puts w20 ⟨w16.heap.size, 0, none⟩ 0 [.int .i64 n18, .int .i64 n19]) fun w21 => ∃ n22 : Int, w21.cell? ⟨w16.heap.size, 0, none⟩ = some (.int .i64 n22) ∧ JoinW [.bool] (fun J24 => BIf (decide ((n22 : Int) < n13)) (J24 true w21) (∃ n47 : Int, w21.cell? ⟨w16.heap.size, 0, none⟩ = some (.int .i64 n47) ∧ (8 : Int) ≠ 0 ∧ J24 ((Int.tmod n47 8 : Int) != 0) w21)) (fun (b23 : Bool) w25 => JoinW [.bool] (fun J27 => BIf b23 (J27 true w25) (∃ n46 : Int, w25.cell? ⟨w16.heap.size, 1, none⟩ = some (.int .i64 n46) ∧ (8 : Int) ≠ 0 ∧ J27 ((Int.tmod n46 8 : Int) != 0) w25)) (fun (b26 : Bool) w28 => JoinW [.bool] (fun J30 => BIf b26 (J30 true w28) (∃ n45 : Int, w28.cell? ⟨w16.heap.size, 1, none⟩ = some (.int .i64 n45) ∧ J30 (decide ((n45 : Int) ≤ 0)) w28)) (fun (b29 : Bool) w31 => JoinW [.bool] (fun J33 => BIf b29 (J33 true w31) (∃ n43 : Int, w31.cell? ⟨w16.heap.size, 0, none⟩ = some (.int .i64 n43) ∧ ∃ n44 : Int, w31.cell? ⟨w.heap.size, 0, none⟩ = some (.int .i64 n44) ∧ J33 (decide ((n43 : Int) > n44)) w31)) (fun (b32 : Bool) w34 => JoinW [.bool] (fun J36 => BIf b32 (J36 true w34) (∃ n40 : Int, w34.cell? ⟨w16.heap.size, 1, none⟩ = some (.int .i64 n40) ∧ ∃ n41 : Int, w34.cell? ⟨w.heap.size, 0, none⟩ = some (.int .i64 n41) ∧ ∃ n42 : Int, w34.cell? ⟨w16.heap.size, 0, none⟩ = some (.int .i64 n42) ∧ J36 (decide ((n40 : Int) > (IntKind.wrap .i64 (n41 - n42)))) w34)) (fun (b35 : Bool) w37 => BIf b35 (K (.bool false) w37) (∃ n38 : Int, w37.cell? ⟨w16.heap.size, 0, none⟩ = some (.int .i64 n38) ∧ ∃ n39 : Int, w37.cell? ⟨w16.heap.size, 1, none⟩ = some (.int .i64 n39) ∧ J15 (IntKind.wrap .i64 (n38 + n39)) (IntKind.wrap .i64 (n14 + 1)) w37))))))) (K (.bool true) w16)) ((0 : Int), ((0 : Int), ())) w11))))
theorem eq66 (a0_0 : Int) (a0_1 : Sl) (w : World) (K : Value → World → Prop) : denFn Try.prog tt Try.f66 an66 [.agg #[.int .i64 a0_0, .slice a0_1.a a0_1.len a0_1.cap]] w K = W66 a0_0 a0_1 w K := by kernel_rfl
theorem ok66 : OkFn Try.prog 66 := ⟨Try.f66, Try.func66, by kernel_rfl, by kernel_rfl⟩
theorem go66 {a0_0 : Int} {a0_1 : Sl} {w : World} {K : Value → World → Prop} (h : W66 a0_0 a0_1 w K) : CallW Try.prog 66 #[.agg #[.int .i64 a0_0, .slice a0_1.a a0_1.len a0_1.cap]] w K :=
  .inl ⟨ok66, denFn_sound tt_ok mix Try.func66 (by kernel_rfl) (eq66 a0_0 a0_1 w K ▸ h)⟩

/- loop.example/g00008/impl.copyHeap -/
def an67 : Ann := (.seq .leaf (.seq .leaf (.seq .leaf .leaf)))
def W67 (a0_0 : Int) (a0_1 : Sl) (w : World) (K : Value → World → Prop) : Prop :=
  LetW (w.alloc (.cells #[.int .i64 a0_0, .slice a0_1.a a0_1.len a0_1.cap] 29)) fun w1 => LetW (w1.alloc (.cells #[.int .i64 0, .slice none 0 0] 29)) fun w2 => ∃ l3 : Sl, w2.cell? ⟨w.heap.size, 1, none⟩ = some (.slice l3.a l3.len l3.cap) ∧ AppendW 42 ti42 ⟨none, 0, 0⟩ l3 w2 fun l4 w5 => May w5 ⟨w.heap.size, 1, none⟩ ∧ LetW (w5.setCell ⟨w.heap.size, 1, none⟩ (.slice l4.a l4.len l4.cap)) fun w6 => ∃ n7 : Int, w6.cell? ⟨w.heap.size, 0, none⟩ = some (.int .i64 n7) ∧ ∃ l8 : Sl, w6.cell? ⟨w.heap.size, 1, none⟩ = some (.slice l8.a l8.len l8.cap) ∧ MayN w6 ⟨w1.heap.size, 0, none⟩ 2 ∧ LetW (puts w6 ⟨w1.heap.size, 0, none⟩ 0 [.int .i64 n7, .slice l8.a l8.len l8.cap]) fun w9 => ∃ n10 : Int, w9.cell? ⟨w1.heap.size, 0, none⟩ = some (.int .i64 n10) ∧ ∃ l11 : Sl, w9.cell? ⟨w1.heap.size, 1, none⟩ = some (.slice l11.a l11.len l11.cap) ∧ K (.agg #[.int .i64 n10, .slice l11.a l11.len l11.cap]) w9
theorem eq67 (a0_0 : Int) (a0_1 : Sl) (w : World) (K : Value → World → Prop) : denFn Try.prog tt Try.f67 an67 [.agg #[.int .i64 a0_0, .slice a0_1.a a0_1.len a0_1.cap]] w K = W67 a0_0 a0_1 w K := by kernel_rfl
theorem ok67 : OkFn Try.prog 67 := ⟨Try.f67, Try.func67, by kernel_rfl, by kernel_rfl⟩
theorem go67 {a0_0 : Int} {a0_1 : Sl} {w : World} {K : Value → World → Prop} (h : W67 a0_0 a0_1 w K) : CallW Try.prog 67 #[.agg #[.int .i64 a0_0, .slice a0_1.a a0_1.len a0_1.cap]] w K :=
  .inl ⟨ok67, denFn_sound tt_ok mix Try.func67 (by kernel_rfl) (eq67 a0_0 a0_1 w K ▸ h)⟩

/- loop.example/g00008/impl.eights -/
def an68 : Ann := (.seq .leaf (.seq .leaf .leaf))
def W68 (a0 : Int) (w : World) (K : Value → World → Prop) : Prop :=
  (8 : Int) ≠ 0 ∧ K (.int .i64 (maxI 8 (IntKind.wrap .i64 ((IntKind.wrap .i64 (Int.tdiv (IntKind.wrap .i64 (a0 + 7)) 8)) * 8)))) w
theorem eq68 (a0 : Int) (w : World) (K : Value → World → Prop) : denFn Try.prog tt Try.f68 an68 [.int .i64 a0] w K = W68 a0 w K := by kernel_rfl
theorem ok68 : OkFn Try.prog 68 := ⟨Try.f68, Try.func68, by kernel_rfl, by kernel_rfl⟩
theorem go68 {a0 : Int} {w : World} {K : Value → World → Prop} (h : W68 a0 w K) : CallW Try.prog 68 #[.int .i64 a0] w K :=
  .inl ⟨ok68, denFn_sound tt_ok mix Try.func68 (by kernel_rfl) (eq68 a0 w K ▸ h)⟩

/- (*loop.example/g00008/impl.Heap).room -/
def an69 : Ann := (.seq .leaf (.seq .leaf (.seq (.seq .leaf (.in_ (.loop 12291 [(6, .int .i64), (14, .int .i64)] (.seq .leaf (.seq (.cond .leaf .leaf) (.seq (.in_ (.seq .leaf (.seq (.seq .leaf (.cond (.seq .leaf .leaf) .leaf)) .leaf))) .leaf)))))) (.seq (.seq .leaf (.cond (.seq (.draw [0, 0, 2, 6, 14, 30, 1, 127] [0, 1, 2, 3, 4, 5, 6, 7]) .leaf) .leaf)) (.seq .leaf .leaf)))))
def W69 (a0 : Option Addr) (a1 : Int) (w : World) (K : Value → World → Prop) : Prop :=
  ∃ p1 : Addr, (a0 : Option Addr) = some p1 ∧ ∃ l2 : Sl, w.cell? (p1.add 1) = some (.slice l2.a l2.len l2.cap) ∧ LoopW [.int .i64, .int .i64] (fun J5 => fun (n3 : Int) (n4 : Int) w6 => BIf (decide ((n4 : Int) < ((l2.len : Nat) : Int))) (0 ≤ (n4 : Int) ∧ (n4 : Int) < ((l2.len : Nat) : Int) ∧ ∃ q7 : Addr, (l2.a : Option Addr) = some q7 ∧ ∃ n8 : Int, w6.cell? ((q7.add (Int.toNat n4 * 2)).add 0) = some (.int .i64 n8) ∧ ∃ n9 : Int, w6.cell? ((q7.add (Int.toNat n4 * 2)).add 1) = some (.int .i64 n9) ∧ LetW (w6.alloc (.cells #[.int .i64 0, .int .i64 0] 42)) fun w10 => MayN w10 ⟨w6.heap.size, 0, none⟩ 2 ∧ LetW (puts w10 ⟨w6.heap.size, 0, none⟩ 0 [.int .i64 n8, .int .i64 n9]) fun w11 => ∃ n12 : Int, w11.cell? ⟨w6.heap.size, 0, none⟩ = some (.int .i64 n12) ∧ BIf (decide ((IntKind.wrap .i64 (n12 - n3) : Int) ≥ a1)) (K (.tuple #[.int .i64 n3, .int .i64 n4]) w11) (∃ n13 : Int, w11.cell? ⟨w6.heap.size, 0, none⟩ = some (.int .i64 n13) ∧ ∃ n14 : Int, w11.cell? ⟨w6.heap.size, 1, none⟩ = some (.int .i64 n14) ∧ J5 (IntKind.wrap .i64 (n13 + n14)) (IntKind.wrap .i64 (n4 + 1)) w11)) (∃ p15 : Addr, (a0 : Option Addr) = some p15 ∧ ∃ n16 : Int, w6.cell? (p15.add 0) = some (.int .i64 n16) ∧ BIf (decide ((IntKind.wrap .i64 (n16 - n3) : Int) ≥ a1)) (∃ p17 : Addr, (a0 : Option Addr) = some p17 ∧ ∃ l18 : Sl, w6.drew.cell? (p17.add 1) = some (.slice l18.a l18.len l18.cap) ∧ K (.tuple #[.int .i64 n3, .int .i64 ((l18.len : Nat) : Int)]) w6.drew) (K (.tuple #[.int .i64 (-1), .int .i64 0]) w6))) ((0 : Int), ((0 : Int), ())) w
theorem eq69 (a0 : Option Addr) (a1 : Int) (w : World) (K : Value → World → Prop) : denFn Try.prog tt Try.f69 an69 [.pointer a0, .int .i64 a1] w K = W69 a0 a1 w K := by kernel_rfl
theorem ok69 : OkFn Try.prog 69 := ⟨Try.f69, Try.func69, by kernel_rfl, by kernel_rfl⟩
theorem go69 {a0 : Option Addr} {a1 : Int} {w : World} {K : Value → World → Prop} (h : W69 a0 a1 w K) : CallW Try.prog 69 #[.pointer a0, .int .i64 a1] w K :=
  .inl ⟨ok69, denFn_sound tt_ok mix Try.func69 (by kernel_rfl) (eq69 a0 a1 w K ▸ h)⟩

/- slices.Insert[[]loop.example/g00008/impl.Span,loop.example/g00008/impl.Span] -/
def an70 : Ann := (.seq .leaf (.seq .leaf (.seq .leaf (.seq (.seq .leaf (.cond (.seq .leaf .leaf) .leaf)) (.seq .leaf (.seq (.seq .leaf (.cond (.seq .leaf .leaf) .leaf)) (.seq (.seq .leaf (.cond (.seq .leaf (.seq .leaf (.seq (.draw [0, 0, 0, 6, 15, 0, 0, 96, 255] [0, 1, 2, 3, 4, 5, 6, 7, 8]) (.seq .leaf .leaf)))) .leaf)) (.seq .leaf (.seq (.seq .leaf (.cond (.seq (.draw [0, 0, 0, 6, 15, 0, 0, 96, 255] [0, 1, 2, 3, 4, 5, 6, 7, 8]) (.seq .leaf (.seq .leaf .leaf))) .leaf)) (.seq .leaf (.seq .leaf (.seq .leaf .leaf))))))))))))
def W70 (a0 : Sl) (a1 : Int) (a2 : Sl) (w : World) (K : Value → World → Prop) : Prop :=
  0 ≤ (a1 : Int) ∧ (a1 : Int) ≤ ((a0.len : Nat) : Int) ∧ BIf ((((a2.len : Nat) : Int) : Int) == 0) (K (.slice a0.a a0.len a0.cap) w) (BIf ((a1 : Int) == ((a0.len : Nat) : Int)) (AppendW 42 ti42 a0 a2 w fun l1 w2 => K (.slice l1.a l1.len l1.cap) w2) (BIf (decide ((IntKind.wrap .i64 (((a0.len : Nat) : Int) + ((a2.len : Nat) : Int)) : Int) > ((a0.cap : Nat) : Int))) (0 ≤ (a1 : Int) ∧ (a1 : Int) ≤ ((a0.cap : Nat) : Int) ∧ AppendZW 42 ti42 ⟨cutA a0.a a0.cap (Int.toNat 0) 2, Int.toNat a1 - Int.toNat 0, a0.cap - Int.toNat 0⟩ (IntKind.wrap .i64 ((IntKind.wrap .i64 (((a0.len : Nat) : Int) + ((a2.len : Nat) : Int))) - a1)) w fun l3 w4 => 0 ≤ (a1 : Int) ∧ (a1 : Int) ≤ ((l3.len : Nat) : Int) ∧ ∃ vs6, RowAt w4 a2.a ((min a2.len (Int.toNat ((l3.len : Nat) : Int) - Int.toNat a1)) * 2) vs6 ∧ (∀ v, v ∈ vs6 → plainB v = true) ∧ CopyW (cutA l3.a l3.cap (Int.toNat a1) 2) w4 vs6 vs6.length fun w5 => 0 ≤ (IntKind.wrap .i64 (a1 + ((a2.len : Nat) : Int)) : Int) ∧ (IntKind.wrap .i64 (a1 + ((a2.len : Nat) : Int)) : Int) ≤ ((l3.len : Nat) : Int) ∧ 0 ≤ (a1 : Int) ∧ (a1 : Int) ≤ ((a0.len : Nat) : Int) ∧ ∃ vs8, RowAt w5.drew (cutA a0.a a0.cap (Int.toNat a1) 2) ((min (Int.toNat ((a0.len : Nat) : Int) - Int.toNat a1) (Int.toNat ((l3.len : Nat) : Int) - Int.toNat (IntKind.wrap .i64 (a1 + ((a2.len : Nat) : Int))))) * 2) vs8 ∧ (∀ v, v ∈ vs8 → plainB v = true) ∧ CopyW (cutA l3.a l3.cap (Int.toNat (IntKind.wrap .i64 (a1 + ((a2.len : Nat) : Int)))) 2) w5.drew vs8 vs8.length fun w7 => K (.slice l3.a l3.len l3.cap) w7) (0 ≤ (IntKind.wrap .i64 (((a0.len : Nat) : Int) + ((a2.len : Nat) : Int)) : Int) ∧ (IntKind.wrap .i64 (((a0.len : Nat) : Int) + ((a2.len : Nat) : Int)) : Int) ≤ ((a0.cap : Nat) : Int) ∧ 0 ≤ (IntKind.wrap .i64 (a1 + ((a2.len : Nat) : Int)) : Int) ∧ (IntKind.wrap .i64 (a1 + ((a2.len : Nat) : Int)) : Int) ≤ ((Int.toNat (IntKind.wrap .i64 (((a0.len : Nat) : Int) + ((a2.len : Nat) : Int))) - Int.toNat 0 : Nat) : Int) ∧ CallW Try.prog 139 #[.slice a2.a a2.len a2.cap, .slice (cutA (cutA a0.a a0.cap (Int.toNat 0) 2) (a0.cap - Int.toNat 0) (Int.toNat (IntKind.wrap .i64 (a1 + ((a2.len : Nat) : Int)))) 2) (Int.toNat ((Int.toNat (IntKind.wrap .i64 (((a0.len : Nat) : Int) + ((a2.len : Nat) : Int))) - Int.toNat 0 : Nat) : Int) - Int.toNat (IntKind.wrap .i64 (a1 + ((a2.len : Nat) : Int)))) ((a0.cap - Int.toNat 0) - Int.toNat (IntKind.wrap .i64 (a1 + ((a2.len : Nat) : Int))))] w fun v9 w10 => ∃ b11 : Bool, v9 = .bool b11 ∧ BIf (!b11) (0 ≤ (IntKind.wrap .i64 (a1 + ((a2.len : Nat) : Int)) : Int) ∧ (IntKind.wrap .i64 (a1 + ((a2.len : Nat) : Int)) : Int) ≤ ((Int.toNat (IntKind.wrap .i64 (((a0.len : Nat) : Int) + ((a2.len : Nat) : Int))) - Int.toNat 0 : Nat) : Int) ∧ 0 ≤ (a1 : Int) ∧ (a1 : Int) ≤ ((Int.toNat (IntKind.wrap .i64 (((a0.len : Nat) : Int) + ((a2.len : Nat) : Int))) - Int.toNat 0 : Nat) : Int) ∧ ∃ vs13, RowAt w10.drew (cutA (cutA a0.a a0.cap (Int.toNat 0) 2) (a0.cap - Int.toNat 0) (Int.toNat a1) 2) ((min (Int.toNat ((Int.toNat (IntKind.wrap .i64 (((a0.len : Nat) : Int) + ((a2.len : Nat) : Int))) - Int.toNat 0 : Nat) : Int) - Int.toNat a1) (Int.toNat ((Int.toNat (IntKind.wrap .i64 (((a0.len : Nat) : Int) + ((a2.len : Nat) : Int))) - Int.toNat 0 : Nat) : Int) - Int.toNat (IntKind.wrap .i64 (a1 + ((a2.len : Nat) : Int))))) * 2) vs13 ∧ (∀ v, v ∈ vs13 → plainB v = true) ∧ CopyW (cutA (cutA a0.a a0.cap (Int.toNat 0) 2) (a0.cap - Int.toNat 0) (Int.toNat (IntKind.wrap .i64 (a1 + ((a2.len : Nat) : Int)))) 2) w10.drew vs13 vs13.length fun w12 => 0 ≤ (a1 : Int) ∧ (a1 : Int) ≤ ((Int.toNat (IntKind.wrap .i64 (((a0.len : Nat) : Int) + ((a2.len : Nat) : Int))) - Int.toNat 0 : Nat) : Int) ∧ ∃ vs15, RowAt w12 a2.a ((min a2.len (Int.toNat ((Int.toNat (IntKind.wrap .i64 (((a0.len : Nat) : Int) + ((a2.len : Nat) : Int))) - Int.toNat 0 : Nat) : Int) - Int.toNat a1)) * 2) vs15 ∧ (∀ v, v ∈ vs15 → plainB v = true) ∧ CopyW (cutA (cutA a0.a a0.cap (Int.toNat 0) 2) (a0.cap - Int.toNat 0) (Int.toNat a1) 2) w12 vs15 vs15.length fun w14 => K (.slice (cutA a0.a a0.cap (Int.toNat 0) 2) (Int.toNat (IntKind.wrap .i64 (((a0.len : Nat) : Int) + ((a2.len : Nat) : Int))) - Int.toNat 0) (a0.cap - Int.toNat 0)) w14) (0 ≤ ((a0.len : Nat) : Int) ∧ ((a0.len : Nat) : Int) ≤ ((Int.toNat (IntKind.wrap .i64 (((a0.len : Nat) : Int) + ((a2.len : Nat) : Int))) - Int.toNat 0 : Nat) : Int) ∧ ∃ vs17, RowAt w10 a2.a ((min a2.len (Int.toNat ((Int.toNat (IntKind.wrap .i64 (((a0.len : Nat) : Int) + ((a2.len : Nat) : Int))) - Int.toNat 0 : Nat) : Int) - Int.toNat ((a0.len : Nat) : Int))) * 2) vs17 ∧ (∀ v, v ∈ vs17 → plainB v = true) ∧ CopyW (cutA (cutA a0.a a0.cap (Int.toNat 0) 2) (a0.cap - Int.toNat 0) (Int.toNat ((a0.len : Nat) : Int)) 2) w10 vs17 vs17.length fun w16 => 0 ≤ (a1 : Int) ∧ (a1 : Int) ≤ ((Int.toNat (IntKind.wrap .i64 (((a0.len : Nat) : Int) + ((a2.len : Nat) : Int))) - Int.toNat 0 : Nat) : Int) ∧ CallW Try.prog 140 #[.slice (cutA (cutA a0.a a0.cap (Int.toNat 0) 2) (a0.cap - Int.toNat 0) (Int.toNat a1) 2) (Int.toNat ((Int.toNat (IntKind.wrap .i64 (((a0.len : Nat) : Int) + ((a2.len : Nat) : Int))) - Int.toNat 0 : Nat) : Int) - Int.toNat a1) ((a0.cap - Int.toNat 0) - Int.toNat a1), .int .i64 ((a2.len : Nat) : Int)] w16 fun v18 w19 => v18 = .tuple #[] ∧ K (.slice (cutA a0.a a0.cap (Int.toNat 0) 2) (Int.toNat (IntKind.wrap .i64 (((a0.len : Nat) : Int) + ((a2.len : Nat) : Int))) - Int.toNat 0) (a0.cap - Int.toNat 0)) w19))))
theorem eq70 (a0 : Sl) (a1 : Int) (a2 : Sl) (w : World) (K : Value → World → Prop) : denFn Try.prog tt Try.f70 an70 [.slice a0.a a0.len a0.cap, .int .i64 a1, .slice a2.a a2.len a2.cap] w K = W70 a0 a1 a2 w K := by kernel_rfl
theorem ok70 : OkFn Try.prog 70 := ⟨Try.f70, Try.func70, by kernel_rfl, by kernel_rfl⟩
theorem go70 {a0 : Sl} {a1 : Int} {a2 : Sl} {w : World} {K : Value → World → Prop} (h : W70 a0 a1 a2 w K) : CallW Try.prog 70 #[.slice a0.a a0.len a0.cap, .int .i64 a1, .slice a2.a a2.len a2.cap] w K :=
  .inl ⟨ok70, denFn_sound tt_ok mix Try.func70 (by kernel_rfl) (eq70 a0 a1 a2 w K ▸ h)⟩

/- loop.example/g00008/spec.l8Room -/
def an71 : Ann := (.seq .leaf (.seq .leaf (.seq (.seq .leaf (.in_ (.loop 6 [(6, .int .i64), (7, .int .i64)] (.seq (.seq .leaf (.cond .leaf .leaf)) (.seq (.in_ (.seq (.seq .leaf (.cond (.seq .leaf .leaf) .leaf)) (.draw [0, 1, 0, 7, 15, 31, 0, 64, 0, 448, 960, 1984, 4095, 8191] [0, 1, 2, 3, 4, 5, 6, 7, 8, 9, 10, 11, 12, 13]))) .leaf))))) (.seq (.seq .leaf (.cond (.seq .leaf .leaf) .leaf)) (.seq .leaf .leaf)))))
def W71 (a0_0 : Int) (a0_1 : Sl) (a1 : Int) (w : World) (K : Value → World → Prop) : Prop :=
  LetW (w.alloc (.cells #[.int .i64 a0_0, .slice a0_1.a a0_1.len a0_1.cap] 29)) fun w1 => LoopW [.int .i64, .int .i64] (fun J4 => fun (n2 : Int) (n3 : Int) w5 => ∃ l6 : Sl, w5.cell? ⟨w.heap.size, 1, none⟩ = some (.slice l6.a l6.len l6.cap) ∧ BIf (decide ((n3 : Int) < ((l6.len : Nat) : Int))) (∃ l7 : Sl, w5.cell? ⟨w.heap.size, 1, none⟩ = some (.slice l7.a l7.len l7.cap) ∧ 0 ≤ (n3 : Int) ∧ (n3 : Int) < ((l7.len : Nat) : Int) ∧ ∃ q8 : Addr, (l7.a : Option Addr) = some q8 ∧ ∃ n9 : Int, w5.cell? ((q8.add (Int.toNat n3 * 2)).add 0) = some (.int .i64 n9) ∧ BIf (decide ((IntKind.wrap .i64 (n9 - n2) : Int) ≥ a1)) (K (.tuple #[.int .i64 n3, .int .i64 n2]) w5) (∃ l10 : Sl, w5.drew.cell? ⟨w.heap.size, 1, none⟩ = some (.slice l10.a l10.len l10.cap) ∧ 0 ≤ (n3 : Int) ∧ (n3 : Int) < ((l10.len : Nat) : Int) ∧ ∃ q11 : Addr, (l10.a : Option Addr) = some q11 ∧ ∃ n12 : Int, w5.drew.cell? ((q11.add (Int.toNat n3 * 2)).add 0) = some (.int .i64 n12) ∧ ∃ l13 : Sl, w5.drew.cell? ⟨w.heap.size, 1, none⟩ = some (.slice l13.a l13.len l13.cap) ∧ 0 ≤ (n3 : Int) ∧ (n3 : Int) < ((l13.len : Nat) : Int) ∧ ∃ q14 : Addr, (l13.a : Option Addr) = some q14 ∧ ∃ n15 : Int, w5.drew.cell? ((q14.add (Int.toNat n3 * 2)).add 1) = some (.int .i64 n15) ∧ J4 (IntKind.wrap .i64 (n12 + n15)) (IntKind.wrap .i64 (n3 + 1)) w5.drew)) (∃ n16 : Int, w5.cell? ⟨w.heap.size, 0, none⟩ = some (.int .i64 n16) ∧ BIf (decide ((IntKind.wrap .i64 (n16 - n2) : Int) ≥ a1)) (∃ l17 : Sl, w5.cell? ⟨w.heap.size, 1, none⟩ = some (.slice l17.a l17.len l17.cap) ∧ K (.tuple #[.int .i64 ((l17.len : Nat) : Int), .int .i64 n2]) w5) (K (.tuple #[.int .i64 (-1), .int .i64 (-1)]) w5))) ((0 : Int), ((0 : Int), ())) w1
theorem eq71 (a0_0 : Int) (a0_1 : Sl) (a1 : Int) (w : World) (K : Value → World → Prop) : denFn Try.prog tt Try.f71 an71 [.agg #[.int .i64 a0_0, .slice a0_1.a a0_1.len a0_1.cap], .int .i64 a1] w K = W71 a0_0 a0_1 a1 w K := by kernel_rfl
theorem ok71 : OkFn Try.prog 71 := ⟨Try.f71, Try.func71, by kernel_rfl, by kernel_rfl⟩
theorem go71 {a0_0 : Int} {a0_1 : Sl} {a1 : Int} {w : World} {K : Value → World → Prop} (h : W71 a0_0 a0_1 a1 w K) : CallW Try.prog 71 #[.agg #[.int .i64 a0_0, .slice a0_1.a a0_1.len a0_1.cap], .int .i64 a1] w K :=
  .inl ⟨ok71, denFn_sound tt_ok mix Try.func71 (by kernel_rfl) (eq71 a0_0 a0_1 a1 w K ▸ h)⟩

/- loop.example/g00008/spec.l8Round -/
def an72 : Ann := (.seq .leaf (.seq (.seq .leaf (.cond (.seq .leaf .leaf) .leaf)) (.seq .leaf .leaf)))
def W72 (a0 : Int) (w : World) (K : Value → World → Prop) : Prop :=
  BIf ((a0 : Int) == 0) (K (.int .i64 8) w) ((8 : Int) ≠ 0 ∧ K (.int .i64 (IntKind.wrap .i64 ((IntKind.wrap .i64 (Int.tdiv (IntKind.wrap .i64 (a0 + 7)) 8)) * 8))) w)
theorem eq72 (a0 : Int) (w : World) (K : Value → World → Prop) : denFn Try.prog tt Try.f72 an72 [.int .i64 a0] w K = W72 a0 w K := by kernel_rfl
theorem ok72 : OkFn Try.prog 72 := ⟨Try.f72, Try.func72, by kernel_rfl, by kernel_rfl⟩
theorem go72 {a0 : Int} {w : World} {K : Value → World → Prop} (h : W72 a0 w K) : CallW Try.prog 72 #[.int .i64 a0] w K :=
  .inl ⟨ok72, denFn_sound tt_ok mix Try.func72 (by kernel_rfl) (eq72 a0 w K ▸ h)⟩

/- loop.example/g00008/spec.l8HeapSame -/
def an73 : Ann := (.seq .leaf (.seq (.draw [0, 1, 0, 0, 8, 28, 63, 127] [0, 1, 3, 4, 2, 5, 6, 7]) .leaf))
def W73 (a0_0 : Int) (a0_1 : Sl) (w : World) (K : Value → World → Prop) : Prop :=
  LetW (w.alloc (.cells #[.int .i64 a0_0, .slice a0_1.a a0_1.len a0_1.cap] 29)) fun w1 => LetW (w1.alloc (.cells #[.int .i64 0, .slice none 0 0] 29)) fun w2 => ∃ n3 : Int, w2.drew.cell? ⟨w.heap.size, 0, none⟩ = some (.int .i64 n3) ∧ ∃ l4 : Sl, w2.drew.cell? ⟨w.heap.size, 1, none⟩ = some (.slice l4.a l4.len l4.cap) ∧ LetW (w2.drew.alloc (.cells #[] 42)) fun w5 => (∃ l6 : Sl, w5.cell? ⟨w.heap.size, 1, none⟩ = some (.slice l6.a l6.len l6.cap) ∧ (.slice l6.a l6.len l6.cap : Value) = (.slice l4.a l4.len l4.cap : Value)) ∧ (∃ n7 : Int, w5.cell? ⟨w.heap.size, 0, none⟩ = some (.int .i64 n7) ∧ (.int .i64 n7 : Value) = (.int .i64 n3 : Value)) ∧ AppendW 42 ti42 ⟨some ⟨w2.drew.heap.size, 0, none⟩, 0, 0⟩ l4 w5 fun l8 w9 => (∃ n10 : Int, w9.cell? ⟨w.heap.size, 0, none⟩ = some (.int .i64 n10) ∧ (.int .i64 n10 : Value) = (.int .i64 n3 : Value)) ∧ MayN w9 ⟨w1.heap.size, 0, none⟩ 2 ∧ LetW (puts w9 ⟨w1.heap.size, 0, none⟩ 0 [.int .i64 n3, .slice l8.a l8.len l8.cap]) fun w11 => ∃ n12 : Int, w11.cell? ⟨w1.heap.size, 0, none⟩ = some (.int .i64 n12) ∧ ∃ l13 : Sl, w11.cell? ⟨w1.heap.size, 1, none⟩ = some (.slice l13.a l13.len l13.cap) ∧ K (.agg #[.int .i64 n12, .slice l13.a l13.len l13.cap]) w11
theorem eq73 (a0_0 : Int) (a0_1 : Sl) (w : World) (K : Value → World → Prop) : denFn Try.prog tt Try.f73 an73 [.agg #[.int .i64 a0_0, .slice a0_1.a a0_1.len a0_1.cap]] w K = W73 a0_0 a0_1 w K := by kernel_rfl
theorem ok73 : OkFn Try.prog 73 := ⟨Try.f73, Try.func73, by kernel_rfl, by kernel_rfl⟩
theorem go73 {a0_0 : Int} {a0_1 : Sl} {w : World} {K : Value → World → Prop} (h : W73 a0_0 a0_1 w K) : CallW Try.prog 73 #[.agg #[.int .i64 a0_0, .slice a0_1.a a0_1.len a0_1.cap]] w K :=
  .inl ⟨ok73, denFn_sound tt_ok mix Try.func73 (by kernel_rfl) (eq73 a0_0 a0_1 w K ▸ h)⟩

/- loop.example/g00008/spec.l8PutSpan -/
def an74 : Ann := (.seq .leaf (.join 106 [(7, .ptr)] (.drawT [0, 1, 0, 0, 8, 0, 56, 124, 255, 0, 1023] [0, 1, 3, 4, 5, 6] (.alt [2] (.alt [7, 8] (.alt [9] (.alt [10] .leaf .stop) .stop) (.alt [9] (.alt [7, 8] (.alt [10] .leaf .stop) .stop) .stop)) (.alt [9] (.alt [2] (.alt [7, 8] (.alt [10] .leaf .stop) .stop) .stop) .stop))) (.seq .leaf (.seq (.draw [0, 1, 0, 4, 0, 28, 63, 127, 255] [0, 1, 2, 3, 4, 5, 6, 7, 8]) (.seq .leaf .leaf)))))
def W74 (a0_0 : Int) (a0_1 : Sl) (a1 : Int) (a2_0 : Int) (a2_1 : Int) (w : World) (K : Value → World → Prop) : Prop :=
  LetW (w.alloc (.cells #[.int .i64 a0_0, .slice a0_1.a a0_1.len a0_1.cap] 29)) fun w1 => LetW (w1.alloc (.cells #[.int .i64 a2_0, .int .i64 a2_1] 42)) fun w2 => LetW (w2.alloc (.cells #[.int .i64 0, .slice none 0 0] 29)) fun w3 => JoinW [.ptr] (fun J5 => ∃ n29 : Int, w3.drew.cell? ⟨w.heap.size, 0, none⟩ = some (.int .i64 n29) ∧ ∃ l30 : Sl, w3.drew.cell? ⟨w.heap.size, 1, none⟩ = some (.slice l30.a l30.len l30.cap) ∧ 0 ≤ (a1 : Int) ∧ (a1 : Int) ≤ ((l30.cap : Nat) : Int) ∧ (LetW (w3.drew.alloc (.cells #[] 42)) fun w41 => (∃ l42 : Sl, w41.cell? ⟨w.heap.size, 1, none⟩ = some (.slice l42.a l42.len l42.cap) ∧ (.slice l42.a l42.len l42.cap : Value) = (.slice l30.a l30.len l30.cap : Value)) ∧ (∃ n43 : Int, w41.cell? ⟨w.heap.size, 0, none⟩ = some (.int .i64 n43) ∧ (.int .i64 n43 : Value) = (.int .i64 n29 : Value)) ∧ (AppendW 42 ti42 ⟨some ⟨w3.drew.heap.size, 0, none⟩, 0, 0⟩ ⟨cutA l30.a l30.cap (Int.toNat 0) 2, Int.toNat a1 - Int.toNat 0, l30.cap - Int.toNat 0⟩ w41 fun l51 w52 => (∃ n53 : Int, w52.cell? ⟨w.heap.size, 0, none⟩ = some (.int .i64 n53) ∧ (.int .i64 n53 : Value) = (.int .i64 n29 : Value)) ∧ (LetW (w52.alloc (.cells #[.int .i64 0, .slice none 0 0] 29)) fun w54 => (∃ l55 : Sl, w54.cell? ⟨w.heap.size, 1, none⟩ = some (.slice l55.a l55.len l55.cap) ∧ (.slice l55.a l55.len l55.cap : Value) = (.slice l30.a l30.len l30.cap : Value)) ∧ (∃ n56 : Int, w54.cell? ⟨w.heap.size, 0, none⟩ = some (.int .i64 n56) ∧ (.int .i64 n56 : Value) = (.int .i64 n29 : Value)) ∧ (MayN w54 ⟨w52.heap.size, 0, none⟩ 2 ∧ LetW (puts w54 ⟨w52.heap.size, 0, none⟩ 0 [.int .i64 n29, .slice l51.a l51.len l51.cap]) fun w57 => J5 (some ⟨w52.heap.size, 0, none⟩) w57) ∧ (True)) ∧ (True)) ∧ ((LetW (w41.alloc (.cells #[.int .i64 0, .slice none 0 0] 29)) fun w44 => (∃ l45 : Sl, w44.cell? ⟨w.heap.size, 1, none⟩ = some (.slice l45.a l45.len l45.cap) ∧ (.slice l45.a l45.len l45.cap : Value) = (.slice l30.a l30.len l30.cap : Value)) ∧ (∃ n46 : Int, w44.cell? ⟨w.heap.size, 0, none⟩ = some (.int .i64 n46) ∧ (.int .i64 n46 : Value) = (.int .i64 n29 : Value)) ∧ (AppendW 42 ti42 ⟨some ⟨w3.drew.heap.size, 0, none⟩, 0, 0⟩ ⟨cutA l30.a l30.cap (Int.toNat 0) 2, Int.toNat a1 - Int.toNat 0, l30.cap - Int.toNat 0⟩ w44 fun l47 w48 => (∃ n49 : Int, w48.cell? ⟨w.heap.size, 0, none⟩ = some (.int .i64 n49) ∧ (.int .i64 n49 : Value) = (.int .i64 n29 : Value)) ∧ (MayN w48 ⟨w41.heap.size, 0, none⟩ 2 ∧ LetW (puts w48 ⟨w41.heap.size, 0, none⟩ 0 [.int .i64 n29, .slice l47.a l47.len l47.cap]) fun w50 => J5 (some ⟨w41.heap.size, 0, none⟩) w50) ∧ (True)) ∧ (True)) ∧ (True))) ∧ ((LetW (w3.drew.alloc (.cells #[.int .i64 0, .slice none 0 0] 29)) fun w31 => (∃ l32 : Sl, w31.cell? ⟨w.heap.size, 1, none⟩ = some (.slice l32.a l32.len l32.cap) ∧ (.slice l32.a l32.len l32.cap : Value) = (.slice l30.a l30.len l30.cap : Value)) ∧ (∃ n33 : Int, w31.cell? ⟨w.heap.size, 0, none⟩ = some (.int .i64 n33) ∧ (.int .i64 n33 : Value) = (.int .i64 n29 : Value)) ∧ (LetW (w31.alloc (.cells #[] 42)) fun w34 => (∃ l35 : Sl, w34.cell? ⟨w.heap.size, 1, none⟩ = some (.slice l35.a l35.len l35.cap) ∧ (.slice l35.a l35.len l35.cap : Value) = (.slice l30.a l30.len l30.cap : Value)) ∧ (∃ n36 : Int, w34.cell? ⟨w.heap.size, 0, none⟩ = some (.int .i64 n36) ∧ (.int .i64 n36 : Value) = (.int .i64 n29 : Value)) ∧ (AppendW 42 ti42 ⟨some ⟨w31.heap.size, 0, none⟩, 0, 0⟩ ⟨cutA l30.a l30.cap (Int.toNat 0) 2, Int.toNat a1 - Int.toNat 0, l30.cap - Int.toNat 0⟩ w34 fun l37 w38 => (∃ n39 : Int, w38.cell? ⟨w.heap.size, 0, none⟩ = some (.int .i64 n39) ∧ (.int .i64 n39 : Value) = (.int .i64 n29 : Value)) ∧ (MayN w38 ⟨w3.drew.heap.size, 0, none⟩ 2 ∧ LetW (puts w38 ⟨w3.drew.heap.size, 0, none⟩ 0 [.int .i64 n29, .slice l37.a l37.len l37.cap]) fun w40 => J5 (some ⟨w3.drew.heap.size, 0, none⟩) w40) ∧ (True)) ∧ (True)) ∧ (True)) ∧ (True))) (fun (p4 : Option Addr) w6 => addrOf (some (.pointer p4)) fun p7 => ∃ l8 : Sl, w6.cell? (p7.add 1) = some (.slice l8.a l8.len l8.cap) ∧ ∃ n9 : Int, w6.cell? ⟨w1.heap.size, 0, none⟩ = some (.int .i64 n9) ∧ ∃ n10 : Int, w6.cell? ⟨w1.heap.size, 1, none⟩ = some (.int .i64 n10) ∧ LetW (w6.alloc (.cells #[.int .i64 n9, .int .i64 n10] 42)) fun w11 => AppendW 42 ti42 l8 ⟨some ⟨w6.heap.size, 0, none⟩, 1, 1⟩ w11 fun l12 w13 => addrOf (some (.pointer p4)) fun p14 => May w13 (p14.add 1) ∧ LetW (w13.setCell (p14.add 1) (.slice l12.a l12.len l12.cap)) fun w15 => addrOf (some (.pointer p4)) fun p16 => ∃ l17 : Sl, w15.drew.cell? (p16.add 1) = some (.slice l17.a l17.len l17.cap) ∧ ∃ l18 : Sl, w15.drew.cell? ⟨w.heap.size, 1, none⟩ = some (.slice l18.a l18.len l18.cap) ∧ 0 ≤ (a1 : Int) ∧ (a1 : Int) ≤ ((l18.len : Nat) : Int) ∧ AppendW 42 ti42 l17 ⟨cutA l18.a l18.cap (Int.toNat a1) 2, Int.toNat ((l18.len : Nat) : Int) - Int.toNat a1, l18.cap - Int.toNat a1⟩ w15.drew fun l19 w20 => addrOf (some (.pointer p4)) fun p21 => May w20 (p21.add 1) ∧ LetW (w20.setCell (p21.add 1) (.slice l19.a l19.len l19.cap)) fun w22 => addrOf (some (.pointer p4)) fun p23 => ∃ n24 : Int, w22.cell? (p23.add 0) = some (.int .i64 n24) ∧ ∃ l25 : Sl, w22.cell? (p23.add 1) = some (.slice l25.a l25.len l25.cap) ∧ MayN w22 ⟨w2.heap.size, 0, none⟩ 2 ∧ LetW (puts w22 ⟨w2.heap.size, 0, none⟩ 0 [.int .i64 n24, .slice l25.a l25.len l25.cap]) fun w26 => ∃ n27 : Int, w26.cell? ⟨w2.heap.size, 0, none⟩ = some (.int .i64 n27) ∧ ∃ l28 : Sl, w26.cell? ⟨w2.heap.size, 1, none⟩ = some (.slice l28.a l28.len l28.cap) ∧ K (.agg #[.int .i64 n27, .slice l28.a l28.len l28.cap]) w26)
theorem eq74 (a0_0 : Int) (a0_1 : Sl) (a1 : Int) (a2_0 : Int) (a2_1 : Int) (w : World) (K : Value → World → Prop) : denFn Try.prog tt Try.f74 an74 [.agg #[.int .i64 a0_0, .slice a0_1.a a0_1.len a0_1.cap], .int .i64 a1, .agg #[.int .i64 a2_0, .int .i64 a2_1]] w K = W74 a0_0 a0_1 a1 a2_0 a2_1 w K := by kernel_rfl
theorem ok74 : OkFn Try.prog 74 := ⟨Try.f74, Try.func74, by kernel_rfl, by kernel_rfl⟩
theorem go74 {a0_0 : Int} {a0_1 : Sl} {a1 : Int} {a2_0 : Int} {a2_1 : Int} {w : World} {K : Value → World → Prop} (h : W74 a0_0 a0_1 a1 a2_0 a2_1 w K) : CallW Try.prog 74 #[.agg #[.int .i64 a0_0, .slice a0_1.a a0_1.len a0_1.cap], .int .i64 a1, .agg #[.int .i64 a2_0, .int .i64 a2_1]] w K :=
  .inl ⟨ok74, denFn_sound tt_ok mix Try.func74 (by kernel_rfl) (eq74 a0_0 a0_1 a1 a2_0 a2_1 w K ▸ h)⟩

/- (*loop.example/g00008/impl.Heap).span -/
def an75 : Ann := (.seq .leaf (.seq .leaf .leaf))
def W75 (a0 : Option Addr) (a1 : Int) (w : World) (K : Value → World → Prop) : Prop :=
  LetW (w.alloc (.cells #[.int .i64 a1] 2)) fun w1 => ∃ p2 : Addr, (a0 : Option Addr) = some p2 ∧ ∃ l3 : Sl, w1.cell? (p2.add 1) = some (.slice l3.a l3.len l3.cap) ∧ CallW Try.prog 141 #[.slice l3.a l3.len l3.cap, .func (.func 142) #[] #[.pointer (some ⟨w.heap.size, 0, none⟩)]] w1 fun v4 w5 => ∃ n6 : Int, v4 = .int .i64 n6 ∧ K (.int .i64 n6) w5
theorem eq75 (a0 : Option Addr) (a1 : Int) (w : World) (K : Value → World → Prop) : denFn Try.prog tt Try.f75 an75 [.pointer a0, .int .i64 a1] w K = W75 a0 a1 w K := by kernel_rfl
theorem ok75 : OkFn Try.prog 75 := ⟨Try.f75, Try.func75, by kernel_rfl, by kernel_rfl⟩
theorem go75 {a0 : Option Addr} {a1 : Int} {w : World} {K : Value → World → Prop} (h : W75 a0 a1 w K) : CallW Try.prog 75 #[.pointer a0, .int .i64 a1] w K :=
  .inl ⟨ok75, denFn_sound tt_ok mix Try.func75 (by kernel_rfl) (eq75 a0 a1 w K ▸ h)⟩

/- slices.Delete[[]loop.example/g00008/impl.Span,loop.example/g00008/impl.Span] -/
def an76 : Ann := (.seq .leaf (.seq .leaf (.seq (.seq .leaf (.cond (.seq .leaf .leaf) .leaf)) (.seq .leaf (.seq (.draw [0, 0, 3, 0, 0, 24, 63, 127] [0, 1, 2, 3, 4, 5, 6, 7]) (.seq .leaf (.seq .leaf .leaf)))))))
def W76 (a0 : Sl) (a1 : Int) (a2 : Int) (w : World) (K : Value → World → Prop) : Prop :=
  ((some (some (Value.int .i64 a2)) : Option (Option Value)) ≠ none) ∧ 0 ≤ ((a0.len : Nat) : Int) ∧ ((a0.len : Nat) : Int) ≤ ((a0.cap : Nat) : Int) ∧ 0 ≤ (a2 : Int) ∧ (a2 : Int) ≤ ((a0.len : Nat) : Int) ∧ 0 ≤ (a1 : Int) ∧ (a1 : Int) ≤ (a2 : Int) ∧ BIf ((a1 : Int) == a2) (K (.slice a0.a a0.len a0.cap) w) (0 ≤ (a1 : Int) ∧ (a1 : Int) ≤ ((a0.cap : Nat) : Int) ∧ 0 ≤ (a2 : Int) ∧ (a2 : Int) ≤ ((a0.len : Nat) : Int) ∧ AppendW 42 ti42 ⟨cutA a0.a a0.cap (Int.toNat 0) 2, Int.toNat a1 - Int.toNat 0, a0.cap - Int.toNat 0⟩ ⟨cutA a0.a a0.cap (Int.toNat a2) 2, Int.toNat ((a0.len : Nat) : Int) - Int.toNat a2, a0.cap - Int.toNat a2⟩ w.drew fun l1 w2 => 0 ≤ ((a0.len : Nat) : Int) ∧ ((a0.len : Nat) : Int) ≤ ((l1.cap : Nat) : Int) ∧ 0 ≤ ((l1.len : Nat) : Int) ∧ ((l1.len : Nat) : Int) ≤ ((a0.len : Nat) : Int) ∧ ClearW (cutA l1.a l1.cap (Int.toNat ((l1.len : Nat) : Int)) 2) (Int.toNat ((a0.len : Nat) : Int) - Int.toNat ((l1.len : Nat) : Int)) 2 ti42.zero w2 fun w3 => K (.slice l1.a l1.len l1.cap) w3)
theorem eq76 (a0 : Sl) (a1 : Int) (a2 : Int) (w : World) (K : Value → World → Prop) : denFn Try.prog tt Try.f76 an76 [.slice a0.a a0.len a0.cap, .int .i64 a1, .int .i64 a2] w K = W76 a0 a1 a2 w K := by kernel_rfl
theorem ok76 : OkFn Try.prog 76 := ⟨Try.f76, Try.func76, by kernel_rfl, by kernel_rfl⟩
theorem go76 {a0 : Sl} {a1 : Int} {a2 : Int} {w : World} {K : Value → World → Prop} (h : W76 a0 a1 a2 w K) : CallW Try.prog 76 #[.slice a0.a a0.len a0.cap, .int .i64 a1, .int .i64 a2] w K :=
  .inl ⟨ok76, denFn_sound tt_ok mix Try.func76 (by kernel_rfl) (eq76 a0 a1 a2 w K ▸ h)⟩

/- loop.example/g00008/spec.l8SpanAt -/
def an77 : Ann := (.seq .leaf (.seq (.seq .leaf (.in_ (.loop 6 [(5, .int .i64)] (.seq (.seq .leaf (.cond .leaf .leaf)) (.seq (.in_ (.seq .leaf (.cond (.seq .leaf .leaf) .leaf))) .leaf))))) (.seq .leaf .leaf)))
def W77 (a0_0 : Int) (a0_1 : Sl) (a1 : Int) (w : World) (K : Value → World → Prop) : Prop :=
  LetW (w.alloc (.cells #[.int .i64 a0_0, .slice a0_1.a a0_1.len a0_1.cap] 29)) fun w1 => LoopW [.int .i64] (fun J3 => fun (n2 : Int) w4 => ∃ l5 : Sl, w4.cell? ⟨w.heap.size, 1, none⟩ = some (.slice l5.a l5.len l5.cap) ∧ BIf (decide ((n2 : Int) < ((l5.len : Nat) : Int))) (∃ l6 : Sl, w4.cell? ⟨w.heap.size, 1, none⟩ = some (.slice l6.a l6.len l6.cap) ∧ 0 ≤ (n2 : Int) ∧ (n2 : Int) < ((l6.len : Nat) : Int) ∧ ∃ q7 : Addr, (l6.a : Option Addr) = some q7 ∧ ∃ n8 : Int, w4.cell? ((q7.add (Int.toNat n2 * 2)).add 0) = some (.int .i64 n8) ∧ BIf ((n8 : Int) == a1) (K (.int .i64 n2) w4) (J3 (IntKind.wrap .i64 (n2 + 1)) w4)) (K (.int .i64 (-1)) w4)) ((0 : Int), ()) w1
theorem eq77 (a0_0 : Int) (a0_1 : Sl) (a1 : Int) (w : World) (K : Value → World → Prop) : denFn Try.prog tt Try.f77 an77 [.agg #[.int .i64 a0_0, .slice a0_1.a a0_1.len a0_1.cap], .int .i64 a1] w K = W77 a0_0 a0_1 a1 w K := by kernel_rfl
theorem ok77 : OkFn Try.prog 77 := ⟨Try.f77, Try.func77, by kernel_rfl, by kernel_rfl⟩
theorem go77 {a0_0 : Int} {a0_1 : Sl} {a1 : Int} {w : World} {K : Value → World → Prop} (h : W77 a0_0 a0_1 a1 w K) : CallW Try.prog 77 #[.agg #[.int .i64 a0_0, .slice a0_1.a a0_1.len a0_1.cap], .int .i64 a1] w K :=
  .inl ⟨ok77, denFn_sound tt_ok mix Try.func77 (by kernel_rfl) (eq77 a0_0 a0_1 a1 w K ▸ h)⟩

/- loop.example/g00008/spec.l8CutSpan -/
def an78 : Ann := (.seq .leaf (.seq (.draw [0, 1, 0, 0, 8, 0, 56, 124, 0, 256, 0, 1024, 3840, 8188, 16383, 32767] [0, 1, 3, 4, 5, 6, 8, 9, 10, 11, 12, 2, 7, 13, 14, 15]) .leaf))
def W78 (a0_0 : Int) (a0_1 : Sl) (a1 : Int) (w : World) (K : Value → World → Prop) : Prop :=
  LetW (w.alloc (.cells #[.int .i64 a0_0, .slice a0_1.a a0_1.len a0_1.cap] 29)) fun w1 => LetW (w1.alloc (.cells #[.int .i64 0, .slice none 0 0] 29)) fun w2 => ∃ n3 : Int, w2.drew.cell? ⟨w.heap.size, 0, none⟩ = some (.int .i64 n3) ∧ ∃ l4 : Sl, w2.drew.cell? ⟨w.heap.size, 1, none⟩ = some (.slice l4.a l4.len l4.cap) ∧ 0 ≤ (a1 : Int) ∧ (a1 : Int) ≤ ((l4.cap : Nat) : Int) ∧ ∃ l5 : Sl, w2.drew.cell? ⟨w.heap.size, 1, none⟩ = some (.slice l5.a l5.len l5.cap) ∧ 0 ≤ (IntKind.wrap .i64 (a1 + 1) : Int) ∧ (IntKind.wrap .i64 (a1 + 1) : Int) ≤ ((l5.len : Nat) : Int) ∧ LetW (w2.drew.alloc (.cells #[] 42)) fun w6 => (∃ l7 : Sl, w6.cell? ⟨w.heap.size, 1, none⟩ = some (.slice l7.a l7.len l7.cap) ∧ (.slice l7.a l7.len l7.cap : Value) = (.slice l5.a l5.len l5.cap : Value)) ∧ (∃ l8 : Sl, w6.cell? ⟨w.heap.size, 1, none⟩ = some (.slice l8.a l8.len l8.cap) ∧ (.slice l8.a l8.len l8.cap : Value) = (.slice l4.a l4.len l4.cap : Value)) ∧ (∃ n9 : Int, w6.cell? ⟨w.heap.size, 0, none⟩ = some (.int .i64 n9) ∧ (.int .i64 n9 : Value) = (.int .i64 n3 : Value)) ∧ AppendW 42 ti42 ⟨some ⟨w2.drew.heap.size, 0, none⟩, 0, 0⟩ ⟨cutA l4.a l4.cap (Int.toNat 0) 2, Int.toNat a1 - Int.toNat 0, l4.cap - Int.toNat 0⟩ w6 fun l10 w11 => (∃ l12 : Sl, w11.cell? ⟨w.heap.size, 1, none⟩ = some (.slice l12.a l12.len l12.cap) ∧ (.slice l12.a l12.len l12.cap : Value) = (.slice l5.a l5.len l5.cap : Value)) ∧ (∃ n13 : Int, w11.cell? ⟨w.heap.size, 0, none⟩ = some (.int .i64 n13) ∧ (.int .i64 n13 : Value) = (.int .i64 n3 : Value)) ∧ AppendW 42 ti42 l10 ⟨cutA l5.a l5.cap (Int.toNat (IntKind.wrap .i64 (a1 + 1))) 2, Int.toNat ((l5.len : Nat) : Int) - Int.toNat (IntKind.wrap .i64 (a1 + 1)), l5.cap - Int.toNat (IntKind.wrap .i64 (a1 + 1))⟩ w11 fun l14 w15 => (∃ n16 : Int, w15.cell? ⟨w.heap.size, 0, none⟩ = some (.int .i64 n16) ∧ (.int .i64 n16 : Value) = (.int .i64 n3 : Value)) ∧ MayN w15 ⟨w1.heap.size, 0, none⟩ 2 ∧ LetW (puts w15 ⟨w1.heap.size, 0, none⟩ 0 [.int .i64 n3, .slice l14.a l14.len l14.cap]) fun w17 => ∃ n18 : Int, w17.cell? ⟨w1.heap.size, 0, none⟩ = some (.int .i64 n18) ∧ ∃ l19 : Sl, w17.cell? ⟨w1.heap.size, 1, none⟩ = some (.slice l19.a l19.len l19.cap) ∧ K (.agg #[.int .i64 n18, .slice l19.a l19.len l19.cap]) w17
theorem eq78 (a0_0 : Int) (a0_1 : Sl) (a1 : Int) (w : World) (K : Value → World → Prop) : denFn Try.prog tt Try.f78 an78 [.agg #[.int .i64 a0_0, .slice a0_1.a a0_1.len a0_1.cap], .int .i64 a1] w K = W78 a0_0 a0_1 a1 w K := by kernel_rfl
theorem ok78 : OkFn Try.prog 78 := ⟨Try.f78, Try.func78, by kernel_rfl, by kernel_rfl⟩
theorem go78 {a0_0 : Int} {a0_1 : Sl} {a1 : Int} {w : World} {K : Value → World → Prop} (h : W78 a0_0 a0_1 a1 w K) : CallW Try.prog 78 #[.agg #[.int .i64 a0_0, .slice a0_1.a a0_1.len a0_1.cap], .int .i64 a1] w K :=
  .inl ⟨ok78, denFn_sound tt_ok mix Try.func78 (by kernel_rfl) (eq78 a0_0 a0_1 a1 w K ▸ h)⟩

/- loop.example/g00008/spec.l1Once -/
def an135 : Ann := (.seq .leaf (.seq .leaf .leaf))
def W135 (a0 : Option Addr) (a1 : Int) (w : World) (K : Value → World → Prop) : Prop :=
  CallW Try.prog 63 #[.pointer a0, .int .i64 a1] w fun v1 w2 => ∃ n3 : Int, v1 = .int .i64 n3 ∧ K (.bool ((n3 : Int) == 0)) w2
theorem eq135 (a0 : Option Addr) (a1 : Int) (w : World) (K : Value → World → Prop) : denFn Try.prog tt Try.f135 an135 [.pointer a0, .int .i64 a1] w K = W135 a0 a1 w K := by kernel_rfl
theorem ok135 : OkFn Try.prog 135 := ⟨Try.f135, Try.func135, by kernel_rfl, by kernel_rfl⟩
theorem go135 {a0 : Option Addr} {a1 : Int} {w : World} {K : Value → World → Prop} (h : W135 a0 a1 w K) : CallW Try.prog 135 #[.pointer a0, .int .i64 a1] w K :=
  .inl ⟨ok135, denFn_sound tt_ok mix Try.func135 (by kernel_rfl) (eq135 a0 a1 w K ▸ h)⟩

/- loop.example/g00008/spec.l1Byte -/
def an136 : Ann := (.seq .leaf (.seq .leaf (.seq (.draw [0, 1, 3, 7, 15, 0, 32, 96, 224, 480, 1023, 2047, 4095] [0, 1, 2, 3, 4, 5, 6, 7, 8, 9, 10, 11, 12]) (.seq (.seq (.draw [0, 1, 3, 7, 0, 16, 48, 112, 240, 511] [0, 1, 2, 3, 4, 5, 6, 7, 8, 9]) (.cond (.seq (.draw [0, 0, 2, 6, 14, 0, 32, 96, 224, 510, 1022, 2046, 4095, 8191, 16383] [0, 1, 2, 3, 4, 5, 6, 7, 8, 9, 10, 11, 12, 13, 14]) .leaf) .leaf)) (.seq .leaf .leaf)))))
def W136 (a0 : Option Addr) (w : World) (K : Value → World → Prop) : Prop :=
  ∃ p1 : Addr, (a0 : Option Addr) = some p1 ∧ ∃ n2 : Int, w.cell? (p1.add 2) = some (.int .i64 n2) ∧ ∃ p3 : Addr, (a0 : Option Addr) = some p3 ∧ May w (p3.add 2) ∧ LetW (w.setCell (p3.add 2) (.int .i64 (IntKind.wrap .i64 ((IntKind.wrap .i64 (n2 * 6364136223846793005)) + 1442695040888963407)))) fun w4 => ∃ p5 : Addr, (a0 : Option Addr) = some p5 ∧ ∃ n6 : Int, w4.drew.cell? (p5.add 2) = some (.int .i64 n6) ∧ 0 ≤ (33 : Int) ∧ ∃ p7 : Addr, (a0 : Option Addr) = some p7 ∧ ∃ n8 : Int, w4.drew.cell? (p7.add 2) = some (.int .i64 n8) ∧ 0 ≤ (45 : Int) ∧ ∃ p9 : Addr, (a0 : Option Addr) = some p9 ∧ ∃ n10 : Int, w4.drew.drew.cell? (p9.add 1) = some (.int .i64 n10) ∧ ∃ p11 : Addr, (a0 : Option Addr) = some p11 ∧ ∃ l12 : Sl, w4.drew.drew.cell? (p11.add 0) = some (.slice l12.a l12.len l12.cap) ∧ BIf (decide ((n10 : Int) < ((l12.len : Nat) : Int))) (∃ p13 : Addr, (a0 : Option Addr) = some p13 ∧ ∃ l14 : Sl, w4.drew.drew.drew.cell? (p13.add 0) = some (.slice l14.a l14.len l14.cap) ∧ ∃ p15 : Addr, (a0 : Option Addr) = some p15 ∧ ∃ n16 : Int, w4.drew.drew.drew.cell? (p15.add 1) = some (.int .i64 n16) ∧ 0 ≤ (n16 : Int) ∧ (n16 : Int) < ((l14.len : Nat) : Int) ∧ ∃ q17 : Addr, (l14.a : Option Addr) = some q17 ∧ ∃ n18 : Int, w4.drew.drew.drew.cell? (q17.add (Int.toNat n16 * 1)) = some (.int .u8 n18) ∧ ∃ p19 : Addr, (a0 : Option Addr) = some p19 ∧ ∃ n20 : Int, w4.drew.drew.drew.cell? (p19.add 1) = some (.int .i64 n20) ∧ ∃ p21 : Addr, (a0 : Option Addr) = some p21 ∧ May w4.drew.drew.drew (p21.add 1) ∧ LetW (w4.drew.drew.drew.setCell (p21.add 1) (.int .i64 (IntKind.wrap .i64 (n20 + 1)))) fun w22 => K (.int .i64 (andI .i64 (IntKind.wrap .i64 ((andI .i64 (xorI .i64 (shrI .i64 n6 33) (shrI .i64 n8 45)) 255) + (IntKind.wrap .i64 n18))) 255)) w22) (K (.int .i64 (andI .i64 (xorI .i64 (shrI .i64 n6 33) (shrI .i64 n8 45)) 255)) w4.drew.drew)
theorem eq136 (a0 : Option Addr) (w : World) (K : Value → World → Prop) : denFn Try.prog tt Try.f136 an136 [.pointer a0] w K = W136 a0 w K := by kernel_rfl
theorem ok136 : OkFn Try.prog 136 := ⟨Try.f136, Try.func136, by kernel_rfl, by kernel_rfl⟩
theorem go136 {a0 : Option Addr} {w : World} {K : Value → World → Prop} (h : W136 a0 w K) : CallW Try.prog 136 #[.pointer a0] w K :=
  .inl ⟨ok136, denFn_sound tt_ok mix Try.func136 (by kernel_rfl) (eq136 a0 w K ▸ h)⟩

/- loop.example/g00008/spec.l8Num -/
def an137 : Ann := (.seq .leaf (.seq (.seq .leaf (.cond (.seq .leaf .leaf) .leaf)) (.seq .leaf .leaf)))
def W137 (a0 : Bool) (w : World) (K : Value → World → Prop) : Prop :=
  BIf a0 (K (.int .i64 1) w) (K (.int .i64 0) w)
theorem eq137 (a0 : Bool) (w : World) (K : Value → World → Prop) : denFn Try.prog tt Try.f137 an137 [.bool a0] w K = W137 a0 w K := by kernel_rfl
theorem ok137 : OkFn Try.prog 137 := ⟨Try.f137, Try.func137, by kernel_rfl, by kernel_rfl⟩
theorem go137 {a0 : Bool} {w : World} {K : Value → World → Prop} (h : W137 a0 w K) : CallW Try.prog 137 #[.bool a0] w K :=
  .inl ⟨ok137, denFn_sound tt_ok mix Try.func137 (by kernel_rfl) (eq137 a0 w K ▸ h)⟩

/- loop.example/g00008/spec.HeapStat -/
def an138 : Ann := (.seq .leaf (.seq (.seq .leaf (.cond (.seq .leaf .leaf) .leaf)) (.seq .leaf (.seq .leaf (.seq (.seq .leaf (.in_ (.loop 14 [(4, .int .i64), (5, .int .i64)] (.seq (.seq .leaf (.cond .leaf .leaf)) (.seq (.in_ (.seq .leaf (.join 62 [(6, .int .i64)] (.seq .leaf (.cond .leaf .leaf)) (.seq .leaf (.join 126 [] (.seq .leaf (.cond .leaf .leaf)) (.seq .leaf (.cond .leaf .leaf))))))) .leaf))))) (.seq .leaf (.seq .leaf .leaf)))))))
def W138 (a0_0 : Int) (a0_1 : Sl) (w : World) (K : Value → World → Prop) : Prop :=
  LetW (w.alloc (.cells #[.int .i64 a0_0, .slice a0_1.a a0_1.len a0_1.cap] 29)) fun w1 => LetW (w1.alloc (.cells #[.int .i64 0, .int .i64 0, .int .i64 0, .int .i64 0] 39)) fun w2 => ∃ n3 : Int, w2.cell? ⟨w.heap.size, 0, none⟩ = some (.int .i64 n3) ∧ ∃ l4 : Sl, w2.cell? ⟨w.heap.size, 1, none⟩ = some (.slice l4.a l4.len l4.cap) ∧ CallW Try.prog 15 #[.agg #[.int .i64 n3, .slice l4.a l4.len l4.cap]] w2 fun v5 w6 => ∃ b7 : Bool, v5 = .bool b7 ∧ BIf (!b7) (MayN w6 ⟨w1.heap.size, 0, none⟩ 4 ∧ LetW (puts w6 ⟨w1.heap.size, 0, none⟩ 0 [.int .i64 0, .int .i64 0, .int .i64 0, .int .i64 0]) fun w8 => ∃ n9 : Int, w8.cell? ⟨w1.heap.size, 0, none⟩ = some (.int .i64 n9) ∧ ∃ n10 : Int, w8.cell? ⟨w1.heap.size, 1, none⟩ = some (.int .i64 n10) ∧ ∃ n11 : Int, w8.cell? ⟨w1.heap.size, 2, none⟩ = some (.int .i64 n11) ∧ ∃ n12 : Int, w8.cell? ⟨w1.heap.size, 3, none⟩ = some (.int .i64 n12) ∧ K (.agg #[.int .i64 n9, .int .i64 n10, .int .i64 n11, .int .i64 n12]) w8) (∃ l13 : Sl, w6.cell? ⟨w.heap.size, 1, none⟩ = some (.slice l13.a l13.len l13.cap) ∧ LetW (w6.alloc (.cells #[.int .i64 0, .int .i64 0, .int .i64 0, .int .i64 0] 39)) fun w14 => MayN w14 ⟨w6.heap.size, 0, none⟩ 4 ∧ LetW (puts w14 ⟨w6.heap.size, 0, none⟩ 0 [.int .i64 0, .int .i64 0, .int .i64 0, .int .i64 ((l13.len : Nat) : Int)]) fun w15 => LoopW [.int .i64, .int .i64] (fun J18 => fun (n16 : Int) (n17 : Int) w19 => ∃ l20 : Sl, w19.cell? ⟨w.heap.size, 1, none⟩ = some (.slice l20.a l20.len l20.cap) ∧ BIf (decide ((n17 : Int) ≤ ((l20.len : Nat) : Int))) (∃ n21 : Int, w19.cell? ⟨w.heap.size, 0, none⟩ = some (.int .i64 n21) ∧ JoinW [.int .i64] (fun J23 => ∃ l35 : Sl, w19.cell? ⟨w.heap.size, 1, none⟩ = some (.slice l35.a l35.len l35.cap) ∧ BIf (decide ((n17 : Int) < ((l35.len : Nat) : Int))) (∃ l36 : Sl, w19.cell? ⟨w.heap.size, 1, none⟩ = some (.slice l36.a l36.len l36.cap) ∧ 0 ≤ (n17 : Int) ∧ (n17 : Int) < ((l36.len : Nat) : Int) ∧ ∃ q37 : Addr, (l36.a : Option Addr) = some q37 ∧ ∃ n38 : Int, w19.cell? ((q37.add (Int.toNat n17 * 2)).add 0) = some (.int .i64 n38) ∧ J23 n38 w19) (J23 n21 w19)) (fun (n22 : Int) w24 => ∃ n25 : Int, w24.cell? ⟨w6.heap.size, 1, none⟩ = some (.int .i64 n25) ∧ May w24 ⟨w6.heap.size, 1, none⟩ ∧ LetW (w24.setCell ⟨w6.heap.size, 1, none⟩ (.int .i64 (IntKind.wrap .i64 ((IntKind.wrap .i64 (n25 + n22)) - n16)))) fun w26 => JoinW [] (fun J27 => ∃ n33 : Int, w26.cell? ⟨w6.heap.size, 2, none⟩ = some (.int .i64 n33) ∧ BIf (decide ((IntKind.wrap .i64 (n22 - n16) : Int) > n33)) (May w26 ⟨w6.heap.size, 2, none⟩ ∧ LetW (w26.setCell ⟨w6.heap.size, 2, none⟩ (.int .i64 (IntKind.wrap .i64 (n22 - n16)))) fun w34 => J27 w34) (J27 w26)) (fun w28 => ∃ l29 : Sl, w28.cell? ⟨w.heap.size, 1, none⟩ = some (.slice l29.a l29.len l29.cap) ∧ BIf (decide ((n17 : Int) < ((l29.len : Nat) : Int))) (∃ l30 : Sl, w28.cell? ⟨w.heap.size, 1, none⟩ = some (.slice l30.a l30.len l30.cap) ∧ 0 ≤ (n17 : Int) ∧ (n17 : Int) < ((l30.len : Nat) : Int) ∧ ∃ q31 : Addr, (l30.a : Option Addr) = some q31 ∧ ∃ n32 : Int, w28.cell? ((q31.add (Int.toNat n17 * 2)).add 1) = some (.int .i64 n32) ∧ J18 (IntKind.wrap .i64 (n22 + n32)) (IntKind.wrap .i64 (n17 + 1)) w28) (J18 n16 (IntKind.wrap .i64 (n17 + 1)) w28)))) (∃ n39 : Int, w19.cell? ⟨w.heap.size, 0, none⟩ = some (.int .i64 n39) ∧ ∃ n40 : Int, w19.cell? ⟨w6.heap.size, 1, none⟩ = some (.int .i64 n40) ∧ May w19 ⟨w6.heap.size, 0, none⟩ ∧ LetW (w19.setCell ⟨w6.heap.size, 0, none⟩ (.int .i64 (IntKind.wrap .i64 (n39 - n40)))) fun w41 => ∃ n42 : Int, w41.cell? ⟨w6.heap.size, 0, none⟩ = some (.int .i64 n42) ∧ ∃ n43 : Int, w41.cell? ⟨w6.heap.size, 1, none⟩ = some (.int .i64 n43) ∧ ∃ n44 : Int, w41.cell? ⟨w6.heap.size, 2, none⟩ = some (.int .i64 n44) ∧ ∃ n45 : Int, w41.cell? ⟨w6.heap.size, 3, none⟩ = some (.int .i64 n45) ∧ MayN w41 ⟨w1.heap.size, 0, none⟩ 4 ∧ LetW (puts w41 ⟨w1.heap.size, 0, none⟩ 0 [.int .i64 n42, .int .i64 n43, .int .i64 n44, .int .i64 n45]) fun w46 => ∃ n47 : Int, w46.cell? ⟨w1.heap.size, 0, none⟩ = some (.int .i64 n47) ∧ ∃ n48 : Int, w46.cell? ⟨w1.heap.size, 1, none⟩ = some (.int .i64 n48) ∧ ∃ n49 : Int, w46.cell? ⟨w1.heap.size, 2, none⟩ = some (.int .i64 n49) ∧ ∃ n50 : Int, w46.cell? ⟨w1.heap.size, 3, none⟩ = some (.int .i64 n50) ∧ K (.agg #[.int .i64 n47, .int .i64 n48, .int .i64 n49, .int .i64 n50]) w46)) ((0 : Int), ((0 : Int), ())) w15)
theorem eq138 (a0_0 : Int) (a0_1 : Sl) (w : World) (K : Value → World → Prop) : denFn Try.prog tt Try.f138 an138 [.agg #[.int .i64 a0_0, .slice a0_1.a a0_1.len a0_1.cap]] w K = W138 a0_0 a0_1 w K := by kernel_rfl
theorem ok138 : OkFn Try.prog 138 := ⟨Try.f138, Try.func138, by kernel_rfl, by kernel_rfl⟩
theorem go138 {a0_0 : Int} {a0_1 : Sl} {w : World} {K : Value → World → Prop} (h : W138 a0_0 a0_1 w K) : CallW Try.prog 138 #[.agg #[.int .i64 a0_0, .slice a0_1.a a0_1.len a0_1.cap]] w K :=
  .inl ⟨ok138, denFn_sound tt_ok mix Try.func138 (by kernel_rfl) (eq138 a0_0 a0_1 w K ▸ h)⟩

/- slices.IndexFunc[[]loop.example/g00008/impl.Span,loop.example/g00008/impl.Span] -/
def an141 : Ann := (.seq .leaf (.seq (.seq .leaf (.in_ (.loop 131 [(8, .int .i64)] (.seq .leaf (.seq (.cond .leaf .leaf) (.seq (.in_ (.seq .leaf (.seq .leaf (.cond (.seq .leaf .leaf) .leaf)))) .leaf)))))) (.seq .leaf .leaf)))
def W141 (a0 : Sl) (a1 : Nat) (a1x a1c : List Value) (w : World) (K : Value → World → Prop) : Prop :=
  LoopW [.int .i64] (fun J2 => fun (n1 : Int) w3 => BIf (decide ((n1 : Int) < ((a0.len : Nat) : Int))) (0 ≤ (n1 : Int) ∧ (n1 : Int) < ((a0.len : Nat) : Int) ∧ ∃ q4 : Addr, (a0.a : Option Addr) = some q4 ∧ ∃ n5 : Int, w3.cell? ((q4.add (Int.toNat n1 * 2)).add 0) = some (.int .i64 n5) ∧ ∃ n6 : Int, w3.cell? ((q4.add (Int.toNat n1 * 2)).add 1) = some (.int .i64 n6) ∧ CallW Try.prog a1 ⟨a1x ++ ([.agg #[.int .i64 n5, .int .i64 n6]] ++ a1c)⟩ w3 fun v7 w8 => ∃ b9 : Bool, v7 = .bool b9 ∧ BIf b9 (K (.int .i64 n1) w8) (J2 (IntKind.wrap .i64 (n1 + 1)) w8)) (K (.int .i64 (-1)) w3)) ((0 : Int), ()) w
theorem eq141 (a0 : Sl) (a1 : Nat) (a1x a1c : List Value) (w : World) (K : Value → World → Prop) : denFn Try.prog tt Try.f141 an141 [.slice a0.a a0.len a0.cap, .func (.func a1) ⟨a1x⟩ ⟨a1c⟩] w K = W141 a0 a1 a1x a1c w K := by kernel_rfl
theorem ok141 : OkFn Try.prog 141 := ⟨Try.f141, Try.func141, by kernel_rfl, by kernel_rfl⟩
theorem go141 {a0 : Sl} {a1 : Nat} {a1x a1c : List Value} {w : World} {K : Value → World → Prop} (h : W141 a0 a1 a1x a1c w K) : CallW Try.prog 141 #[.slice a0.a a0.len a0.cap, .func (.func a1) ⟨a1x⟩ ⟨a1c⟩] w K :=
  .inl ⟨ok141, denFn_sound tt_ok mix Try.func141 (by kernel_rfl) (eq141 a0 a1 a1x a1c w K ▸ h)⟩

/- (*loop.example/g00008/impl.Heap).span$1 -/
def an142 : Ann := (.seq .leaf (.seq .leaf .leaf))
def W142 (a0_0 : Int) (a0_1 : Int) (c0 : Addr) (w : World) (K : Value → World → Prop) : Prop :=
  LetW (w.alloc (.cells #[.int .i64 a0_0, .int .i64 a0_1] 42)) fun w1 => ∃ n2 : Int, w1.cell? ⟨w.heap.size, 0, none⟩ = some (.int .i64 n2) ∧ ∃ n3 : Int, w1.cell? c0 = some (.int .i64 n3) ∧ K (.bool ((n2 : Int) == n3)) w1
theorem eq142 (a0_0 : Int) (a0_1 : Int) (c0 : Addr) (w : World) (K : Value → World → Prop) : denFn Try.prog tt Try.f142 an142 [.agg #[.int .i64 a0_0, .int .i64 a0_1], .pointer (some c0)] w K = W142 a0_0 a0_1 c0 w K := by kernel_rfl
theorem ok142 : OkFn Try.prog 142 := ⟨Try.f142, Try.func142, by kernel_rfl, by kernel_rfl⟩
theorem go142 {a0_0 : Int} {a0_1 : Int} {c0 : Addr} {w : World} {K : Value → World → Prop} (h : W142 a0_0 a0_1 c0 w K) : CallW Try.prog 142 #[.agg #[.int .i64 a0_0, .int .i64 a0_1], .pointer (some c0)] w K :=
  .inl ⟨ok142, denFn_sound tt_ok mix Try.func142 (by kernel_rfl) (eq142 a0_0 a0_1 c0 w K ▸ h)⟩

end Go.Proofs.Ytkgoanjemhbjgaa

/- FnHeapApart: heaps (plain): a heap that can be, taking, giving back, resizing keep it. Conditions: none. -/
set_option linter.unusedVariables false
set_option linter.unusedSimpArgs false
namespace Go.Den
open Go
structure HSpan where
  At : Int
  Size : Int
def HSpan.cells (x : HSpan) : List Value := [.int .i64 x.At, .int .i64 x.Size]
def SizeH (size : Int) : Prop := 0 ≤ size ∧ size ≤ 65536 ∧ size % 8 = 0
instance (s : Int) : Decidable (SizeH s) := by unfold SizeH; infer_instance
/-- Spans behind one another, from e on, inside of the heap. -/
def ChH (size : Int) : Int → List HSpan → Prop
  | _, [] => True
  | e, s :: r => e ≤ s.At ∧ s.At % 8 = 0 ∧ s.Size % 8 = 0 ∧ 0 < s.Size ∧ s.At + s.Size ≤ size ∧ ChH size (s.At + s.Size) r
structure HInv (size : Int) (l : List HSpan) : Prop where
  sz : SizeH size
  few : l.length ≤ 512
  ch : ChH size 0 l
theorem ChH.low {size : Int} : ∀ {l : List HSpan} {e e' : Int}, ChH size e' l → e ≤ e' → ChH size e l
  | [], _, _, _, _ => trivial
  | s :: r, e, e', h, he => ⟨by have := h.1; omega, h.2⟩
theorem ChH.erase {size : Int} : ∀ {l : List HSpan} {e : Int} (i : Nat), ChH size e l → ChH size e (l.eraseIdx i)
  | [], _, _, _ => by simp [ChH]
  | s :: r, e, 0, h => h.2.2.2.2.2.low (by have h1 := h.1; have h2 := h.2.2.2.1; omega)
  | s :: r, e, i + 1, h => ⟨h.1, h.2.1, h.2.2.1, h.2.2.2.1, h.2.2.2.2.1, ChH.erase i h.2.2.2.2.2⟩
/-- Each span of a chain lies behind its start. -/
theorem ChH.mem {size : Int} : ∀ {l : List HSpan} {e : Int}, ChH size e l → ∀ x, x ∈ l → e ≤ x.At ∧ 0 < x.Size ∧ x.At + x.Size ≤ size
  | [], _, _, x, hx => by cases hx
  | s :: r, e, h, x, hx => by
    rcases List.mem_cons.1 hx with rfl | hx
    · exact ⟨h.1, h.2.2.2.1, h.2.2.2.2.1⟩
    · have := ChH.mem h.2.2.2.2.2 x hx
      have h1 := h.1; have h2 := h.2.2.2.1
      exact ⟨by omega, this.2⟩
/-- Rounded to eights. -/
def rndH (n : Int) : Int := if n = 0 then 8 else (n + 7) / 8 * 8
theorem rndH_ok {n : Int} (h : 0 ≤ n) (h2 : n ≤ 65536) : 0 < rndH n ∧ rndH n % 8 = 0 ∧ n ≤ rndH n ∧ rndH n ≤ 65536 := by
  unfold rndH; split <;> omega
/-- The first place with room: the span ahead of which it is, the address. -/
def roomH (size m : Int) : Int → List HSpan → Nat → Option (Nat × Int)
  | e, [], i => if m ≤ size - e then some (i, e) else none
  | e, s :: r, i => if m ≤ s.At - e then some (i, e) else roomH size m (s.At + s.Size) r (i + 1)
def insH (l : List HSpan) (i : Nat) (x : HSpan) : List HSpan := l.take i ++ x :: l.drop i
theorem insH_len {l : List HSpan} {i : Nat} {x : HSpan} : (insH l i x).length = l.length + 1 := by
  unfold insH; simp; omega
theorem room_ok {size m : Int} (hm : 0 < m) (hm8 : m % 8 = 0) : ∀ {l : List HSpan} {e : Int} {i j : Nat} {a : Int}, ChH size e l → e % 8 = 0 → roomH size m e l i = some (j, a) →
    i ≤ j ∧ j ≤ i + l.length ∧ e ≤ a ∧ a + m ≤ size ∧ ChH size e (insH l (j - i) ⟨a, m⟩) ∧ (∀ x, x ∈ l → x.At ≠ a)
  | [], e, i, j, a, h, he, hr => by
    unfold roomH at hr
    split at hr
    · cases hr
      refine ⟨by omega, by simp, by omega, by omega, ?_, by simp⟩
      rw [Nat.sub_self]
      exact ⟨by show e ≤ e; omega, he, hm8, hm, by show e + m ≤ size; omega, trivial⟩
    · cases hr
  | s :: r, e, i, j, a, h, he, hr => by
    obtain ⟨h1, h2, h3, h4, h5, h6⟩ := h
    unfold roomH at hr
    split at hr
    · rename_i hg
      cases hr
      refine ⟨by omega, by simp, by omega, by omega, ?_, fun x hx => ?_⟩
      · rw [Nat.sub_self]
        exact ⟨by show e ≤ e; omega, he, hm8, hm, by show e + m ≤ size; omega, by show e + m ≤ s.At; omega, h2, h3, h4, h5, h6⟩
      · rcases List.mem_cons.1 hx with rfl | hx
        · omega
        · have := h6.mem x hx; omega
    · obtain ⟨g1, g2, g3, g4, g5, g6⟩ := room_ok hm hm8 h6 (by omega) hr
      refine ⟨by omega, by rw [List.length_cons]; omega, by omega, g4, ?_, fun x hx => ?_⟩
      · rw [show j - i = (j - (i + 1)) + 1 by omega]
        exact ⟨h1, h2, h3, h4, h5, g5⟩
      · rcases List.mem_cons.1 hx with rfl | hx
        · omega
        · exact g6 x hx
def takeH (size : Int) (l : List HSpan) (n : Int) : List HSpan × Int := match roomH size (rndH n) 0 l 0 with
  | none => (l, -1)
  | some (i, a) => if 512 ≤ l.length then (l, -1) else (insH l i ⟨a, rndH n⟩, a)
theorem takeH_ok {size : Int} {l : List HSpan} {n : Int} (h : HInv size l) (h0 : 0 ≤ n) (h1 : n ≤ 65536) :
    HInv size (takeH size l n).1 ∧ (0 ≤ (takeH size l n).2 → (takeH size l n).1.length = l.length + 1 ∧ (takeH size l n).2 + n ≤ size) ∧ -1 ≤ (takeH size l n).2 ∧ (takeH size l n).2 ≤ 65536 := by
  obtain ⟨r1, r2, r3, r4⟩ := rndH_ok h0 h1
  unfold takeH
  rcases hr : roomH size (rndH n) 0 l 0 with _ | ⟨i, a⟩ <;> dsimp only
  · exact ⟨h, fun hc => absurd hc (by show ¬ (0 : Int) ≤ -1; omega), by show (-1 : Int) ≤ -1; omega, by show (-1 : Int) ≤ 65536; omega⟩
  · obtain ⟨g1, g2, g3, g4, g5, g6⟩ := room_ok r1 r2 h.ch (by omega) hr
    have := h.sz.2.1
    split
    · exact ⟨h, fun hc => absurd hc (by show ¬ (0 : Int) ≤ -1; omega), by show (-1 : Int) ≤ -1; omega, by show (-1 : Int) ≤ 65536; omega⟩
    · rename_i hlen
      refine ⟨⟨h.sz, by rw [insH_len]; omega, g5⟩, fun _ => ⟨insH_len, by show a + n ≤ size; omega⟩, by show -1 ≤ a; omega, by show a ≤ 65536; omega⟩
/-- The span at an address. -/
def idxI (a : Int) : List HSpan → Nat → Option Nat
  | [], _ => none
  | s :: r, i => if s.At = a then some i else idxI a r (i + 1)
def idxH (l : List HSpan) (at_ : Int) : Option Nat := idxI at_ l 0
theorem idxI_some {a : Int} : ∀ {l : List HSpan} {i0 i : Nat}, idxI a l i0 = some i → i0 ≤ i ∧ ∃ x, l[i - i0]? = some x ∧ x.At = a
  | [], i0, i, h => by cases h
  | s :: r, i0, i, h => by
    unfold idxI at h
    split at h
    · rename_i hs
      cases h
      exact ⟨Nat.le_refl _, s, by rw [Nat.sub_self]; rfl, hs⟩
    · obtain ⟨h1, x, h2, h3⟩ := idxI_some h
      exact ⟨by omega, x, by rw [show i - i0 = (i - (i0 + 1)) + 1 by omega]; exact h2, h3⟩
theorem idxI_succ {a : Int} : ∀ (l : List HSpan) (i0 : Nat), idxI a l (i0 + 1) = (idxI a l i0).map (· + 1)
  | [], i0 => rfl
  | s :: r, i0 => by
    unfold idxI
    split
    · rfl
    · exact idxI_succ r (i0 + 1)
theorem idxI_none {a : Int} : ∀ {l : List HSpan} {i0 : Nat}, idxI a l i0 = none → ∀ x, x ∈ l → x.At ≠ a
  | [], _, _, x, hx => by cases hx
  | s :: r, i0, h, x, hx => by
    unfold idxI at h
    split at h
    · cases h
    · rename_i hs
      rcases List.mem_cons.1 hx with rfl | hx
      · exact hs
      · exact idxI_none h x hx
theorem idxI_some' {a : Int} : ∀ {l : List HSpan} {i0 i : Nat}, (∀ j x, j < i → l[j]? = some x → x.At ≠ a) → ∀ {x}, l[i]? = some x → x.At = a → idxI a l i0 = some (i0 + i)
  | [], i0, i, h, x, hx, ha => by simp at hx
  | s :: r, i0, 0, h, x, hx, ha => by
    simp only [List.getElem?_cons_zero, Option.some.injEq] at hx
    subst hx
    unfold idxI; rw [if_pos ha]; rfl
  | s :: r, i0, i + 1, h, x, hx, ha => by
    unfold idxI
    rw [if_neg (h 0 s (by omega) rfl), idxI_some' (fun j y hj hy => h (j + 1) y (by omega) hy) hx ha]
    congr 1; omega
theorem idxI_none' {a : Int} : ∀ {l : List HSpan} {i0 : Nat}, (∀ x, x ∈ l → x.At ≠ a) → idxI a l i0 = none
  | [], _, _ => rfl
  | s :: r, i0, h => by
    unfold idxI
    rw [if_neg (h s (by simp))]
    exact idxI_none' (fun x hx => h x (by simp [hx]))
theorem idxH_some {l : List HSpan} {a : Int} {i : Nat} (h : idxH l a = some i) : ∃ x, l[i]? = some x ∧ x.At = a := (idxI_some h).2
theorem idxH_mem {l : List HSpan} {x : HSpan} (hx : x ∈ l) : ∃ i, idxH l x.At = some i := by
  cases h : idxH l x.At with
  | some i => exact ⟨i, rfl⟩
  | none => exact absurd rfl (idxI_none h x hx)
def giveH (l : List HSpan) (at_ : Int) : List HSpan × Bool := match idxH l at_ with
  | none => (l, false)
  | some i => (l.eraseIdx i, true)
theorem giveH_ok {size : Int} {l : List HSpan} {a : Int} (h : HInv size l) : HInv size (giveH l a).1 ∧ ((giveH l a).2 = true → (giveH l a).1.length + 1 = l.length) := by
  unfold giveH
  rcases hi : idxH l a with _ | i <;> dsimp only
  · exact ⟨h, fun hc => nomatch hc⟩
  · obtain ⟨x, hx, _⟩ := idxH_some hi
    have hl := (List.getElem?_eq_some_iff.1 hx).1
    have he : (l.eraseIdx i).length = l.length - 1 := List.length_eraseIdx_of_lt hl
    have := h.few
    exact ⟨⟨h.sz, by rw [he]; omega, h.ch.erase i⟩, fun _ => by rw [he]; omega⟩
/-- Up to where a span may grow. -/
def endH (size : Int) (l : List HSpan) (i : Nat) : Int := match l[i + 1]? with
  | some y => y.At
  | none => size
theorem ChH.grow {size m : Int} (hm : 0 < m) (hm8 : m % 8 = 0) : ∀ {l : List HSpan} {e : Int} {i : Nat} {x : HSpan}, ChH size e l → l[i]? = some x → m ≤ endH size l i - x.At → ChH size e (l.set i ⟨x.At, m⟩)
  | [], e, i, x, h, hx, hg => by simp at hx
  | s :: r, e, 0, x, h, hx, hg => by
    obtain ⟨h1, h2, h3, h4, h5, h6⟩ := h
    simp only [List.getElem?_cons_zero, Option.some.injEq] at hx
    subst hx
    refine ⟨h1, h2, hm8, hm, ?_, ?_⟩
    · show s.At + m ≤ size
      unfold endH at hg
      rcases r with _ | ⟨y, r⟩
      · simp at hg; omega
      · simp at hg
        have := h6.2.2.2.1; have := h6.2.2.2.2.1
        omega
    · show ChH size (s.At + m) r
      unfold endH at hg
      rcases r with _ | ⟨y, r⟩
      · trivial
      · simp at hg
        exact ⟨by omega, h6.2⟩
  | s :: r, e, i + 1, x, h, hx, hg => by
    obtain ⟨h1, h2, h3, h4, h5, h6⟩ := h
    exact ⟨h1, h2, h3, h4, h5, ChH.grow hm hm8 h6 hx (by unfold endH at hg ⊢; simpa using hg)⟩
def moveI (i k : Nat) : Nat := if k ≤ i then i + 1 else i
def resizeH (size : Int) (l : List HSpan) (at_ n : Int) : List HSpan × Int := match idxH l at_ with
  | none => (l, -1)
  | some i => if rndH n ≤ endH size l i - at_ then (l.set i ⟨at_, rndH n⟩, at_)
    else match roomH size (rndH n) 0 l 0 with
      | none => (l, -1)
      | some (k, a) => ((insH l k ⟨a, rndH n⟩).eraseIdx (moveI i k), a)
theorem resizeH_ok {size : Int} {l : List HSpan} {a n : Int} (h : HInv size l) (h0 : 0 ≤ n) (h1 : n ≤ 65536) :
    HInv size (resizeH size l a n).1 ∧ (resizeH size l a n).1.length = l.length := by
  obtain ⟨r1, r2, r3, r4⟩ := rndH_ok h0 h1
  unfold resizeH
  rcases hi : idxH l a with _ | i <;> dsimp only
  · exact ⟨h, rfl⟩
  · obtain ⟨x, hx, hxa⟩ := idxH_some hi
    have hl := (List.getElem?_eq_some_iff.1 hx).1
    split
    · rename_i hg
      refine ⟨⟨h.sz, by rw [List.length_set]; exact h.few, ?_⟩, List.length_set⟩
      rw [← hxa] at hg ⊢
      exact h.ch.grow r1 r2 hx hg
    · rcases hr : roomH size (rndH n) 0 l 0 with _ | ⟨k, b⟩ <;> dsimp only
      · exact ⟨h, rfl⟩
      · obtain ⟨g1, g2, g3, g4, g5, g6⟩ := room_ok r1 r2 h.ch (by omega) hr
        have hlen : ((insH l k ⟨b, rndH n⟩).eraseIdx (moveI i k)).length = l.length := by
          rw [List.length_eraseIdx_of_lt (by rw [insH_len]; unfold moveI; split <;> omega), insH_len]; omega
        exact ⟨⟨h.sz, by rw [hlen]; exact h.few, g5.erase _⟩, hlen⟩
theorem idxI_ins {a : Int} {x : HSpan} (hx : x.At ≠ a) : ∀ {l : List HSpan} {k i0 i : Nat}, idxI a l i0 = some i → k ≤ l.length → idxI a (insH l k x) i0 = some (if i0 + k ≤ i then i + 1 else i)
  | [], k, i0, i, h, hk => by cases h
  | s :: r, 0, i0, i, h, hk => by
    have := (idxI_some h).1
    show idxI a (x :: s :: r) i0 = _
    rw [idxI, if_neg hx, idxI_succ, h, if_pos (by omega)]
    rfl
  | s :: r, k + 1, i0, i, h, hk => by
    show idxI a (s :: insH r k x) i0 = _
    unfold idxI at h ⊢
    split at h
    · cases h
      rename_i hs
      rw [if_pos hs, if_neg (by omega)]
    · rename_i hs
      rw [if_neg hs, idxI_ins hx h (by simpa using hk)]
      congr 1
      split <;> split <;> omega
/-- Where the old span is, behind a new one is put in. -/
theorem idxH_ins {l : List HSpan} {a : Int} {i k : Nat} {x : HSpan} (h : idxH l a = some i) (hk : k ≤ l.length) (hx : x.At ≠ a) : idxH (insH l k x) a = some (moveI i k) := by
  unfold idxH at h ⊢
  rw [idxI_ins hx h hk]
  unfold moveI
  rw [Nat.zero_add]
end Go.Den

/- FnHeapApart: the program's side: HeapOk, copies, eights, room. Conditions: none. -/
set_option linter.unusedVariables false
set_option linter.unusedSimpArgs false
namespace Go.Proofs.Ytkgoanjemhbjgaa
open Go Go.Den
abbrev RH (t : Sl) (l : List HSpan) : Asr := aRow t 2 (recs HSpan.cells l)
abbrev BH (b : Nat) (sz : Int) (t : Sl) : Asr := aB b (([.int .i64 sz, .slice t.a t.len t.cap] : List Value).map Ce.v)
abbrev hV (sz : Int) (t : Sl) : Value := .agg #[.int .i64 sz, .slice t.a t.len t.cap]
structure HAt (w : World) (t : Sl) (l : List HSpan) : Prop where
  tl : t.len = l.length
  tr : RowAt w t.a (t.len * 2) (l.flatMap HSpan.cells)
  cap : t.len ≤ t.cap
theorem HAt.ext {w w' : World} {t : Sl} {l : List HSpan} (h : HAt w t l) (e : Ext w w') : HAt w' t l := ⟨h.tl, e.row h.tr, h.cap⟩
theorem hatOf {w0 w : World} {As : List Asr} (h : SH w0 w As) (i : Nat) {t : Sl} {l : List HSpan} (hi : As[i]? = some (RH t l)) : HAt w t l := ⟨by rw [h.len i hi, recs_len], h.rowR i hi, h.lenCap i hi⟩
theorem HAt.get {w : World} {t : Sl} {l : List HSpan} (h : HAt w t l) {i : Nat} {x : HSpan} (hx : l[i]? = some x) : ∃ p, t.a = some p ∧ ∀ j v, x.cells[j]? = some v → w.cell? ((p.add (i * 2)).add j) = some v :=
  RowAt.elem (f := HSpan.cells) (z := 2) (fun _ => rfl) h.tr hx (by omega)
theorem plain_sp (x : HSpan) : ∀ v, v ∈ x.cells → plainB v = true := fun v hv => by
  simp only [HSpan.cells, List.mem_cons, List.not_mem_nil, or_false] at hv
  rcases hv with rfl | rfl <;> rfl
theorem plain_sps (l : List HSpan) : ∀ v, v ∈ l.flatMap HSpan.cells → plainB v = true := fun v hv => by
  obtain ⟨x, _, hv⟩ := List.mem_flatMap.1 hv
  exact plain_sp x v hv
theorem tm8 {n : Int} (h : 0 ≤ n) : Int.tmod n 8 = n % 8 := Int.tmod_eq_emod_of_nonneg h
theorem chH_drop {size : Int} {l : List HSpan} {k : Nat} {x : HSpan} {e : Int} (hx : l[k]? = some x) (h : ChH size e (l.drop k)) : e ≤ x.At ∧ x.At % 8 = 0 ∧ x.Size % 8 = 0 ∧ 0 < x.Size ∧ x.At + x.Size ≤ size ∧ ChH size (x.At + x.Size) (l.drop (k + 1)) := by
  have hl := (List.getElem?_eq_some_iff.1 hx).1
  have he : l[k] = x := (List.getElem?_eq_some_iff.1 hx).2
  rw [List.drop_eq_getElem_cons hl, he] at h
  exact h
theorem c66 {w : World} {sz : Int} {t : Sl} {l : List HSpan} (hl : HAt w t l) (hc : ChH sz 0 l) (hf : l.length ≤ 512) : CallW Try.prog 66 #[hV sz t] w (fun v w' => v = .bool (decide (SizeH sz)) ∧ Ext w w') := by
  refine go66 ?_
  unfold W66
  have htl := hl.tl
  have h := SH.start w
  refine h.alloc (fun w1 h e1 n1 => ?_)
  refine ⟨_, h.cell 0 rfl rfl, ?_⟩
  refine JoinW.cut1 (fun (b : Bool) w' => b = decide (sz < 0 ∨ 65536 < sz) ∧ w' = w1) (BIf.dec (fun h1 => ⟨(decide_eq_true (.inl h1)).symm, rfl⟩) (fun h1 => ⟨_, h.cell 0 rfl rfl, by rw [Bool.eq_iff_iff]; simp [h1], rfl⟩)) ?_
  rintro (b : Bool) w5 ⟨rfl, rfl⟩
  refine JoinW.cut1 (fun (b : Bool) w' => b = decide (¬ SizeH sz) ∧ w' = w5) (BIf.dec (fun h1 => ⟨(decide_eq_true (by unfold SizeH; omega)).symm, rfl⟩) (fun h1 => ⟨_, h.cell 0 rfl rfl, by decide, by rw [tm8 (by omega), Bool.eq_iff_iff]; simp [SizeH]; omega, rfl⟩)) ?_
  rintro (b : Bool) w8 ⟨rfl, rfl⟩
  refine JoinW.cut1 (fun (b : Bool) w' => b = decide (¬ SizeH sz) ∧ w' = w8) (BIf.dec (fun h1 => ⟨(decide_eq_true h1).symm, rfl⟩) (fun h1 => ⟨t, h.cell 0 rfl rfl, by rw [Bool.eq_iff_iff]; simp [h1]; omega, rfl⟩)) ?_
  rintro (b : Bool) w11 ⟨rfl, rfl⟩
  refine BIf.dec (fun h1 => ⟨by rw [decide_eq_false h1], h.ext⟩) (fun h1 => ?_)
  have hs : SizeH sz := Decidable.not_not.1 h1
  have ht : decide (SizeH sz) = true := decide_eq_true hs
  rw [ht]
  obtain ⟨s0, s1, s2⟩ := hs
  refine ⟨t, h.cell 0 rfl rfl, ?_⟩
  refine LoopW.m2 (fun (e i : Int) w' => ∃ k : Nat, i = k ∧ k ≤ l.length ∧ 0 ≤ e ∧ e ≤ sz ∧ ChH sz e (l.drop k) ∧ SH w w' [BH w.heap.size sz t]) (fun _ (i : Int) _ => (l.length - i).toNat) ⟨0, rfl, by omega, by omega, s0, hc, h⟩ ?_
  clear h
  rintro (e i : Int) w16 ⟨k, rfl, hk, e0, es, hch, h⟩ J hJ
  refine BIf.dec (fun hlt => ?_) (fun _ => ⟨rfl, h.ext⟩)
  have hget : l[k]? = some l[k] := List.getElem?_eq_getElem (by omega)
  generalize l[k] = x at *
  obtain ⟨g1, g2, g3, g4, g5, g6⟩ := chH_drop hget hch
  obtain ⟨q, hq, hcell⟩ := (hl.ext h.ext).get hget
  simp only [Int.toNat_natCast]
  rw [w64 (n := (k : Int) + 1) (by omega) (by omega)]
  refine ⟨by omega, by omega, q, hq, _, hcell 0 _ rfl, _, hcell 1 _ rfl, ?_⟩
  refine h.alloc (fun w20 h e20 n20 => ?_)
  refine h.put 0 rfl rfl rfl (fun w21 h n21 => ?_)
  refine ⟨_, h.cell 0 rfl rfl, ?_⟩
  refine JoinW.cut1 (fun (b : Bool) w' => b = false ∧ w' = w21) (BIf.f (decide_eq_false (by omega)) ⟨_, h.cell 0 rfl rfl, by decide, by rw [tm8 (by omega)]; simp [g2], rfl⟩) ?_
  rintro (b : Bool) w25 ⟨rfl, rfl⟩
  refine JoinW.cut1 (fun (b : Bool) w' => b = false ∧ w' = w25) (BIf.f rfl ⟨_, h.cell 0 rfl rfl, by decide, by rw [tm8 (by omega)]; simp [g3], rfl⟩) ?_
  rintro (b : Bool) w28 ⟨rfl, rfl⟩
  refine JoinW.cut1 (fun (b : Bool) w' => b = false ∧ w' = w28) (BIf.f rfl ⟨_, h.cell 0 rfl rfl, decide_eq_false (by omega), rfl⟩) ?_
  rintro (b : Bool) w31 ⟨rfl, rfl⟩
  refine JoinW.cut1 (fun (b : Bool) w' => b = false ∧ w' = w31) (BIf.f rfl ⟨_, h.cell 0 rfl rfl, _, h.cell 1 rfl rfl, decide_eq_false (by omega), rfl⟩) ?_
  rintro (b : Bool) w34 ⟨rfl, rfl⟩
  refine JoinW.cut1 (fun (b : Bool) w' => b = false ∧ w' = w34) (BIf.f rfl ⟨_, h.cell 0 rfl rfl, _, h.cell 1 rfl rfl, _, h.cell 0 rfl rfl, decide_eq_false (by rw [w64 (by omega) (by omega)]; omega), rfl⟩) ?_
  rintro (b : Bool) w37 ⟨rfl, rfl⟩
  refine BIf.f rfl ⟨_, h.cell 0 rfl rfl, _, h.cell 0 rfl rfl, ?_⟩
  rw [w64 (n := x.At + x.Size) (by omega) (by omega)]
  exact hJ _ _ _ ⟨k + 1, by omega, by omega, by omega, by omega, g6, h.drop⟩ (by omega)
/-- A copy: a row of one's own. -/
theorem c67 {w : World} {sz : Int} {t : Sl} {l : List HSpan} (hl : HAt w t l) (hf : l.length ≤ 1048576) : CallW Try.prog 67 #[hV sz t] w (fun v w' => ∃ t' : Sl, v = hV sz t' ∧ SH w w' [RH t' l]) := by
  refine go67 ?_
  unfold W67
  have htl := hl.tl
  have h := SH.start w
  refine h.alloc (fun w1 h e1 n1 => ?_)
  refine h.alloc (fun w2 h e2 n2 => ?_)
  refine ⟨t, h.cell 1 rfl rfl, ?_⟩
  have h := h.nil none 2
  refine SH.appendR (f := HSpan.cells) (l := []) (us := l) h (hl.ext h.ext).tr htl.symm (fun _ => rfl) rfl rfl (by decide) (by show (_ + _) * 16 ≤ _; simp; omega) plain_sp (fun t1 w5 h ht1 nw5 => ?_)
  have h : SH w w5 [RH t1 l, aB w1.heap.size (([.int .i64 0, .slice none 0 0] : List Value).map Ce.v), BH w.heap.size sz t] := h
  refine h.setV 2 rfl rfl (fun w6 h n6 => ?_)
  refine ⟨_, h.cell 2 rfl rfl, t1, h.cell 2 rfl rfl, ?_⟩
  refine h.put 1 rfl rfl rfl (fun w9 h n9 => ?_)
  exact ⟨_, h.cell 1 rfl rfl, t1, h.cell 1 rfl rfl, t1, rfl, h.one⟩
theorem c68 {n : Int} {w : World} (h0 : 0 ≤ n) (h1 : n ≤ 65536) : CallW Try.prog 68 #[.int .i64 n] w (fun v w' => v = .int .i64 (rndH n) ∧ w' = w) := by
  refine go68 ?_
  unfold W68
  refine ⟨by decide, ?_, rfl⟩
  have e1 : Int.tdiv (n + 7) 8 = (n + 7) / 8 := Int.tdiv_eq_ediv_of_nonneg (by omega)
  rw [w64 (n := n + 7) (by omega) (by omega), e1, w64 (n := (n + 7) / 8) (by omega) (by omega), w64 (n := (n + 7) / 8 * 8) (by omega) (by omega)]
  congr 1
  unfold maxI rndH
  split <;> split <;> omega
/-- The least place with room: -1 and 0, where there is none. -/
def roomV (size m : Int) (l : List HSpan) : Int × Int := match roomH size m 0 l 0 with
  | none => (-1, 0)
  | some (i, a) => (a, i)
theorem c69 {w : World} {b : Nat} {sz m : Int} {t : Sl} {l : List HSpan} (hb0 : w.cell? ((⟨b, 0, none⟩ : Addr).add 0) = some (.int .i64 sz)) (hb1 : w.cell? ((⟨b, 0, none⟩ : Addr).add 1) = some (.slice t.a t.len t.cap)) (hl : HAt w t l) (hi : HInv sz l) : CallW Try.prog 69 #[.pointer (some ⟨b, 0, none⟩), .int .i64 m] w
    (fun v w' => v = .tuple #[.int .i64 (roomV sz m l).1, .int .i64 (roomV sz m l).2] ∧ Ext w w') := by
  refine go69 ?_
  unfold W69
  have htl := hl.tl
  have hf := hi.few
  obtain ⟨s0, s1, s2⟩ := hi.sz
  refine ⟨_, rfl, t, hb1, ?_⟩
  refine LoopW.m2 (fun (e i : Int) w' => ∃ k : Nat, i = k ∧ k ≤ l.length ∧ 0 ≤ e ∧ e ≤ sz ∧ ChH sz e (l.drop k) ∧ roomH sz m 0 l 0 = roomH sz m e (l.drop k) k ∧ SH w w' []) (fun _ (i : Int) _ => (l.length - i).toNat) ⟨0, rfl, by omega, by omega, s0, hi.ch, rfl, SH.start w⟩ ?_
  rintro (e i : Int) w6 ⟨k, rfl, hk, e0, es, hch, hr, h⟩ J hJ
  refine BIf.dec (fun hlt => ?_) (fun hge => ?_)
  · have hget : l[k]? = some l[k] := List.getElem?_eq_getElem (by omega)
    have hd : l.drop k = l[k] :: l.drop (k + 1) := List.drop_eq_getElem_cons (by omega)
    generalize l[k] = x at *
    obtain ⟨g1, g2, g3, g4, g5, g6⟩ := chH_drop hget hch
    obtain ⟨q, hq, hcell⟩ := (hl.ext h.ext).get hget
    rw [hd] at hr
    simp only [Int.toNat_natCast]
    rw [w64 (n := (k : Int) + 1) (by omega) (by omega)]
    refine ⟨by omega, by omega, q, hq, _, hcell 0 _ rfl, _, hcell 1 _ rfl, ?_⟩
    refine h.alloc (fun w10 h e10 n10 => ?_)
    refine h.put 0 rfl rfl rfl (fun w11 h n11 => ?_)
    refine ⟨_, h.cell 0 rfl rfl, ?_⟩
    rw [w64 (n := x.At - e) (by omega) (by omega)]
    refine BIf.dec (fun hc => ?_) (fun hc => ?_)
    · rw [roomH, if_pos (by omega)] at hr
      refine ⟨?_, h.ext⟩
      unfold roomV
      rw [hr]
    · rw [roomH, if_neg (by omega)] at hr
      refine ⟨_, h.cell 0 rfl rfl, _, h.cell 0 rfl rfl, ?_⟩
      rw [w64 (n := x.At + x.Size) (by omega) (by omega)]
      exact hJ _ _ _ ⟨k + 1, by omega, by omega, by omega, by omega, g6, hr, h.drop⟩ (by omega)
  · have hkl : k = l.length := by omega
    subst hkl
    rw [List.drop_length] at hr
    refine ⟨_, rfl, _, h.ext.cell hb0, ?_⟩
    rw [w64 (n := sz - e) (by omega) (by omega)]
    refine BIf.dec (fun hc => ?_) (fun hc => ?_)
    · rw [roomH, if_pos (by omega)] at hr
      refine ⟨_, rfl, t, h.drew.ext.cell hb1, ?_, h.drew.ext⟩
      unfold roomV
      rw [hr, htl]
    · rw [roomH, if_neg (by omega)] at hr
      refine ⟨?_, h.ext⟩
      unfold roomV
      rw [hr]
end Go.Proofs.Ytkgoanjemhbjgaa

/- FnHeapApart: slices.Insert, slices.Delete, the search for a span. Conditions: none. -/
set_option linter.unusedVariables false
set_option linter.unusedSimpArgs false
namespace Go.Proofs.Ytkgoanjemhbjgaa
open Go Go.Den
theorem two_blocks {w0 w : World} {F : List Asr} {vb z : Nat} {vs : List Value} {t : Sl} {l : List HSpan} (h : SH w0 w (aB vb (vs.map Ce.v) :: aRow t z (recs HSpan.cells l) :: F)) (hc : 0 < t.cap) : ∃ b cs, t.a = some ⟨b, 0, none⟩ ∧ Blk w vb vs ∧ Blk w b cs ∧ cs.length = t.cap * z ∧ b ≠ vb := by
  obtain ⟨H1, H2, h1, ⟨H3, H4, rfl, ⟨hl, hle, h3⟩, h4⟩, hs⟩ := h.cut
  obtain rfl := aB_raw.1 h1
  rcases h3 with ⟨h0, _⟩ | ⟨b, cs, H', ha, rfl, hcl, ht⟩
  · omega
  · refine ⟨b, cs, ha, hs.blk (vb, .c vs) (by simp), hs.blk (b, .c cs) (by simp), hcl, fun e => ?_⟩
    have := hs.nd
    simp only [List.cons_append, List.nil_append, List.map_cons, List.nodup_cons, List.mem_cons, not_or] at this
    exact this.1.1 e.symm
theorem c139 {w : World} {b vb i n c : Nat} {vs cs : List Value} (hv : Blk w vb vs) (hb : Blk w b cs) (hne : b ≠ vb) (hcs : cs ≠ []) : CallW Try.prog 139 #[.slice (some ⟨vb, 0, none⟩) 1 1, .slice (some ⟨b, i, none⟩) n c] w (fun v w' => v = .bool false ∧ w' = w) := by
  obtain ⟨ev, hv⟩ := hv
  obtain ⟨eb, hb⟩ := hb
  refine CallW.row Try.func139 (by kernel_rfl) (by kernel_rfl) (by kernel_rfl) (e := Extern.SlicesOverlaps.overlaps #[27, 27] #[4]) (by kernel_rfl) ?_ ⟨rfl, rfl⟩
  refine Go.Lib.run_overlaps_apart w 27 4 42 Try.underlying27 2 (fun w => run_sizeOf' (tt_ok.find (by kernel_rfl : tt.find 42 = some ti42)) w) ⟨vb, 0, none⟩ ⟨b, i, none⟩ 1 1 n c (fun e => hne e.symm) ev eb vs.length cs.length ?_ ?_ ?_ ?_ ?_
  · simp [World.shape?, hv]
  · simp [World.shape?, hb]
  · intro h0; exact hcs (List.eq_nil_of_length_eq_zero h0)
  · simp [World.frozen?, hv]
  · simp [World.frozen?, hv]
theorem cut_some {s : Sl} {q : Addr} {i z : Nat} (hq : s.a = some q) (hi : i < s.cap) : cutA s.a s.cap i z = some (q.add (i * z)) := by
  unfold cutA; rw [if_neg (by omega), hq]; rfl
theorem ins_one {l : List HSpan} {i : Nat} {x : HSpan} (hi : i < l.length) : ((l.take (i + 1) ++ (l.drop i ++ l.drop (i + 1 + (l.drop i).length))).take i) ++ ([x] ++ (l.take (i + 1) ++ (l.drop i ++ l.drop (i + 1 + (l.drop i).length))).drop (i + [x].length)) = insH l i x := by
  have e1 : l.drop (i + 1 + (l.drop i).length) = [] := List.drop_eq_nil_of_le (by simp; omega)
  rw [e1, List.append_nil]
  unfold insH
  have e2 : (l.take (i + 1)).length = i + 1 := by simp; omega
  rw [List.take_append_of_le_length (by omega), List.take_take, Nat.min_eq_left (by omega)]
  congr 1
  show x :: (l.take (i + 1) ++ l.drop i).drop (i + 1) = x :: l.drop i
  rw [List.drop_append, e2, Nat.sub_self, List.drop_zero, List.drop_eq_nil_of_le (by omega), List.nil_append]
theorem ins_two {l : List HSpan} {i m : Nat} {x z : HSpan} (hi : i ≤ l.length) (hm : m = l.length + 1 - i) : (((l.take i ++ List.replicate m z).take i ++ ([x] ++ (l.take i ++ List.replicate m z).drop (i + [x].length))).take (i + 1)) ++ (l.drop i ++ ((l.take i ++ List.replicate m z).take i ++ ([x] ++ (l.take i ++ List.replicate m z).drop (i + [x].length))).drop (i + 1 + (l.drop i).length)) = insH l i x := by
  have e0 : (l.take i).length = i := by simp; omega
  have e1 : (l.take i ++ List.replicate m z).take i = l.take i := by rw [List.take_append_of_le_length (by omega), List.take_take, Nat.min_self]
  rw [e1]
  have e2 : (l.take i ++ ([x] ++ (l.take i ++ List.replicate m z).drop (i + [x].length))).take (i + 1) = l.take i ++ [x] := by
    rw [← List.append_assoc, List.take_append_of_le_length (by simp; omega), List.take_of_length_le (by simp; omega)]
  rw [e2]
  have e3 : (l.take i ++ ([x] ++ (l.take i ++ List.replicate m z).drop (i + [x].length))).drop (i + 1 + (l.drop i).length) = [] := List.drop_eq_nil_of_le (by simp; omega)
  rw [e3, List.append_nil, List.append_assoc]
  rfl
theorem spz : ∀ x : HSpan, (HSpan.cells x).length = 2 := fun _ => rfl
theorem plain_z : ∀ v, v ∈ ti42.zero → plainB v = true := by decide
set_option maxRecDepth 4000 in
set_option maxHeartbeats 1000000 in
/-- slices.Insert of one span. -/
theorem c70 {w0 w : World} {F : List Asr} {t : Sl} {l : List HSpan} {vb i : Nat} {x : HSpan} (h : SH w0 w (aB vb (x.cells.map Ce.v) :: RH t l :: F)) (hi : i ≤ l.length) (hf : l.length ≤ 1048576) :
    CallW Try.prog 70 #[.slice t.a t.len t.cap, .int .i64 (i : Int), .slice (some ⟨vb, 0, none⟩) 1 1] w (fun v w' => ∃ t' : Sl, v = .slice t'.a t'.len t'.cap ∧ SH w0 w' (RH t' (insH l i x) :: F)) := by
  refine go70 (a0 := t) (a1 := (i : Int)) (a2 := ⟨some ⟨vb, 0, none⟩, 1, 1⟩) ?_
  unfold W70
  dsimp only
  have htl := h.len 1 rfl
  have htc := h.lenCap 1 rfl
  rw [recs_len] at htl
  have hvr : RowAt w (some ⟨vb, 0, none⟩) (1 * 2) x.cells := row_one (h.blkAt 0 rfl) rfl
  refine ⟨by omega, by omega, ?_⟩
  refine BIf.f (by rfl) ?_
  refine BIf.eq (fun he => ?_) (fun he => ?_)
  · -- at the end
    refine SH.appendR (f := HSpan.cells) (us := [x]) h.p1 (by simpa using hvr) rfl (fun _ => rfl) rfl rfl (by decide) (by show (_ + _) * 16 ≤ _; simp; omega) plain_sp (fun t1 w2 h ht1 _ => ⟨t1, rfl, ?_⟩)
    have : insH l i x = l ++ [x] := by
      unfold insH
      rw [show i = l.length by omega, List.take_length, List.drop_length]
    rw [this]
    exact h.dropAt 1
  have hil : i < l.length := by omega
  rw [w64 (n := (t.len : Int) + ((1 : Nat) : Int)) (by omega) (by omega), w64 (n := (i : Int) + ((1 : Nat) : Int)) (by omega) (by omega)]
  rw [w64 (n := (t.len : Int) + ((1 : Nat) : Int) - (i : Int)) (by omega) (by omega)]
  have hrow := h.rowR 1 rfl
  refine BIf.dec (fun hfull => ?_) (fun hroom => ?_)
  · -- a new row
    refine ⟨by omega, by omega, ?_⟩
    have hm : ((t.len : Int) + ((1 : Nat) : Int) - (i : Int)).toNat = l.length + 1 - i := by omega
    refine SH.appendZG (xs := (l.take i).map HSpan.cells) h (by rw [← List.flatMap_def]; exact hrow.pre spz hi) (by simp; omega) (fun u hu => by obtain ⟨y, _, rfl⟩ := List.mem_map.1 hu; rfl) (by omega) (by show t.cap - Int.toNat 0 < _; rw [hm]; simp; omega) rfl rfl (by decide) (by show (_ + _) * 16 ≤ _; simp; omega) plain_z (fun t3 w4 h ht3 => ?_)
    have h : SH w0 w4 (RH t3 (l.take i ++ List.replicate (l.length + 1 - i) ⟨0, 0⟩) :: aB vb (x.cells.map Ce.v) :: RH t l :: F) := by
      have e : List.map (fun y => y.map Ce.v) ((l.take i).map HSpan.cells) ++ List.replicate ((t.len : Int) + ((1 : Nat) : Int) - (i : Int)).toNat (ti42.zero.map Ce.v) = recs HSpan.cells (l.take i ++ List.replicate (l.length + 1 - i) ⟨0, 0⟩) := by
        rw [recs_app, recs_raw, hm]
        congr 1
        unfold recs
        rw [List.map_replicate]
        rfl
      rw [e] at h; exact h
    have hl3 := h.len 0 rfl
    have hc3 := h.lenCap 0 rfl
    rw [recs_len] at hl3
    have hl3' : t3.len = l.length + 1 := by rw [hl3]; simp; omega
    obtain ⟨q3, hq3, _, _⟩ := h.addr 0 rfl (by omega)
    refine ⟨by omega, by omega, x.cells, ?_, plain_sp x, ?_⟩
    · have hv := row_one (h.blkAt 1 rfl) (n := 2) rfl
      rw [show min 1 (Int.toNat (t3.len : Int) - Int.toNat (i : Int)) * 2 = 2 by omega]
      exact hv
    obtain ⟨hm1, h⟩ := h.overR spz [x] i hq3 (by simp; omega) (by simp; omega)
    simp only [List.flatMap_cons, List.flatMap_nil, List.append_nil] at hm1 h
    refine .inr ⟨_, cut_some hq3 (by omega), hm1, ?_⟩
    simp only [Int.toNat_natCast] at *
    refine ⟨by omega, by omega, by omega, by omega, (l.drop i).flatMap HSpan.cells, ?_, plain_sps _, ?_⟩
    · have hr := (h.drew.rowR 2 rfl).suf (i := i) spz htl htc (by omega)
      rw [show min (t.len - i) (t3.len - ((i : Int) + ((1 : Nat) : Int)).toNat) = t.len - i by omega]
      exact hr
    have h := h.drew
    obtain ⟨hm2, h⟩ := h.overR spz (l.drop i) (i + 1) hq3 (by simp; omega) (by simp; omega)
    refine .inr ⟨_, ?_, hm2, ?_⟩
    · rw [show ((i : Int) + ((1 : Nat) : Int)).toNat = i + 1 by omega]
      exact cut_some hq3 (by omega)
    rw [ins_two (z := ⟨0, 0⟩) hi rfl] at h
    exact ⟨_, by rw [insH_len, hl3'], (h.dropAt 2).dropAt 1⟩
  · -- in its place
    obtain ⟨b, cs, ha, hbv, hbb, hcl, hne⟩ := two_blocks h (by omega)
    rw [show Int.toNat 0 = 0 from rfl, cutA_z]
    simp only [Nat.sub_zero]
    rw [show ((t.len : Int) + ((1 : Nat) : Int)).toNat = t.len + 1 by omega, show ((i : Int) + ((1 : Nat) : Int)).toNat = i + 1 by omega]
    refine ⟨by omega, by omega, by omega, by omega, ?_⟩
    have hqs : t.a = some (⟨b, 0, none⟩ : Addr) := ha
    have hc1 : cutA t.a t.cap (i + 1) 2 = some (⟨b, (i + 1) * 2, none⟩ : Addr) := by
      rw [cut_some hqs (by omega), add_mk, Nat.zero_add]
    have hc0 : cutA t.a t.cap i 2 = some (⟨b, i * 2, none⟩ : Addr) := by
      rw [cut_some hqs (by omega), add_mk, Nat.zero_add]
    simp only [Int.toNat_natCast]
    rw [hc1]
    refine (c139 hbv hbb hne (fun h0 => by rw [h0] at hcl; simp at hcl; omega)).mono ?_
    rintro _ w10 ⟨rfl, rfl⟩
    refine ⟨false, rfl, BIf.t rfl ?_⟩
    have h := h.drew
    refine ⟨by omega, by omega, by omega, by omega, (l.drop i).flatMap HSpan.cells, ?_, plain_sps _, ?_⟩
    · have hr := (h.rowR 1 rfl).suf (i := i) spz htl htc (by omega)
      rw [show min (t.len + 1 - i) (t.len + 1 - (i + 1)) = t.len - i by omega]
      exact hr
    have h := h.p1
    obtain ⟨hm1, h⟩ := h.overR spz (l.drop i) (i + 1) hqs (by omega) (by simp; omega)
    rw [add_mk, Nat.zero_add] at hm1 h
    refine .inr ⟨_, rfl, hm1, ?_⟩
    refine ⟨by omega, by omega, x.cells, ?_, plain_sp x, ?_⟩
    · have hv := row_one (h.blkAt 1 rfl) (n := 2) rfl
      rw [show min 1 (t.len + 1 - i) * 2 = 2 by omega]
      exact hv
    obtain ⟨hm2, h⟩ := h.overR spz [x] i hqs (by simp; omega) (by simp; omega)
    rw [add_mk, Nat.zero_add] at hm2 h
    simp only [List.flatMap_cons, List.flatMap_nil, List.append_nil] at hm2 h
    refine .inr ⟨_, hc0, hm2, ?_⟩
    rw [ins_one hil] at h
    refine ⟨⟨t.a, t.len + 1, t.cap⟩, rfl, ?_⟩
    rw [insH_len, ← htl] at h
    exact h.dropAt 1
end Go.Proofs.Ytkgoanjemhbjgaa

/- FnHeapApart: the search for a span, slices.Delete, HeapStat. Conditions: none. -/
set_option linter.unusedVariables false
set_option linter.unusedSimpArgs false
namespace Go.Proofs.Ytkgoanjemhbjgaa
open Go Go.Den
/-- The number of a span, -1: none. -/
def idxV (l : List HSpan) (a : Int) : Int := match idxH l a with
  | none => -1
  | some i => i
theorem c142 {x : HSpan} {a : Int} {c : Addr} {w : World} (hc : w.cell? c = some (.int .i64 a)) : CallW Try.prog 142 #[.agg #[.int .i64 x.At, .int .i64 x.Size], .pointer (some c)] w (fun v w' => v = .bool (x.At == a) ∧ Ext w w') := by
  refine go142 ?_
  unfold W142
  have h := SH.start w
  refine h.alloc (fun w1 h e1 n1 => ?_)
  exact ⟨_, h.cell 0 rfl rfl, _, h.ext.cell hc, rfl, h.ext⟩
theorem c141 {t : Sl} {l : List HSpan} {a : Int} {c : Addr} {w : World} (hc : w.cell? c = some (.int .i64 a)) (hl : HAt w t l) (hf : l.length ≤ 1048576) : CallW Try.prog 141 #[.slice t.a t.len t.cap, .func (.func 142) #[] #[.pointer (some c)]] w (fun v w' => v = .int .i64 (idxV l a) ∧ Ext w w') := by
  refine go141 (a1 := 142) (a1x := []) (a1c := [.pointer (some c)]) ?_
  unfold W141
  have htl := hl.tl
  refine LoopW.m1 (fun (i : Int) w' => ∃ k : Nat, i = k ∧ k ≤ l.length ∧ (∀ j x, j < k → l[j]? = some x → x.At ≠ a) ∧ Ext w w') (fun (i : Int) _ => (l.length - i).toNat) ⟨0, rfl, by omega, fun j x hj => absurd hj (by omega), Only.refl _ _⟩ ?_
  rintro (i : Int) w3 ⟨k, rfl, hk, hno, e⟩ J hJ
  refine BIf.dec (fun hlt => ?_) (fun hge => ?_)
  · have hget : l[k]? = some l[k] := List.getElem?_eq_getElem (by omega)
    generalize l[k] = x at *
    obtain ⟨q, hq, hcell⟩ := (hl.ext e).get hget
    simp only [Int.toNat_natCast]
    rw [w64 (n := (k : Int) + 1) (by omega) (by omega)]
    refine ⟨by omega, by omega, q, hq, _, hcell 0 _ rfl, _, hcell 1 _ rfl, (c142 (e.cell hc)).mono ?_⟩
    rintro _ w8 ⟨rfl, e8⟩
    refine ⟨_, rfl, BIf.eq (fun he => ⟨?_, Only.trans e e8⟩) (fun he => hJ _ _ ⟨k + 1, by omega, by omega, fun j y hj hy => ?_, Only.trans e e8⟩ (by omega))⟩
    · unfold idxV idxH
      rw [idxI_some' hno hget he]
      simp
    · by_cases hjk : j = k
      · subst hjk
        rw [hget] at hy; cases hy
        exact he
      · exact hno j y (by omega) hy
  · refine ⟨?_, e⟩
    unfold idxV idxH
    rw [idxI_none' (fun x hx => by
      obtain ⟨j, hj⟩ := List.getElem?_of_mem hx
      have := (List.getElem?_eq_some_iff.1 hj).1
      exact hno j x (by omega) hj)]
theorem c75 {w : World} {b : Nat} {a : Int} {t : Sl} {l : List HSpan} (hb1 : w.cell? ((⟨b, 0, none⟩ : Addr).add 1) = some (.slice t.a t.len t.cap)) (hl : HAt w t l) (hf : l.length ≤ 1048576) : CallW Try.prog 75 #[.pointer (some ⟨b, 0, none⟩), .int .i64 a] w (fun v w' => v = .int .i64 (idxV l a) ∧ Ext w w') := by
  refine go75 ?_
  unfold W75
  have h := SH.start w
  refine h.alloc (fun w1 h e1 n1 => ?_)
  refine ⟨_, rfl, t, h.ext.cell hb1, (c141 (h.cell 0 rfl rfl) (hl.ext h.ext) hf).mono ?_⟩
  rintro _ w5 ⟨rfl, e5⟩
  exact ⟨_, rfl, rfl, Only.trans h.ext e5⟩
set_option maxRecDepth 4000 in
/-- slices.Delete of one span. -/
theorem c76 {w0 w : World} {F : List Asr} {t : Sl} {l : List HSpan} {i : Nat} (h : SH w0 w (RH t l :: F)) (hi : i < l.length) (hf : l.length ≤ 1048576) :
    CallW Try.prog 76 #[.slice t.a t.len t.cap, .int .i64 (i : Int), .int .i64 ((i : Int) + 1)] w (fun v w' => ∃ t' : Sl, v = .slice t'.a t'.len t'.cap ∧ SH w0 w' (RH t' (l.eraseIdx i) :: F)) := by
  refine go76 (a0 := t) (a1 := (i : Int)) (a2 := (i : Int) + 1) ?_
  unfold W76
  have htl := h.len 0 rfl
  have htc := h.lenCap 0 rfl
  rw [recs_len] at htl
  have hdl : (l.drop (i + 1)).length = l.length - (i + 1) := List.length_drop
  refine ⟨by simp, by omega, by omega, by omega, by omega, by omega, by omega, ?_⟩
  refine BIf.f (by simp; omega) ?_
  refine ⟨by omega, by omega, by omega, by omega, ?_⟩
  have h := h.drew
  obtain ⟨b, ha, _, _⟩ := h.addr 0 rfl (by omega)
  have hrow := h.rowR 0 rfl
  rw [show ((i : Int) + 1).toNat = i + 1 by omega]
  simp only [Int.toNat_natCast]
  have hc2 := hrow.suf (i := i + 1) spz htl htc (by omega)
  refine ⟨(l.take i).flatMap HSpan.cells, (l.drop (i + 1)).flatMap HSpan.cells, hrow.pre spz (by omega), hc2, by show _ * 16 ≤ _; simp; omega, by decide, plain_sps _, fun hin => ?_, fun hgrow => ?_⟩
  · refine .inl ⟨_, by show cutA t.a t.cap 0 2 = _; rw [cutA_z, ha], ?_⟩
    obtain ⟨hm, h⟩ := h.overR spz (l.drop (i + 1)) i ha (by omega) (by omega)
    refine ⟨?_, ?_⟩
    · exact hm
    have e1 : l.take i ++ (l.drop (i + 1) ++ l.drop (i + (l.drop (i + 1)).length)) = l.eraseIdx i ++ l.drop (i + (l.drop (i + 1)).length) := by
      rw [List.eraseIdx_eq_take_drop_succ, List.append_assoc]
    rw [e1] at h
    have h := h.shrinkR spz
    have hel : (l.eraseIdx i).length = l.length - 1 := List.length_eraseIdx_of_lt hi
    have e2 : (i - Int.toNat 0) + (t.len - (i + 1)) = l.length - 1 := by simp; omega
    refine ⟨by omega, ?_, by omega, ?_, ?_⟩
    · show (t.len : Int) ≤ ((t.cap - Int.toNat 0 : Nat) : Int); simp; omega
    · show (((i - Int.toNat 0) + (t.len - (i + 1)) : Nat) : Int) ≤ _; omega
    have hz1 : zerosOf ti42.zero (t.len - ((i - Int.toNat 0) + (t.len - (i + 1)))) = ([⟨0, 0⟩] : List HSpan).flatMap HSpan.cells := by
      rw [show t.len - ((i - Int.toNat 0) + (t.len - (i + 1))) = 1 by omega]; rfl
    obtain ⟨hm2, h2⟩ := h.overR spz [⟨0, 0⟩] (l.length - 1) ha (by omega) (by show l.length - 1 + 1 ≤ t.cap; omega)
    refine ⟨?_, ?_, .inr ⟨by show 0 < t.len - ((i - Int.toNat 0) + (t.len - (i + 1))); omega, (⟨b, 0, none⟩ : Addr).add ((l.length - 1) * 2), ?_, ?_, ?_⟩⟩
    · show ∀ v, v ∈ zerosOf ti42.zero (t.len - ((i - Int.toNat 0) + (t.len - (i + 1)))) → _
      rw [hz1]; exact plain_sps _
    · show (zerosOf ti42.zero (t.len - ((i - Int.toNat 0) + (t.len - (i + 1))))).length = _
      rw [hz1]
      show 2 = (t.len - ((i - Int.toNat 0) + (t.len - (i + 1)))) * 2
      omega
    · show cutA (cutA t.a t.cap 0 2) (t.cap - Int.toNat 0) ((i - Int.toNat 0) + (t.len - (i + 1))) 2 = _
      rw [cutA_z, e2]
      exact cut_some ha (by omega)
    · show MayN _ _ ((t.len - ((i - Int.toNat 0) + (t.len - (i + 1)))) * 2)
      rw [show (t.len - ((i - Int.toNat 0) + (t.len - (i + 1)))) * 2 = 2 by omega]
      exact hm2
    · show ∃ t' : Sl, _ ∧ SH w0 (Den.puts _ _ 0 (zerosOf ti42.zero (t.len - ((i - Int.toNat 0) + (t.len - (i + 1)))))) _
      rw [hz1]
      have e3 : (l.eraseIdx i).take (l.length - 1) ++ ([(⟨0, 0⟩ : HSpan)] ++ (l.eraseIdx i).drop (l.length - 1 + [(⟨0, 0⟩ : HSpan)].length)) = l.eraseIdx i ++ [⟨0, 0⟩] := by
        rw [List.take_of_length_le (by omega), List.drop_eq_nil_of_le (by simp; omega), List.append_nil]
      rw [e3] at h2
      have h2 := h2.shrinkR spz
      refine ⟨⟨t.a, (l.eraseIdx i).length, t.cap⟩, ?_, h2⟩
      show Value.slice (cutA t.a t.cap 0 2) ((i - Int.toNat 0) + (t.len - (i + 1))) (t.cap - Int.toNat 0) = _
      rw [cutA_z, e2, hel]
      rfl
  · exfalso
    have : t.cap < (i - Int.toNat 0) + (t.len - (i + 1)) := hgrow
    simp at this
    omega
def StatP (size : Int) (l : List HSpan) (w : World) (v : Value) (w' : World) : Prop := ∃ U L : Int, v = .agg #[.int .i64 U, .int .i64 (size - U), .int .i64 L, .int .i64 (l.length : Int)] ∧ 0 ≤ U ∧ U ≤ size ∧ 0 ≤ L ∧ L ≤ size - U ∧ (l = [] → U = 0 ∧ L = size) ∧ Ext w w'
theorem c22 {w : World} {sz : Int} {t : Sl} {l : List HSpan} (hl : HAt w t l) (hi : HInv sz l) : CallW Try.prog 22 #[hV sz t] w (StatP sz l w) := by
  refine go22 ?_
  unfold W22
  have htl := hl.tl
  have hf := hi.few
  have hs := hi.sz
  have h := SH.start w
  refine h.alloc (fun w1 h e1 n1 => ?_)
  refine h.alloc (fun w2 h e2 n2 => ?_)
  refine ⟨_, h.cell 1 rfl rfl, t, h.cell 1 rfl rfl, (c66 (hl.ext h.ext) hi.ch hf).mono ?_⟩
  rintro _ w6 ⟨rfl, e6⟩
  have h := h.to e6
  refine ⟨_, rfl, BIf.f (by rw [decide_eq_true hs]; rfl) ?_⟩
  obtain ⟨s0, s1, s2⟩ := hs
  refine ⟨t, h.cell 1 rfl rfl, ?_⟩
  refine h.alloc (fun w14 h e14 n14 => ?_)
  refine h.put 0 rfl rfl rfl (fun w15 h n15 => ?_)
  refine ⟨t, h.cell 2 rfl rfl, ?_⟩
  refine LoopW.m2 (fun (e i : Int) w' => ∃ (k : Nat) (U L : Int), i = k ∧ k ≤ l.length ∧ 0 ≤ e ∧ e ≤ sz ∧ ChH sz e (l.drop k) ∧ 0 ≤ U ∧ U ≤ e ∧ 0 ≤ L ∧ L ≤ e - U ∧ (k = 0 → U = 0 ∧ L = 0 ∧ e = 0) ∧ SH w w' [aB w6.heap.size (([.int .i64 U, .int .i64 0, .int .i64 L, .int .i64 (l.length : Int)] : List Value).map Ce.v), aB w1.heap.size (([.int .i64 0, .int .i64 0, .int .i64 0, .int .i64 0] : List Value).map Ce.v), BH w.heap.size sz t]) (fun _ (i : Int) _ => (l.length - i).toNat) ⟨0, 0, 0, rfl, by omega, by omega, s0, hi.ch, by omega, by omega, by omega, by omega, fun _ => ⟨rfl, rfl, rfl⟩, by rw [← htl]; exact h⟩ ?_
  clear h
  rintro (e i : Int) w20 ⟨k, U, L, rfl, hk, e0, es, hch, u0, u1, l0, l1, hz, h⟩ J hJ
  refine BIf.dec (fun hlt => ?_) (fun hge => ?_)
  · have hget : l[k]? = some l[k] := List.getElem?_eq_getElem (by omega)
    generalize l[k] = x at *
    obtain ⟨g1, g2, g3, g4, g5, g6⟩ := chH_drop hget hch
    obtain ⟨q, hq, hcell⟩ := (hl.ext h.ext).get hget
    simp only [Int.toNat_natCast]
    rw [w64 (n := (k : Int) + 1) (by omega) (by omega)]
    refine ⟨by omega, by omega, q, hq, _, hcell 0 _ rfl, _, hcell 1 _ rfl, ?_⟩
    refine h.alloc (fun w24 h e24 n24 => ?_)
    refine h.put 0 rfl rfl rfl (fun w25 h n25 => ?_)
    refine ⟨_, h.cell 1 rfl rfl, _, h.cell 0 rfl rfl, ?_⟩
    rw [w64 (n := U + x.Size) (by omega) (by omega)]
    refine h.setV 1 rfl rfl (fun w28 h n28 => ?_)
    refine ⟨_, h.cell 1 rfl rfl, _, h.cell 0 rfl rfl, ?_⟩
    rw [w64 (n := x.At - e) (by omega) (by omega)]
    refine h.setV 1 rfl rfl (fun w31 h n31 => ?_)
    refine ⟨_, h.cell 0 rfl rfl, _, h.cell 0 rfl rfl, ?_⟩
    rw [w64 (n := x.At + x.Size) (by omega) (by omega)]
    have hmx : 0 ≤ maxI L (x.At - e) ∧ maxI L (x.At - e) ≤ (x.At + x.Size) - (U + x.Size) := by unfold maxI; split <;> omega
    exact hJ _ _ _ ⟨k + 1, U + x.Size, maxI L (x.At - e), by omega, by omega, by omega, by omega, g6, by omega, by omega, hmx.1, hmx.2, fun h0 => by omega, h.drop⟩ (by omega)
  · refine ⟨_, h.cell 0 rfl rfl, _, h.cell 2 rfl rfl, ?_⟩
    rw [w64 (n := sz - e) (by omega) (by omega)]
    have hmx : 0 ≤ maxI L (sz - e) ∧ maxI L (sz - e) ≤ sz - U ∧ (L = 0 → e = 0 → maxI L (sz - e) = sz) := by unfold maxI; split <;> omega
    refine h.setV 0 rfl rfl (fun w36 h n36 => ?_)
    refine ⟨_, h.cell 2 rfl rfl, _, h.cell 0 rfl rfl, ?_⟩
    rw [w64 (n := sz - U) (by omega) (by omega)]
    refine h.setV 0 rfl rfl (fun w39 h n39 => ?_)
    refine ⟨_, h.cell 0 rfl rfl, _, h.cell 0 rfl rfl, _, h.cell 0 rfl rfl, _, h.cell 0 rfl rfl, ?_⟩
    refine h.put 1 rfl rfl rfl (fun w44 h n44 => ?_)
    refine ⟨_, h.cell 1 rfl rfl, _, h.cell 1 rfl rfl, _, h.cell 1 rfl rfl, _, h.cell 1 rfl rfl, U, maxI L (sz - e), rfl, u0, by omega, hmx.1, hmx.2.1, fun hnil => ?_, h.ext⟩
    have hk0 : k = 0 := by rw [hnil] at hk; simpa using hk
    obtain ⟨z1, z2, z3⟩ := hz hk0
    exact ⟨z1, hmx.2.2 z2 z3⟩
end Go.Proofs.Ytkgoanjemhbjgaa

/- FnHeapApart: the reference's side, parts. Conditions: none. -/
set_option linter.unusedVariables false
set_option linter.unusedSimpArgs false
namespace Go.Proofs.Ytkgoanjemhbjgaa
open Go Go.Den
theorem c15 {w : World} {sz : Int} {t : Sl} {l : List HSpan} (hl : HAt w t l) (hc : ChH sz 0 l) (hf : l.length ≤ 512) : CallW Try.prog 15 #[hV sz t] w (fun v w' => v = .bool (decide (SizeH sz)) ∧ Ext w w') := by
  refine go15 ?_
  unfold W15
  have htl := hl.tl
  have h := SH.start w
  refine h.alloc (fun w1 h e1 n1 => ?_)
  refine ⟨_, h.cell 0 rfl rfl, ?_⟩
  refine JoinW.cut1 (fun (b : Bool) w' => b = decide (sz < 0 ∨ 65536 < sz) ∧ w' = w1) (BIf.dec (fun h1 => ⟨(decide_eq_true (.inl h1)).symm, rfl⟩) (fun h1 => ⟨_, h.cell 0 rfl rfl, by rw [Bool.eq_iff_iff]; simp [h1], rfl⟩)) ?_
  rintro (b : Bool) w5 ⟨rfl, rfl⟩
  refine JoinW.cut1 (fun (b : Bool) w' => b = decide (¬ SizeH sz) ∧ w' = w5) (BIf.dec (fun h1 => ⟨(decide_eq_true (by unfold SizeH; omega)).symm, rfl⟩) (fun h1 => ⟨_, h.cell 0 rfl rfl, by decide, by rw [tm8 (by omega), Bool.eq_iff_iff]; simp [SizeH]; omega, rfl⟩)) ?_
  rintro (b : Bool) w8 ⟨rfl, rfl⟩
  refine JoinW.cut1 (fun (b : Bool) w' => b = decide (¬ SizeH sz) ∧ w' = w8) (BIf.dec (fun h1 => ⟨(decide_eq_true h1).symm, rfl⟩) (fun h1 => ⟨t, h.cell 0 rfl rfl, by rw [Bool.eq_iff_iff]; simp [h1]; omega, rfl⟩)) ?_
  rintro (b : Bool) w11 ⟨rfl, rfl⟩
  refine BIf.dec (fun h1 => ⟨by rw [decide_eq_false h1], h.ext⟩) (fun h1 => ?_)
  have hs : SizeH sz := Decidable.not_not.1 h1
  have ht : decide (SizeH sz) = true := decide_eq_true hs
  rw [ht]
  obtain ⟨s0, s1, s2⟩ := hs
  refine LoopW.m2 (fun (e i : Int) w' => ∃ k : Nat, i = k ∧ k ≤ l.length ∧ 0 ≤ e ∧ e ≤ sz ∧ ChH sz e (l.drop k) ∧ SH w w' [BH w.heap.size sz t]) (fun _ (i : Int) _ => (l.length - i).toNat) ⟨0, rfl, by omega, by omega, s0, hc, h⟩ ?_
  clear h
  rintro (e i : Int) w15 ⟨k, rfl, hk, e0, es, hch, h⟩ J hJ
  refine ⟨t, h.cell 0 rfl rfl, BIf.dec (fun hlt => ?_) (fun _ => ⟨rfl, h.ext⟩)⟩
  have hget : l[k]? = some l[k] := List.getElem?_eq_getElem (by omega)
  generalize l[k] = x at *
  obtain ⟨g1, g2, g3, g4, g5, g6⟩ := chH_drop hget hch
  obtain ⟨q, hq, hcell⟩ := (hl.ext h.ext).get hget
  simp only [Int.toNat_natCast]
  rw [w64 (n := (k : Int) + 1) (by omega) (by omega)]
  refine ⟨t, h.cell 0 rfl rfl, by omega, by omega, q, hq, _, hcell 0 _ rfl, _, hcell 1 _ rfl, ?_⟩
  refine h.alloc (fun w21 h e21 n21 => ?_)
  refine h.put 0 rfl rfl rfl (fun w22 h n22 => ?_)
  refine ⟨_, h.cell 0 rfl rfl, ?_⟩
  refine JoinW.cut1 (fun (b : Bool) w' => b = false ∧ w' = w22) (BIf.f (decide_eq_false (by omega)) ⟨_, h.cell 0 rfl rfl, by decide, by rw [tm8 (by omega)]; simp [g2], rfl⟩) ?_
  rintro (b : Bool) w26 ⟨rfl, rfl⟩
  refine JoinW.cut1 (fun (b : Bool) w' => b = false ∧ w' = w26) (BIf.f rfl ⟨_, h.cell 0 rfl rfl, decide_eq_false (by omega), rfl⟩) ?_
  rintro (b : Bool) w29 ⟨rfl, rfl⟩
  refine JoinW.cut1 (fun (b : Bool) w' => b = false ∧ w' = w29) (BIf.f rfl ⟨_, h.cell 0 rfl rfl, by decide, by rw [tm8 (by omega)]; simp [g3], rfl⟩) ?_
  rintro (b : Bool) w32 ⟨rfl, rfl⟩
  refine JoinW.cut1 (fun (b : Bool) w' => b = false ∧ w' = w32) (BIf.f rfl ⟨_, h.cell 0 rfl rfl, _, h.cell 1 rfl rfl, decide_eq_false (by omega), rfl⟩) ?_
  rintro (b : Bool) w35 ⟨rfl, rfl⟩
  refine JoinW.cut1 (fun (b : Bool) w' => b = false ∧ w' = w35) (BIf.f rfl ⟨_, h.cell 0 rfl rfl, _, h.cell 1 rfl rfl, _, h.cell 0 rfl rfl, decide_eq_false (by rw [w64 (by omega) (by omega)]; omega), rfl⟩) ?_
  rintro (b : Bool) w38 ⟨rfl, rfl⟩
  refine BIf.f rfl ⟨_, h.cell 0 rfl rfl, _, h.cell 0 rfl rfl, ?_⟩
  rw [w64 (n := x.At + x.Size) (by omega) (by omega)]
  exact hJ _ _ _ ⟨k + 1, by omega, by omega, by omega, by omega, g6, h.drop⟩ (by omega)
theorem c72 {n : Int} {w : World} (h0 : 0 ≤ n) (h1 : n ≤ 65536) : CallW Try.prog 72 #[.int .i64 n] w (fun v w' => v = .int .i64 (rndH n) ∧ w' = w) := by
  refine go72 ?_
  unfold W72
  unfold rndH
  refine BIf.eq (fun he => ⟨by rw [if_pos he], rfl⟩) (fun he => ⟨by decide, ?_, rfl⟩)
  have e1 : Int.tdiv (n + 7) 8 = (n + 7) / 8 := Int.tdiv_eq_ediv_of_nonneg (by omega)
  rw [w64 (n := n + 7) (by omega) (by omega), e1, w64 (n := (n + 7) / 8) (by omega) (by omega), w64 (n := (n + 7) / 8 * 8) (by omega) (by omega), if_neg he]
/-- The reference's room: the number first. -/
def roomS (size m : Int) (l : List HSpan) : Int × Int := match roomH size m 0 l 0 with
  | none => (-1, -1)
  | some (i, a) => (i, a)
theorem c71 {w : World} {sz m : Int} {t : Sl} {l : List HSpan} (hl : HAt w t l) (hi : HInv sz l) : CallW Try.prog 71 #[hV sz t, .int .i64 m] w
    (fun v w' => v = .tuple #[.int .i64 (roomS sz m l).1, .int .i64 (roomS sz m l).2] ∧ Ext w w') := by
  refine go71 ?_
  unfold W71
  have htl := hl.tl
  have hf := hi.few
  obtain ⟨s0, s1, s2⟩ := hi.sz
  have h := SH.start w
  refine h.alloc (fun w1 h e1 n1 => ?_)
  refine LoopW.m2 (fun (e i : Int) w' => ∃ k : Nat, i = k ∧ k ≤ l.length ∧ 0 ≤ e ∧ e ≤ sz ∧ ChH sz e (l.drop k) ∧ roomH sz m 0 l 0 = roomH sz m e (l.drop k) k ∧ SH w w' [BH w.heap.size sz t]) (fun _ (i : Int) _ => (l.length - i).toNat) ⟨0, rfl, by omega, by omega, s0, hi.ch, rfl, h⟩ ?_
  clear h
  rintro (e i : Int) w5 ⟨k, rfl, hk, e0, es, hch, hr, h⟩ J hJ
  refine ⟨t, h.cell 0 rfl rfl, BIf.dec (fun hlt => ?_) (fun hge => ?_)⟩
  · have hget : l[k]? = some l[k] := List.getElem?_eq_getElem (by omega)
    have hd : l.drop k = l[k] :: l.drop (k + 1) := List.drop_eq_getElem_cons (by omega)
    generalize l[k] = x at *
    obtain ⟨g1, g2, g3, g4, g5, g6⟩ := chH_drop hget hch
    obtain ⟨q, hq, hcell⟩ := (hl.ext h.ext).get hget
    rw [hd] at hr
    simp only [Int.toNat_natCast]
    rw [w64 (n := (k : Int) + 1) (by omega) (by omega)]
    refine ⟨t, h.cell 0 rfl rfl, by omega, by omega, q, hq, _, hcell 0 _ rfl, ?_⟩
    rw [w64 (n := x.At - e) (by omega) (by omega)]
    refine BIf.dec (fun hc => ?_) (fun hc => ?_)
    · rw [roomH, if_pos (by omega)] at hr
      refine ⟨?_, h.ext⟩
      unfold roomS
      rw [hr]
    · rw [roomH, if_neg (by omega)] at hr
      have h := h.drew
      obtain ⟨q2, hq2, hcell2⟩ := (hl.ext h.ext).get hget
      refine ⟨t, h.cell 0 rfl rfl, by omega, by omega, q2, hq2, _, hcell2 0 _ rfl, t, h.cell 0 rfl rfl, by omega, by omega, q2, hq2, _, hcell2 1 _ rfl, ?_⟩
      rw [w64 (n := x.At + x.Size) (by omega) (by omega)]
      exact hJ _ _ _ ⟨k + 1, by omega, by omega, by omega, by omega, g6, hr, h⟩ (by omega)
  · have hkl : k = l.length := by omega
    subst hkl
    rw [List.drop_length] at hr
    refine ⟨_, h.cell 0 rfl rfl, ?_⟩
    rw [w64 (n := sz - e) (by omega) (by omega)]
    refine BIf.dec (fun hc => ?_) (fun hc => ?_)
    · rw [roomH, if_pos (by omega)] at hr
      refine ⟨t, h.cell 0 rfl rfl, ?_, h.ext⟩
      unfold roomS
      rw [hr, htl]
    · rw [roomH, if_neg (by omega)] at hr
      refine ⟨?_, h.ext⟩
      unfold roomS
      rw [hr]
theorem c77 {w : World} {sz a : Int} {t : Sl} {l : List HSpan} (hl : HAt w t l) (hf : l.length ≤ 1048576) : CallW Try.prog 77 #[hV sz t, .int .i64 a] w (fun v w' => v = .int .i64 (idxV l a) ∧ Ext w w') := by
  refine go77 ?_
  unfold W77
  have htl := hl.tl
  have h := SH.start w
  refine h.alloc (fun w1 h e1 n1 => ?_)
  refine LoopW.m1 (fun (i : Int) w' => ∃ k : Nat, i = k ∧ k ≤ l.length ∧ (∀ j x, j < k → l[j]? = some x → x.At ≠ a) ∧ SH w w' [BH w.heap.size sz t]) (fun (i : Int) _ => (l.length - i).toNat) ⟨0, rfl, by omega, fun j x hj => absurd hj (by omega), h⟩ ?_
  clear h
  rintro (i : Int) w3 ⟨k, rfl, hk, hno, h⟩ J hJ
  refine ⟨t, h.cell 0 rfl rfl, BIf.dec (fun hlt => ?_) (fun hge => ?_)⟩
  · have hget : l[k]? = some l[k] := List.getElem?_eq_getElem (by omega)
    generalize l[k] = x at *
    obtain ⟨q, hq, hcell⟩ := (hl.ext h.ext).get hget
    simp only [Int.toNat_natCast]
    rw [w64 (n := (k : Int) + 1) (by omega) (by omega)]
    refine ⟨t, h.cell 0 rfl rfl, by omega, by omega, q, hq, _, hcell 0 _ rfl, BIf.eq (fun he => ⟨?_, h.ext⟩) (fun he => hJ _ _ ⟨k + 1, by omega, by omega, fun j y hj hy => ?_, h⟩ (by omega))⟩
    · unfold idxV idxH
      rw [idxI_some' hno hget he]
      simp
    · by_cases hjk : j = k
      · subst hjk
        rw [hget] at hy; cases hy
        exact he
      · exact hno j y (by omega) hy
  · refine ⟨?_, h.ext⟩
    unfold idxV idxH
    rw [idxI_none' (fun x hx => by
      obtain ⟨j, hj⟩ := List.getElem?_of_mem hx
      have := (List.getElem?_eq_some_iff.1 hj).1
      exact hno j x (by omega) hj)]
def KH (sz : Int) (l : List HSpan) (w : World) (v : Value) (w' : World) : Prop := ∃ t' : Sl, v = hV sz t' ∧ SH w w' [RH t' l]
abbrev ZH (b : Nat) : Asr := aB b (([.int .i64 0, .slice none 0 0] : List Value).map Ce.v)
theorem c73 {w : World} {sz : Int} {t : Sl} {l : List HSpan} (hl : HAt w t l) (hf : l.length ≤ 1048576) : CallW Try.prog 73 #[hV sz t] w (KH sz l w) := by
  refine go73 ?_
  unfold W73
  have htl := hl.tl
  have h := SH.start w
  refine h.alloc (fun w1 h e1 n1 => ?_)
  refine h.alloc (fun w2 h e2 n2 => ?_)
  have h := h.drew
  refine ⟨_, h.cell 1 rfl rfl, t, h.cell 1 rfl rfl, ?_⟩
  refine h.alloc (fun w5 h e5 n5 => ?_)
  refine ⟨⟨t, h.cell 2 rfl rfl, rfl⟩, ⟨_, h.cell 2 rfl rfl, rfl⟩, ?_⟩
  have h := h.drop.nil (some ⟨w2.drew.heap.size, 0, none⟩) 2
  refine SH.appendR (f := HSpan.cells) (l := []) (us := l) h (hl.ext h.ext).tr htl.symm (fun _ => rfl) rfl rfl (by decide) (by show (_ + _) * 16 ≤ _; simp; omega) plain_sp (fun t1 w9 h ht1 nw9 => ?_)
  have h : SH w w9 [RH t1 l, ZH w1.heap.size, BH w.heap.size sz t] := h
  refine ⟨⟨_, h.cell 2 rfl rfl, rfl⟩, ?_⟩
  refine h.put 1 rfl rfl rfl (fun w11 h n11 => ?_)
  exact ⟨_, h.cell 1 rfl rfl, t1, h.cell 1 rfl rfl, t1, rfl, h.one⟩
theorem c78 {w : World} {sz : Int} {t : Sl} {l : List HSpan} {i : Nat} (hl : HAt w t l) (hi : i < l.length) (hf : l.length ≤ 1048576) : CallW Try.prog 78 #[hV sz t, .int .i64 (i : Int)] w (KH sz (l.eraseIdx i) w) := by
  refine go78 ?_
  unfold W78
  have htl := hl.tl
  have htc := hl.cap
  have h := SH.start w
  refine h.alloc (fun w1 h e1 n1 => ?_)
  refine h.alloc (fun w2 h e2 n2 => ?_)
  have h := h.drew
  rw [w64 (n := (i : Int) + 1) (by omega) (by omega)]
  refine ⟨_, h.cell 1 rfl rfl, t, h.cell 1 rfl rfl, by omega, by omega, t, h.cell 1 rfl rfl, by omega, by omega, ?_⟩
  rw [show ((i : Int) + 1).toNat = i + 1 by omega]
  simp only [Int.toNat_natCast]
  refine h.alloc (fun w6 h e6 n6 => ?_)
  refine ⟨⟨t, h.cell 2 rfl rfl, rfl⟩, ⟨t, h.cell 2 rfl rfl, rfl⟩, ⟨_, h.cell 2 rfl rfl, rfl⟩, ?_⟩
  have h := h.drop.nil (some ⟨w2.drew.heap.size, 0, none⟩) 2
  refine SH.appendR (f := HSpan.cells) (l := []) (us := l.take i) h ((hl.ext h.ext).tr.pre spz (by omega)) (by simp; omega) (fun _ => rfl) rfl rfl (by decide) (by show (_ + _) * 16 ≤ _; simp; omega) plain_sp (fun t1 w11 h ht1 nw11 => ?_)
  refine ⟨⟨t, h.cell 2 rfl rfl, rfl⟩, ⟨_, h.cell 2 rfl rfl, rfl⟩, ?_⟩
  have htr := (hl.ext h.ext).tr
  refine SH.appendR (f := HSpan.cells) (us := l.drop (i + 1)) h (htr.suf spz htl htc (by omega)) (by simp; omega) (fun _ => rfl) rfl rfl (by decide) (by show (_ + _) * 16 ≤ _; simp; omega) plain_sp (fun t2 w15 h ht2 nw15 => ?_)
  have h : SH w w15 [RH t2 (l.take i ++ l.drop (i + 1)), ZH w1.heap.size, BH w.heap.size sz t] := h
  rw [← List.eraseIdx_eq_take_drop_succ] at h
  refine ⟨⟨_, h.cell 2 rfl rfl, rfl⟩, ?_⟩
  refine h.put 1 rfl rfl rfl (fun w17 h n17 => ?_)
  exact ⟨_, h.cell 1 rfl rfl, t2, h.cell 1 rfl rfl, t2, rfl, h.one⟩
set_option maxHeartbeats 1000000 in
theorem c74 {w : World} {sz : Int} {t : Sl} {l : List HSpan} {i : Nat} {x : HSpan} (hl : HAt w t l) (hi : i ≤ l.length) (hf : l.length ≤ 1048576) : CallW Try.prog 74 #[hV sz t, .int .i64 (i : Int), .agg #[.int .i64 x.At, .int .i64 x.Size]] w (KH sz (insH l i x) w) := by
  refine go74 ?_
  unfold W74
  have htl := hl.tl
  have htc := hl.cap
  have h := SH.start w
  refine h.alloc (fun w1 h e1 n1 => ?_)
  refine h.alloc (fun w2 h e2 n2 => ?_)
  refine h.alloc (fun w3 h e3 n3 => ?_)
  have h : SH w w3 [ZH w2.heap.size, aB w1.heap.size (x.cells.map Ce.v), BH w.heap.size sz t] := h
  simp only [Int.toNat_natCast]
  refine JoinW.cut1 (fun (p : Option Addr) w' => ∃ (b : Nat) (t1 : Sl), p = some ⟨b, 0, none⟩ ∧ SH w w' [BH b sz t1, RH t1 (l.take i), ZH w2.heap.size, aB w1.heap.size (x.cells.map Ce.v), BH w.heap.size sz t]) ?_ ?_
  · have h := h.drew
    refine ⟨_, h.cell 2 rfl rfl, t, h.cell 2 rfl rfl, by omega, by omega, ?_⟩
    refine ⟨?_, ?_⟩
    · refine h.alloc (fun w41 h e41 n41 => ?_)
      refine ⟨⟨t, h.cell 3 rfl rfl, rfl⟩, ⟨_, h.cell 3 rfl rfl, rfl⟩, ?_⟩
      refine ⟨?_, ?_⟩
      · have h := h.drop.nil (some ⟨w3.drew.heap.size, 0, none⟩) 2
        refine SH.appendR (f := HSpan.cells) (l := []) (us := l.take i) h ((hl.ext h.ext).tr.pre spz (by omega)) (by simp; omega) (fun _ => rfl) rfl rfl (by decide) (by show (_ + _) * 16 ≤ _; simp; omega) plain_sp (fun t1 w52 h ht1 nw52 => ?_)
        refine ⟨⟨_, h.cell 3 rfl rfl, rfl⟩, ⟨?_, trivial⟩⟩
        refine h.alloc (fun w54 h e54 n54 => ?_)
        refine ⟨⟨t, h.cell 4 rfl rfl, rfl⟩, ⟨_, h.cell 4 rfl rfl, rfl⟩, ⟨?_, trivial⟩⟩
        refine h.put 0 rfl rfl rfl (fun w57 h n57 => ?_)
        exact ⟨_, t1, rfl, h⟩
      · refine ⟨?_, trivial⟩
        refine h.alloc (fun w44 h e44 n44 => ?_)
        refine ⟨⟨t, h.cell 4 rfl rfl, rfl⟩, ⟨_, h.cell 4 rfl rfl, rfl⟩, ⟨?_, trivial⟩⟩
        have h := (h.dropAt 1).nil (some ⟨w3.drew.heap.size, 0, none⟩) 2
        refine SH.appendR (f := HSpan.cells) (l := []) (us := l.take i) h ((hl.ext h.ext).tr.pre spz (by omega)) (by simp; omega) (fun _ => rfl) rfl rfl (by decide) (by show (_ + _) * 16 ≤ _; simp; omega) plain_sp (fun t1 w48 h ht1 nw48 => ?_)
        refine ⟨⟨_, h.cell 4 rfl rfl, rfl⟩, ⟨?_, trivial⟩⟩
        refine h.put 1 rfl rfl rfl (fun w50 h n50 => ?_)
        exact ⟨_, t1, rfl, h.p1⟩
    · refine ⟨?_, trivial⟩
      refine h.alloc (fun w31 h e31 n31 => ?_)
      refine ⟨⟨t, h.cell 3 rfl rfl, rfl⟩, ⟨_, h.cell 3 rfl rfl, rfl⟩, ⟨?_, trivial⟩⟩
      refine h.alloc (fun w34 h e34 n34 => ?_)
      refine ⟨⟨t, h.cell 4 rfl rfl, rfl⟩, ⟨_, h.cell 4 rfl rfl, rfl⟩, ⟨?_, trivial⟩⟩
      have h := h.drop.nil (some ⟨w31.heap.size, 0, none⟩) 2
      refine SH.appendR (f := HSpan.cells) (l := []) (us := l.take i) h ((hl.ext h.ext).tr.pre spz (by omega)) (by simp; omega) (fun _ => rfl) rfl rfl (by decide) (by show (_ + _) * 16 ≤ _; simp; omega) plain_sp (fun t1 w38 h ht1 nw38 => ?_)
      refine ⟨⟨_, h.cell 4 rfl rfl, rfl⟩, ⟨?_, trivial⟩⟩
      refine h.put 1 rfl rfl rfl (fun w40 h n40 => ?_)
      exact ⟨_, t1, rfl, h.p1⟩
  clear h
  rintro (p : Option Addr) w6 ⟨b, t1, rfl, h⟩
  have hl1 := h.len 1 rfl
  rw [recs_len] at hl1
  refine addrOf_mk ⟨t1, h.cellP 0 rfl rfl, _, h.cell 3 rfl rfl, _, h.cell 3 rfl rfl, ?_⟩
  refine LetW_iff.2 (SH.appendR1 (f := HSpan.cells) (x := x) h.p1 rfl rfl rfl (by decide) (by show (_ + _) * 16 ≤ _; simp; omega) (plain_sp x) (fun t2 w13 h ht2 nw13 => ?_))
  have h := h.p1
  refine addrOf_mk ?_
  refine h.setVP 0 rfl rfl (fun w15 h n15 => ?_)
  have h := h.drew
  refine addrOf_mk ⟨t2, h.cellP 0 rfl rfl, t, h.cell 4 rfl rfl, by omega, by omega, ?_⟩
  have htr := (hl.ext h.ext).tr
  refine SH.appendR (f := HSpan.cells) (us := l.drop i) h.p1 (htr.suf spz htl htc (by omega)) (by simp; omega) (fun _ => rfl) rfl rfl (by decide) (by show (_ + _) * 16 ≤ _; simp; omega) plain_sp (fun t3 w20 h ht3 nw20 => ?_)
  have h := h.p1
  refine addrOf_mk ?_
  refine h.setVP 0 rfl rfl (fun w22 h n22 => ?_)
  refine addrOf_mk ⟨_, h.cellP 0 rfl rfl, t3, h.cellP 0 rfl rfl, ?_⟩
  refine h.put 2 rfl rfl rfl (fun w26 h n26 => ?_)
  refine ⟨_, h.cell 2 rfl rfl, t3, h.cell 2 rfl rfl, t3, rfl, ?_⟩
  have e : l.take i ++ [x] ++ l.drop i = insH l i x := by unfold insH; simp
  rw [← e]
  exact h.p1.one
end Go.Proofs.Ytkgoanjemhbjgaa

/- FnHeapApart: taking, giving back, resizing, both sides. Conditions: none. -/
set_option linter.unusedVariables false
set_option linter.unusedSimpArgs false
namespace Go.Proofs.Ytkgoanjemhbjgaa
open Go Go.Den
def KT (sz : Int) (r : List HSpan × Int) (w : World) (v : Value) (w' : World) : Prop := ∃ t' : Sl, v = .tuple #[hV sz t', .int .i64 r.2] ∧ SH w w' [RH t' r.1]
def KG (sz : Int) (r : List HSpan × Bool) (w : World) (v : Value) (w' : World) : Prop := ∃ t' : Sl, v = .tuple #[hV sz t', .bool r.2] ∧ SH w w' [RH t' r.1]
/-- Room is an address in the heap. -/
theorem room_rng {sz m : Int} {l : List HSpan} (hi : HInv sz l) (hm : 0 < m) (hm8 : m % 8 = 0) {i : Nat} {a : Int} (h : roomH sz m 0 l 0 = some (i, a)) : i ≤ l.length ∧ 0 ≤ a ∧ a ≤ 65536 ∧ (∀ x, x ∈ l → x.At ≠ a) := by
  obtain ⟨g1, g2, g3, g4, g5, g6⟩ := room_ok hm hm8 hi.ch (by omega) h
  have := hi.sz.2.1
  exact ⟨by omega, g3, by omega, g6⟩
set_option maxHeartbeats 1000000 in
theorem s16 {w : World} {sz n : Int} {t : Sl} {l : List HSpan} (hl : HAt w t l) (hi : HInv sz l) (h0 : 0 ≤ n) (h1 : n ≤ 65536) : CallW Try.prog 16 #[hV sz t, .int .i64 n] w (KT sz (takeH sz l n) w) := by
  refine go16 ?_
  unfold W16
  have htl := hl.tl
  have hf := hi.few
  obtain ⟨r1, r2, r3, r4⟩ := rndH_ok h0 h1
  have h := SH.start w
  refine h.alloc (fun w1 h e1 n1 => ?_)
  refine h.alloc (fun w2 h e2 n2 => ?_)
  refine ⟨_, h.cell 1 rfl rfl, t, h.cell 1 rfl rfl, (c66 (hl.ext h.ext) hi.ch hf).mono ?_⟩
  rintro _ w6 ⟨rfl, e6⟩
  have h := h.to e6
  refine ⟨_, rfl, ?_⟩
  rw [decide_eq_true hi.sz]
  refine JoinW.cut1 (fun (b : Bool) w' => b = false ∧ w' = w6) (BIf.f rfl ⟨decide_eq_false (by omega), rfl⟩) ?_
  rintro (b : Bool) w10 ⟨rfl, rfl⟩
  refine JoinW.cut1 (fun (b : Bool) w' => b = false ∧ w' = w10) (BIf.f rfl ⟨decide_eq_false (by omega), rfl⟩) ?_
  rintro (b : Bool) w13 ⟨rfl, rfl⟩
  refine BIf.f rfl ⟨_, h.cell 1 rfl rfl, t, h.cell 1 rfl rfl, (c67 (hl.ext h.ext) (by omega)).mono ?_⟩
  rintro _ w20 ⟨t1, rfl, g⟩
  have h := h.seq g
  refine ⟨_, t1, rfl, ?_⟩
  refine h.put 2 rfl rfl rfl (fun w23 h n23 => ?_)
  have h : SH w w23 [RH t1 l, ZH w1.heap.size, BH w.heap.size sz t1] := h
  refine (c68 h0 h1).mono ?_
  rintro _ w25 ⟨rfl, rfl⟩
  refine ⟨_, rfl, (c69 (h.cellP 2 rfl rfl) (h.cellP 2 rfl rfl) (hatOf h 0 rfl) hi).mono ?_⟩
  rintro _ w28 ⟨rfl, e28⟩
  have h := h.to e28
  have hl1 := h.len 0 rfl
  rw [recs_len] at hl1
  refine ⟨_, _, rfl, ?_⟩
  refine JoinW.cut1 (fun (b : Bool) w' => b = (decide ((roomV sz (rndH n) l).1 < 0) || decide (512 ≤ l.length)) ∧ w' = w28) (BIf.dec (fun hc => ⟨by rw [decide_eq_true hc]; rfl, rfl⟩) (fun hc => ⟨t1, h.cell 2 rfl rfl, by rw [decide_eq_false hc, Bool.false_or, Bool.eq_iff_iff]; simp; omega, rfl⟩)) ?_
  rintro (b : Bool) w33 ⟨rfl, rfl⟩
  rcases hr : roomH sz (rndH n) 0 l 0 with _ | ⟨i, a⟩
  · have hv : roomV sz (rndH n) l = (-1, 0) := by unfold roomV; rw [hr]
    have ht : takeH sz l n = (l, -1) := by unfold takeH; rw [hr]
    rw [hv, ht]
    refine BIf.t rfl ⟨_, h.cell 2 rfl rfl, t1, h.cell 2 rfl rfl, ?_⟩
    refine h.put 1 rfl rfl rfl (fun w36 h n36 => ?_)
    exact ⟨_, h.cell 1 rfl rfl, t1, h.cell 1 rfl rfl, t1, rfl, h.one⟩
  · obtain ⟨q1, q2, q3, q4⟩ := room_rng hi r1 r2 hr
    have hv : roomV sz (rndH n) l = (a, (i : Int)) := by unfold roomV; rw [hr]
    have ht : takeH sz l n = if 512 ≤ l.length then (l, -1) else (insH l i ⟨a, rndH n⟩, a) := by unfold takeH; rw [hr]
    rw [hv]
    by_cases hfull : 512 ≤ l.length
    · rw [ht, if_pos hfull]
      refine BIf.t (by simp [hfull]) ⟨_, h.cell 2 rfl rfl, t1, h.cell 2 rfl rfl, ?_⟩
      refine h.put 1 rfl rfl rfl (fun w36 h n36 => ?_)
      exact ⟨_, h.cell 1 rfl rfl, t1, h.cell 1 rfl rfl, t1, rfl, h.one⟩
    · rw [ht, if_neg hfull]
      refine BIf.f (by simp [hfull]; omega) ⟨t1, h.cell 2 rfl rfl, ?_⟩
      refine h.alloc (fun w40 h e40 n40 => ?_)
      have h : SH w w40 [aB w33.heap.size ((⟨a, rndH n⟩ : HSpan).cells.map Ce.v), RH t1 l, ZH w1.heap.size, BH w.heap.size sz t1] := h
      refine (c70 h q1 (by omega)).mono ?_
      rintro _ w42 ⟨t2, rfl, h⟩
      refine ⟨t2, rfl, ?_⟩
      refine h.setV 2 rfl rfl (fun w44 h n44 => ?_)
      refine ⟨_, h.cell 2 rfl rfl, t2, h.cell 2 rfl rfl, ?_⟩
      refine h.put 1 rfl rfl rfl (fun w47 h n47 => ?_)
      exact ⟨_, h.cell 1 rfl rfl, t2, h.cell 1 rfl rfl, t2, rfl, h.one⟩
set_option maxHeartbeats 1000000 in
theorem s17 {w : World} {sz n : Int} {t : Sl} {l : List HSpan} (hl : HAt w t l) (hi : HInv sz l) (h0 : 0 ≤ n) (h1 : n ≤ 65536) : CallW Try.prog 17 #[hV sz t, .int .i64 n] w (KT sz (takeH sz l n) w) := by
  refine go17 ?_
  unfold W17
  have htl := hl.tl
  have hf := hi.few
  obtain ⟨r1, r2, r3, r4⟩ := rndH_ok h0 h1
  have h := SH.start w
  refine h.alloc (fun w1 h e1 n1 => ?_)
  refine h.alloc (fun w2 h e2 n2 => ?_)
  refine ⟨_, h.cell 1 rfl rfl, t, h.cell 1 rfl rfl, (c15 (hl.ext h.ext) hi.ch hf).mono ?_⟩
  rintro _ w6 ⟨rfl, e6⟩
  have h := h.to e6
  refine ⟨_, rfl, ?_⟩
  rw [decide_eq_true hi.sz]
  refine JoinW.cut1 (fun (b : Bool) w' => b = false ∧ w' = w6) (BIf.f rfl ⟨decide_eq_false (by omega), rfl⟩) ?_
  rintro (b : Bool) w10 ⟨rfl, rfl⟩
  refine JoinW.cut1 (fun (b : Bool) w' => b = false ∧ w' = w10) (BIf.f rfl ⟨decide_eq_false (by omega), rfl⟩) ?_
  rintro (b : Bool) w13 ⟨rfl, rfl⟩
  refine BIf.f rfl ?_
  have h := h.drew
  refine ⟨_, h.cell 1 rfl rfl, t, h.cell 1 rfl rfl, (c72 h0 h1).mono ?_⟩
  rintro _ w20 ⟨rfl, rfl⟩
  refine ⟨_, rfl, ⟨_, h.cell 1 rfl rfl, t, h.cell 1 rfl rfl, rfl⟩, (c71 (hl.ext h.ext) hi).mono ?_⟩
  rintro _ w25 ⟨rfl, e25⟩
  have h := h.to e25
  refine ⟨_, _, rfl, ?_⟩
  refine JoinW.cut1 (fun (b : Bool) w' => b = (decide ((roomS sz (rndH n) l).1 < 0) || decide (512 ≤ l.length)) ∧ w' = w25) (BIf.dec (fun hc => ⟨by rw [decide_eq_true hc]; rfl, rfl⟩) (fun hc => ⟨t, h.cell 1 rfl rfl, by rw [decide_eq_false hc, Bool.false_or, Bool.eq_iff_iff]; simp; omega, rfl⟩)) ?_
  rintro (b : Bool) w30 ⟨rfl, rfl⟩
  have nope : KT sz (l, -1) w = KT sz (l, -1) w := rfl
  rcases hr : roomH sz (rndH n) 0 l 0 with _ | ⟨i, a⟩
  · have hv : roomS sz (rndH n) l = (-1, -1) := by unfold roomS; rw [hr]
    have ht : takeH sz l n = (l, -1) := by unfold takeH; rw [hr]
    rw [hv, ht]
    refine BIf.t rfl ⟨_, h.cell 1 rfl rfl, t, h.cell 1 rfl rfl, (c73 (hl.ext h.ext) (by omega)).mono ?_⟩
    rintro _ w34 ⟨t1, rfl, g⟩
    have h := h.seq g
    refine ⟨_, t1, rfl, ?_⟩
    refine h.put 1 rfl rfl rfl (fun w37 h n37 => ?_)
    exact ⟨_, h.cell 1 rfl rfl, t1, h.cell 1 rfl rfl, t1, rfl, h.one⟩
  · obtain ⟨q1, q2, q3, q4⟩ := room_rng hi r1 r2 hr
    have hv : roomS sz (rndH n) l = ((i : Int), a) := by unfold roomS; rw [hr]
    have ht : takeH sz l n = if 512 ≤ l.length then (l, -1) else (insH l i ⟨a, rndH n⟩, a) := by unfold takeH; rw [hr]
    rw [hv]
    by_cases hfull : 512 ≤ l.length
    · rw [ht, if_pos hfull]
      refine BIf.t (by simp [hfull]) ⟨_, h.cell 1 rfl rfl, t, h.cell 1 rfl rfl, (c73 (hl.ext h.ext) (by omega)).mono ?_⟩
      rintro _ w34 ⟨t1, rfl, g⟩
      have h := h.seq g
      refine ⟨_, t1, rfl, ?_⟩
      refine h.put 1 rfl rfl rfl (fun w37 h n37 => ?_)
      exact ⟨_, h.cell 1 rfl rfl, t1, h.cell 1 rfl rfl, t1, rfl, h.one⟩
    · rw [ht, if_neg hfull]
      have h := h.drew
      refine BIf.f (by simp [hfull]) ⟨_, h.cell 1 rfl rfl, t, h.cell 1 rfl rfl, (c72 h0 h1).mono ?_⟩
      rintro _ w43 ⟨rfl, rfl⟩
      refine ⟨_, rfl, ⟨_, h.cell 1 rfl rfl, t, h.cell 1 rfl rfl, rfl⟩, (c74 (x := ⟨a, rndH n⟩) (hl.ext h.ext) q1 (by omega)).mono ?_⟩
      rintro _ w48 ⟨t2, rfl, g⟩
      have h := h.seq g
      refine ⟨_, t2, rfl, ?_⟩
      refine h.put 1 rfl rfl rfl (fun w51 h n51 => ?_)
      exact ⟨_, h.cell 1 rfl rfl, t2, h.cell 1 rfl rfl, t2, rfl, h.one⟩
theorem idx_rng {l : List HSpan} {a : Int} {i : Nat} (h : idxH l a = some i) : i < l.length := by
  obtain ⟨x, hx, _⟩ := idxH_some h
  exact (List.getElem?_eq_some_iff.1 hx).1
theorem s20 {w : World} {sz a : Int} {t : Sl} {l : List HSpan} (hl : HAt w t l) (hi : HInv sz l) : CallW Try.prog 20 #[hV sz t, .int .i64 a] w (KG sz (giveH l a) w) := by
  refine go20 ?_
  unfold W20
  have htl := hl.tl
  have hf := hi.few
  have h := SH.start w
  refine h.alloc (fun w1 h e1 n1 => ?_)
  refine h.alloc (fun w2 h e2 n2 => ?_)
  refine ⟨_, h.cell 1 rfl rfl, t, h.cell 1 rfl rfl, (c66 (hl.ext h.ext) hi.ch hf).mono ?_⟩
  rintro _ w6 ⟨rfl, e6⟩
  have h := h.to e6
  refine ⟨_, rfl, ?_⟩
  rw [decide_eq_true hi.sz]
  refine BIf.f rfl ⟨_, h.cell 1 rfl rfl, t, h.cell 1 rfl rfl, (c67 (hl.ext h.ext) (by omega)).mono ?_⟩
  rintro _ w14 ⟨t1, rfl, g⟩
  have h := h.seq g
  refine ⟨_, t1, rfl, ?_⟩
  refine h.put 2 rfl rfl rfl (fun w17 h n17 => ?_)
  have h : SH w w17 [RH t1 l, ZH w1.heap.size, BH w.heap.size sz t1] := h
  refine (c75 (h.cellP 2 rfl rfl) (hatOf h 0 rfl) (by omega)).mono ?_
  rintro _ w19 ⟨rfl, e19⟩
  have h := h.to e19
  refine ⟨_, rfl, ?_⟩
  rcases hr : idxH l a with _ | i
  · have hv : idxV l a = -1 := by unfold idxV; rw [hr]
    have ht : giveH l a = (l, false) := by unfold giveH; rw [hr]
    rw [hv, ht]
    refine BIf.t rfl ⟨_, h.cell 2 rfl rfl, t1, h.cell 2 rfl rfl, ?_⟩
    refine h.put 1 rfl rfl rfl (fun w23 h n23 => ?_)
    exact ⟨_, h.cell 1 rfl rfl, t1, h.cell 1 rfl rfl, t1, rfl, h.one⟩
  · have hil := idx_rng hr
    have hv : idxV l a = (i : Int) := by unfold idxV; rw [hr]
    have ht : giveH l a = (l.eraseIdx i, true) := by unfold giveH; rw [hr]
    rw [hv, ht]
    rw [w64 (n := (i : Int) + 1) (by omega) (by omega)]
    refine BIf.f (decide_eq_false (by omega)) ⟨t1, h.cell 2 rfl rfl, (c76 h hil (by omega)).mono ?_⟩
    rintro _ w28 ⟨t2, rfl, h⟩
    refine ⟨t2, rfl, ?_⟩
    refine h.setV 2 rfl rfl (fun w30 h n30 => ?_)
    refine ⟨_, h.cell 2 rfl rfl, t2, h.cell 2 rfl rfl, ?_⟩
    refine h.put 1 rfl rfl rfl (fun w33 h n33 => ?_)
    exact ⟨_, h.cell 1 rfl rfl, t2, h.cell 1 rfl rfl, t2, rfl, h.one⟩
theorem s21 {w : World} {sz a : Int} {t : Sl} {l : List HSpan} (hl : HAt w t l) (hi : HInv sz l) : CallW Try.prog 21 #[hV sz t, .int .i64 a] w (KG sz (giveH l a) w) := by
  refine go21 ?_
  unfold W21
  have htl := hl.tl
  have hf := hi.few
  have h := SH.start w
  refine h.alloc (fun w1 h e1 n1 => ?_)
  refine h.alloc (fun w2 h e2 n2 => ?_)
  refine ⟨_, h.cell 1 rfl rfl, t, h.cell 1 rfl rfl, (c15 (hl.ext h.ext) hi.ch hf).mono ?_⟩
  rintro _ w6 ⟨rfl, e6⟩
  have h := h.to e6
  refine ⟨_, rfl, ?_⟩
  rw [decide_eq_true hi.sz]
  refine BIf.f rfl ⟨_, h.cell 1 rfl rfl, t, h.cell 1 rfl rfl, (c77 (hl.ext h.ext) (by omega)).mono ?_⟩
  rintro _ w14 ⟨rfl, e14⟩
  have h := h.to e14
  refine ⟨_, rfl, ?_⟩
  rcases hr : idxH l a with _ | i
  · have hv : idxV l a = -1 := by unfold idxV; rw [hr]
    have ht : giveH l a = (l, false) := by unfold giveH; rw [hr]
    rw [hv, ht]
    refine BIf.t rfl ⟨_, h.cell 1 rfl rfl, t, h.cell 1 rfl rfl, (c73 (hl.ext h.ext) (by omega)).mono ?_⟩
    rintro _ w19 ⟨t1, rfl, g⟩
    have h := h.seq g
    refine ⟨_, t1, rfl, ?_⟩
    refine h.put 1 rfl rfl rfl (fun w23 h n23 => ?_)
    exact ⟨_, h.cell 1 rfl rfl, t1, h.cell 1 rfl rfl, t1, rfl, h.one⟩
  · have hil := idx_rng hr
    have hv : idxV l a = (i : Int) := by unfold idxV; rw [hr]
    have ht : giveH l a = (l.eraseIdx i, true) := by unfold giveH; rw [hr]
    rw [hv, ht]
    refine BIf.f (decide_eq_false (by omega)) ⟨_, h.cell 1 rfl rfl, t, h.cell 1 rfl rfl, (c78 (hl.ext h.ext) hil (by omega)).mono ?_⟩
    rintro _ w28 ⟨t1, rfl, g⟩
    have h := h.seq g
    refine ⟨_, t1, rfl, ?_⟩
    refine h.put 1 rfl rfl rfl (fun w31 h n31 => ?_)
    exact ⟨_, h.cell 1 rfl rfl, t1, h.cell 1 rfl rfl, t1, rfl, h.one⟩
end Go.Proofs.Ytkgoanjemhbjgaa

/- FnHeapApart: resizing, both sides. Conditions: none. -/
set_option linter.unusedVariables false
set_option linter.unusedSimpArgs false
namespace Go.Proofs.Ytkgoanjemhbjgaa
open Go Go.Den
theorem end_rng {sz : Int} {l : List HSpan} (hi : HInv sz l) (i : Nat) : 0 ≤ endH sz l i ∧ endH sz l i ≤ 65536 := by
  obtain ⟨s0, s1, _⟩ := hi.sz
  unfold endH
  rcases h : l[i + 1]? with _ | y
  · exact ⟨s0, s1⟩
  · have := hi.ch.mem y (List.mem_of_getElem? h)
    dsimp only
    omega
set_option maxHeartbeats 1000000 in
theorem s18 {w : World} {sz a n : Int} {t : Sl} {l : List HSpan} (hl : HAt w t l) (hi : HInv sz l) (h0 : 0 ≤ n) (h1 : n ≤ 65536) : CallW Try.prog 18 #[hV sz t, .int .i64 a, .int .i64 n] w (KT sz (resizeH sz l a n) w) := by
  refine go18 ?_
  unfold W18
  have htl := hl.tl
  have hf := hi.few
  have hss := hi.sz
  obtain ⟨r1, r2, r3, r4⟩ := rndH_ok h0 h1
  have h := SH.start w
  refine h.alloc (fun w1 h e1 n1 => ?_)
  refine h.alloc (fun w2 h e2 n2 => ?_)
  refine ⟨_, h.cell 1 rfl rfl, t, h.cell 1 rfl rfl, (c66 (hl.ext h.ext) hi.ch hf).mono ?_⟩
  rintro _ w6 ⟨rfl, e6⟩
  have h := h.to e6
  refine ⟨_, rfl, ?_⟩
  rw [decide_eq_true hi.sz]
  refine JoinW.cut1 (fun (b : Bool) w' => b = false ∧ w' = w6) (BIf.f rfl ⟨decide_eq_false (by omega), rfl⟩) ?_
  rintro (b : Bool) w10 ⟨rfl, rfl⟩
  refine JoinW.cut1 (fun (b : Bool) w' => b = false ∧ w' = w10) (BIf.f rfl ⟨decide_eq_false (by omega), rfl⟩) ?_
  rintro (b : Bool) w13 ⟨rfl, rfl⟩
  refine BIf.f rfl ⟨_, h.cell 1 rfl rfl, t, h.cell 1 rfl rfl, (c67 (hl.ext h.ext) (by omega)).mono ?_⟩
  rintro _ w20 ⟨t1, rfl, g⟩
  have h := h.seq g
  refine ⟨_, t1, rfl, ?_⟩
  refine h.put 2 rfl rfl rfl (fun w23 h n23 => ?_)
  have h : SH w w23 [RH t1 l, ZH w1.heap.size, BH w.heap.size sz t1] := h
  refine (c75 (h.cellP 2 rfl rfl) (hatOf h 0 rfl) (by omega)).mono ?_
  rintro _ w25 ⟨rfl, e25⟩
  have h := h.to e25
  have hl1 := h.len 0 rfl
  have hc1 := h.lenCap 0 rfl
  rw [recs_len] at hl1
  refine ⟨_, rfl, ?_⟩
  rcases hr : idxH l a with _ | i
  · have hv : idxV l a = -1 := by unfold idxV; rw [hr]
    have ht : resizeH sz l a n = (l, -1) := by unfold resizeH; rw [hr]
    rw [hv, ht]
    refine BIf.t rfl ⟨_, h.cell 2 rfl rfl, t1, h.cell 2 rfl rfl, ?_⟩
    refine h.put 1 rfl rfl rfl (fun w29 h n29 => ?_)
    exact ⟨_, h.cell 1 rfl rfl, t1, h.cell 1 rfl rfl, t1, rfl, h.one⟩
  have hil := idx_rng hr
  obtain ⟨x, hx, hxa⟩ := idxH_some hr
  obtain ⟨xm1, xm2, xm3⟩ := hi.ch.mem x (List.mem_of_getElem? hx)
  obtain ⟨en1, en2⟩ := end_rng hi i
  have hss1 := hss.2.1
  have hv : idxV l a = (i : Int) := by unfold idxV; rw [hr]
  rw [hv]
  rw [w64 (n := (i : Int) + 1) (by omega) (by omega)]
  refine BIf.f (decide_eq_false (by omega)) ((c68 h0 h1).mono ?_)
  rintro _ w33 ⟨rfl, rfl⟩
  refine ⟨_, rfl, _, h.cell 2 rfl rfl, ?_⟩
  refine JoinW.cut1 (fun (e : Int) w' => e = endH sz l i ∧ w' = w33) ?_ ?_
  · refine ⟨t1, h.cell 2 rfl rfl, BIf.dec (fun hlt => ?_) (fun hge => ⟨?_, rfl⟩)⟩
    · have hget : l[i + 1]? = some l[i + 1] := List.getElem?_eq_getElem (by omega)
      have hend : endH sz l i = l[i + 1].At := by unfold endH; rw [hget]
      generalize l[i + 1] = y at *
      obtain ⟨q, hq⟩ := h.rowQ 0 rfl hget
      rw [show ((i : Int) + 1).toNat = i + 1 by omega]
      exact ⟨t1, h.cell 2 rfl rfl, by omega, by omega, q, hq, _, h.rdR 0 rfl hq hget rfl, hend.symm, rfl⟩
    · unfold endH
      rw [List.getElem?_eq_none (by omega)]
  rintro (e : Int) w38 ⟨rfl, rfl⟩
  rw [w64 (n := endH sz l i - a) (by omega) (by omega)]
  refine BIf.dec (fun hc => ?_) (fun hc => ?_)
  · have ht : resizeH sz l a n = (l.set i ⟨a, rndH n⟩, a) := by unfold resizeH; rw [hr]; dsimp only; rw [if_pos (by omega)]
    rw [ht]
    obtain ⟨q, hq⟩ := h.rowQ 0 rfl hx
    simp only [Int.toNat_natCast]
    refine ⟨t1, h.cell 2 rfl rfl, by omega, by omega, q, hq, ?_⟩
    have h : SH w w38 [RH t1 (l.set i x), ZH w1.heap.size, BH w.heap.size sz t1] := by rw [← set_at hx]; exact h
    refine h.setR 0 (⟨a, rndH n⟩ : HSpan) rfl hq hil (by show 1 < 2; omega) (by show [Value.int .i64 a, Value.int .i64 (rndH n)] = ([Value.int .i64 x.At, Value.int .i64 x.Size] : List Value).set 1 _; rw [hxa]; rfl) (fun w41 h n41 => ?_)
    refine ⟨_, h.cell 2 rfl rfl, t1, h.cell 2 rfl rfl, ?_⟩
    refine h.put 1 rfl rfl rfl (fun w44 h n44 => ?_)
    exact ⟨_, h.cell 1 rfl rfl, t1, h.cell 1 rfl rfl, t1, rfl, h.one⟩
  · have ht : resizeH sz l a n = (match roomH sz (rndH n) 0 l 0 with
      | none => (l, -1)
      | some (k, b) => ((insH l k ⟨b, rndH n⟩).eraseIdx (moveI i k), b)) := by unfold resizeH; rw [hr]; exact if_neg (by omega)
    refine (c69 (h.cellP 2 rfl rfl) (h.cellP 2 rfl rfl) (hatOf h 0 rfl) hi).mono ?_
    rintro _ w48 ⟨rfl, e48⟩
    have h := h.to e48
    refine ⟨_, _, rfl, ?_⟩
    rcases hro : roomH sz (rndH n) 0 l 0 with _ | ⟨k, b⟩
    · have hv : roomV sz (rndH n) l = (-1, 0) := by unfold roomV; rw [hro]
      rw [ht, hv, hro]
      refine BIf.t rfl ⟨_, h.cell 2 rfl rfl, t1, h.cell 2 rfl rfl, ?_⟩
      refine h.put 1 rfl rfl rfl (fun w53 h n53 => ?_)
      exact ⟨_, h.cell 1 rfl rfl, t1, h.cell 1 rfl rfl, t1, rfl, h.one⟩
    · obtain ⟨q1, q2, q3, q4⟩ := room_rng hi r1 r2 hro
      have hv : roomV sz (rndH n) l = (b, (k : Int)) := by unfold roomV; rw [hro]
      rw [ht, hv, hro]
      refine BIf.f (decide_eq_false (by omega)) ⟨t1, h.cell 2 rfl rfl, ?_⟩
      refine h.alloc (fun w57 h e57 n57 => ?_)
      have h : SH w w57 [aB w48.heap.size ((⟨b, rndH n⟩ : HSpan).cells.map Ce.v), RH t1 l, ZH w1.heap.size, BH w.heap.size sz t1] := h
      refine (c70 h q1 (by omega)).mono ?_
      rintro _ w59 ⟨t2, rfl, h⟩
      refine ⟨t2, rfl, ?_⟩
      refine h.setV 2 rfl rfl (fun w61 h n61 => ?_)
      refine JoinW.cut1 (fun (j : Int) w' => j = (moveI i k : Nat) ∧ w' = w61) (BIf.dec (fun hc => ⟨by unfold moveI; rw [if_pos (by omega)]; rfl, rfl⟩) (fun hc => ⟨by unfold moveI; rw [if_neg (by omega)], rfl⟩)) ?_
      rintro (j : Int) w64' ⟨rfl, rfl⟩
      have hmv : moveI i k < (insH l k ⟨b, rndH n⟩).length := by rw [insH_len]; unfold moveI; split <;> omega
      rw [insH_len] at hmv
      rw [w64 (n := ((moveI i k : Nat) : Int) + 1) (by omega) (by omega)]
      refine ⟨t2, h.cell 2 rfl rfl, (c76 h (by rw [insH_len]; exact hmv) (by rw [insH_len]; omega)).mono ?_⟩
      rintro _ w67 ⟨t3, rfl, h⟩
      refine ⟨t3, rfl, ?_⟩
      refine h.setV 2 rfl rfl (fun w69 h n69 => ?_)
      refine ⟨_, h.cell 2 rfl rfl, t3, h.cell 2 rfl rfl, ?_⟩
      refine h.put 1 rfl rfl rfl (fun w72 h n72 => ?_)
      exact ⟨_, h.cell 1 rfl rfl, t3, h.cell 1 rfl rfl, t3, rfl, h.one⟩
set_option maxHeartbeats 1000000 in
theorem s19 {w : World} {sz a n : Int} {t : Sl} {l : List HSpan} (hl : HAt w t l) (hi : HInv sz l) (h0 : 0 ≤ n) (h1 : n ≤ 65536) : CallW Try.prog 19 #[hV sz t, .int .i64 a, .int .i64 n] w (KT sz (resizeH sz l a n) w) := by
  refine go19 ?_
  unfold W19
  have htl := hl.tl
  have hf := hi.few
  have hss := hi.sz
  obtain ⟨r1, r2, r3, r4⟩ := rndH_ok h0 h1
  have h := SH.start w
  refine h.alloc (fun w1 h e1 n1 => ?_)
  refine h.alloc (fun w2 h e2 n2 => ?_)
  refine ⟨_, h.cell 1 rfl rfl, t, h.cell 1 rfl rfl, (c15 (hl.ext h.ext) hi.ch hf).mono ?_⟩
  rintro _ w6 ⟨rfl, e6⟩
  have h := h.to e6
  refine ⟨_, rfl, ?_⟩
  rw [decide_eq_true hi.sz]
  refine JoinW.cut1 (fun (b : Bool) w' => b = false ∧ w' = w6) (BIf.f rfl ⟨decide_eq_false (by omega), rfl⟩) ?_
  rintro (b : Bool) w10 ⟨rfl, rfl⟩
  refine JoinW.cut1 (fun (b : Bool) w' => b = false ∧ w' = w10) (BIf.f rfl ⟨decide_eq_false (by omega), rfl⟩) ?_
  rintro (b : Bool) w13 ⟨rfl, rfl⟩
  refine BIf.f rfl ⟨_, h.cell 1 rfl rfl, t, h.cell 1 rfl rfl, (c77 (hl.ext h.ext) (by omega)).mono ?_⟩
  rintro _ w20 ⟨rfl, e20⟩
  have h := h.to e20
  refine ⟨_, rfl, ?_⟩
  rcases hr : idxH l a with _ | i
  · have hv : idxV l a = -1 := by unfold idxV; rw [hr]
    have ht : resizeH sz l a n = (l, -1) := by unfold resizeH; rw [hr]
    rw [hv, ht]
    refine BIf.t rfl ⟨_, h.cell 1 rfl rfl, t, h.cell 1 rfl rfl, (c73 (hl.ext h.ext) (by omega)).mono ?_⟩
    rintro _ w25 ⟨t1, rfl, g⟩
    have h := h.seq g
    refine ⟨_, t1, rfl, ?_⟩
    refine h.put 1 rfl rfl rfl (fun w28 h n28 => ?_)
    exact ⟨_, h.cell 1 rfl rfl, t1, h.cell 1 rfl rfl, t1, rfl, h.one⟩
  have hil := idx_rng hr
  obtain ⟨x, hx, hxa⟩ := idxH_some hr
  obtain ⟨xm1, xm2, xm3⟩ := hi.ch.mem x (List.mem_of_getElem? hx)
  obtain ⟨en1, en2⟩ := end_rng hi i
  have hss1 := hss.2.1
  have hv : idxV l a = (i : Int) := by unfold idxV; rw [hr]
  rw [hv]
  rw [w64 (n := (i : Int) + 1) (by omega) (by omega)]
  refine BIf.f (decide_eq_false (by omega)) ((c72 h0 h1).mono ?_)
  rintro _ w32 ⟨rfl, rfl⟩
  refine ⟨_, rfl, _, h.cell 1 rfl rfl, ?_⟩
  refine JoinW.cut1 (fun (e : Int) w' => e = endH sz l i ∧ w' = w32) ?_ ?_
  · refine ⟨t, h.cell 1 rfl rfl, BIf.dec (fun hlt => ?_) (fun hge => ⟨?_, rfl⟩)⟩
    · have hget : l[i + 1]? = some l[i + 1] := List.getElem?_eq_getElem (by omega)
      have hend : endH sz l i = l[i + 1].At := by unfold endH; rw [hget]
      generalize l[i + 1] = y at *
      obtain ⟨q, hq, hcell⟩ := (hl.ext h.ext).get hget
      rw [show ((i : Int) + 1).toNat = i + 1 by omega]
      exact ⟨t, h.cell 1 rfl rfl, by omega, by omega, q, hq, _, hcell 0 _ rfl, hend.symm, rfl⟩
    · unfold endH
      rw [List.getElem?_eq_none (by omega)]
  rintro (e : Int) w37 ⟨rfl, rfl⟩
  rw [w64 (n := endH sz l i - a) (by omega) (by omega)]
  refine BIf.dec (fun hc => ?_) (fun hc => ?_)
  · have ht : resizeH sz l a n = (l.set i ⟨a, rndH n⟩, a) := by unfold resizeH; rw [hr]; dsimp only; rw [if_pos (by omega)]
    rw [ht]
    refine ⟨_, h.cell 1 rfl rfl, t, h.cell 1 rfl rfl, (c73 (hl.ext h.ext) (by omega)).mono ?_⟩
    rintro _ w41 ⟨t1, rfl, g⟩
    have h := h.seq g
    refine ⟨_, t1, rfl, ?_⟩
    refine h.alloc (fun w44 h e44 n44 => ?_)
    refine h.put 0 rfl rfl rfl (fun w45 h n45 => ?_)
    have h : SH w w45 [BH w41.heap.size sz t1, RH t1 l, ZH w1.heap.size, BH w.heap.size sz t] := h
    have hl1 := h.len 1 rfl
    rw [recs_len] at hl1
    obtain ⟨q, hq⟩ := h.rowQ 1 rfl hx
    simp only [Int.toNat_natCast]
    refine ⟨t1, h.cell 0 rfl rfl, by omega, by omega, q, hq, ?_⟩
    have h : SH w w45 [BH w41.heap.size sz t1, RH t1 (l.set i x), ZH w1.heap.size, BH w.heap.size sz t] := by rw [← set_at hx]; exact h
    refine h.setR 1 (⟨a, rndH n⟩ : HSpan) rfl hq hil (by show 1 < 2; omega) (by show [Value.int .i64 a, Value.int .i64 (rndH n)] = ([Value.int .i64 x.At, Value.int .i64 x.Size] : List Value).set 1 _; rw [hxa]; rfl) (fun w48 h n48 => ?_)
    refine ⟨_, h.cell 0 rfl rfl, t1, h.cell 0 rfl rfl, ?_⟩
    refine h.put 2 rfl rfl rfl (fun w51 h n51 => ?_)
    exact ⟨_, h.cell 2 rfl rfl, t1, h.cell 2 rfl rfl, t1, rfl, h.p1.one⟩
  · have ht : resizeH sz l a n = (match roomH sz (rndH n) 0 l 0 with
      | none => (l, -1)
      | some (k, b) => ((insH l k ⟨b, rndH n⟩).eraseIdx (moveI i k), b)) := by unfold resizeH; rw [hr]; exact if_neg (by omega)
    refine ⟨_, h.cell 1 rfl rfl, t, h.cell 1 rfl rfl, (c71 (hl.ext h.ext) hi).mono ?_⟩
    rintro _ w57 ⟨rfl, e57⟩
    have h := h.to e57
    refine ⟨_, _, rfl, ?_⟩
    rcases hro : roomH sz (rndH n) 0 l 0 with _ | ⟨k, b⟩
    · have hv : roomS sz (rndH n) l = (-1, -1) := by unfold roomS; rw [hro]
      rw [ht, hv, hro]
      refine BIf.t rfl ⟨_, h.cell 1 rfl rfl, t, h.cell 1 rfl rfl, (c73 (hl.ext h.ext) (by omega)).mono ?_⟩
      rintro _ w63 ⟨t1, rfl, g⟩
      have h := h.seq g
      refine ⟨_, t1, rfl, ?_⟩
      refine h.put 1 rfl rfl rfl (fun w66 h n66 => ?_)
      exact ⟨_, h.cell 1 rfl rfl, t1, h.cell 1 rfl rfl, t1, rfl, h.one⟩
    · obtain ⟨q1, q2, q3, q4⟩ := room_rng hi r1 r2 hro
      have hv : roomS sz (rndH n) l = ((k : Int), b) := by unfold roomS; rw [hro]
      rw [ht, hv, hro]
      refine BIf.f (decide_eq_false (by omega)) ⟨_, h.cell 1 rfl rfl, t, h.cell 1 rfl rfl, (c74 (x := ⟨b, rndH n⟩) (hl.ext h.ext) q1 (by omega)).mono ?_⟩
      rintro _ w72 ⟨t2, rfl, g⟩
      have h := h.seq g
      refine ⟨_, t2, rfl, ?_⟩
      refine h.alloc (fun w75 h e75 n75 => ?_)
      refine h.put 0 rfl rfl rfl (fun w76 h n76 => ?_)
      have h : SH w w76 [BH w72.heap.size sz t2, RH t2 (insH l k ⟨b, rndH n⟩), ZH w1.heap.size, BH w.heap.size sz t] := h
      have h := h.drew
      have hix : idxV (insH l k ⟨b, rndH n⟩) a = ((moveI i k : Nat) : Int) := by unfold idxV; rw [idxH_ins hr q1 (by show b ≠ a; rw [← hxa]; exact fun e => q4 x (List.mem_of_getElem? hx) e.symm)]
      have hmv : moveI i k < (insH l k ⟨b, rndH n⟩).length := by rw [insH_len]; unfold moveI; split <;> omega
      refine ⟨_, h.cell 0 rfl rfl, t2, h.cell 0 rfl rfl, _, h.cell 0 rfl rfl, t2, h.cell 0 rfl rfl, (c77 (hatOf h 1 rfl) (by rw [insH_len]; omega)).mono ?_⟩
      rintro _ w82 ⟨rfl, e82⟩
      have h := h.to e82
      rw [hix]
      refine ⟨_, rfl, ⟨_, h.cell 0 rfl rfl, t2, h.cell 0 rfl rfl, rfl⟩, (c78 (hatOf h 1 rfl) hmv (by rw [insH_len]; omega)).mono ?_⟩
      rintro _ w87 ⟨t3, rfl, g⟩
      have h := h.seq g
      refine ⟨_, t3, rfl, ?_⟩
      refine h.put 3 rfl rfl rfl (fun w90 h n90 => ?_)
      exact ⟨_, h.cell 3 rfl rfl, t3, h.cell 3 rfl rfl, t3, rfl, h.one⟩
end Go.Proofs.Ytkgoanjemhbjgaa

/- Draws: the cursor. Conditions: none. -/
set_option linter.unusedVariables false
set_option linter.unusedSimpArgs false
namespace Go.Proofs.Ytkgoanjemhbjgaa
open Go Go.Den
theorem s136 {w0 w : World} {As : List Asr} (h : SH w0 w As) (n : Nat) {cb : Nat} {s : Sl} (hA : As[n]? = some (aC cb s)) (hb : CurB w0 s) :
    CallW Try.prog 136 #[.pointer (some ⟨cb, 0, none⟩)] w (KD w0 As (fun x => 0 ≤ x ∧ x ≤ 255)) := by
  refine go136 ?_
  unfold W136
  have hn := (List.getElem?_eq_some_iff.1 hA).1
  obtain ⟨i, x, hi, h2⟩ := h.openC n hA
  have g : ∀ {A : Asr}, (As.set n A)[n]? = some A := List.getElem?_set_self hn
  refine ⟨_, rfl, _, h2.cellP n g rfl, _, rfl, ?_⟩
  refine h2.setVP n g rfl (fun w4 h4 _ => ?_)
  rw [List.set_set] at h4
  have h5 := h4.drew
  refine ⟨_, rfl, _, h5.cellP n g rfl, by decide, _, rfl, _, h5.cellP n g rfl, by decide, _, rfl, _, h5.drew.cellP n g rfl, _, rfl, s, h5.drew.cellP n g rfl, ?_⟩
  refine BIf.dec (fun hlt => ?_) (fun hge => ?_)
  · have h6 := h5.drew.drew
    obtain ⟨q, m, hq, hc, hm⟩ := hb.at_ i.toNat (by omega)
    have hfew := hb.few
    refine ⟨_, rfl, s, h6.cellP n g rfl, _, rfl, _, h6.cellP n g rfl, hi.1, hlt, q, hq, m, h6.ext.cell hc, _, rfl, _, h6.cellP n g rfl, _, rfl, ?_⟩
    refine h6.setVP n g rfl (fun w22 h7 _ => ?_)
    rw [List.set_set] at h7
    refine ⟨_, rfl, andI_255 _, h7.closeC n hA rfl ?_⟩
    rw [w64 (by omega) (by omega)]; omega
  · exact ⟨_, rfl, andI_255 _, h5.drew.closeC n hA rfl hi⟩
theorem s63 {w0 w : World} {As : List Asr} {k : Int} (h : SH w0 w As) (n : Nat) {cb : Nat} {s : Sl} (hA : As[n]? = some (aC cb s)) (hb : CurB w0 s) :
    CallW Try.prog 63 #[.pointer (some ⟨cb, 0, none⟩), .int .i64 k] w (KD w0 As (below k)) := by
  refine go63 ?_
  unfold W63
  refine BIf.dec (fun h0 => ⟨0, rfl, ⟨Int.le_refl 0, .inr ⟨h0, rfl⟩⟩, h⟩) (fun h0 => ?_)
  have hmod : ∀ x : Int, 0 ≤ x → below k (Int.tmod x k) := fun x hx => by
    have h1 : 0 ≤ x % k := Int.emod_nonneg x (by omega)
    have h2 : x % k < k := Int.emod_lt_of_pos x (by omega)
    rw [Int.tmod_eq_emod_of_nonneg hx]
    exact ⟨h1, .inl h2⟩
  refine BIf.dec (fun h1 => ?_) (fun h1 => ?_)
  · refine (s136 h n hA hb).mono ?_
    rintro _ w2 ⟨x, rfl, hx, h⟩
    exact ⟨x, rfl, by omega, _, rfl, hmod _ hx.1, h⟩
  · refine (s136 h n hA hb).mono ?_
    rintro _ w5 ⟨x, rfl, hx, h⟩
    refine ⟨x, rfl, (s136 h n hA hb).mono ?_⟩
    rintro _ w8 ⟨y, rfl, hy, h⟩
    refine ⟨y, rfl, (s136 h n hA hb).mono ?_⟩
    rintro _ w11 ⟨z, rfl, hz, h⟩
    refine ⟨z, rfl, by omega, _, rfl, ?_, h⟩
    rw [w64 (n := x * 65536) (by omega) (by omega), w64 (n := y * 256) (by omega) (by omega), w64 (n := x * 65536 + y * 256) (by omega) (by omega), w64 (by omega) (by omega)]
    exact hmod _ (by omega)
theorem s135 {w0 w : World} {As : List Asr} {k : Int} (h : SH w0 w As) (n : Nat) {cb : Nat} {s : Sl} (hA : As[n]? = some (aC cb s)) (hb : CurB w0 s) :
    CallW Try.prog 135 #[.pointer (some ⟨cb, 0, none⟩), .int .i64 k] w (KDb w0 As) := by
  refine go135 ?_
  unfold W135
  refine (s63 h n hA hb).mono ?_
  rintro _ w2 ⟨x, rfl, hx, h⟩
  exact ⟨x, rfl, _, rfl, h⟩
theorem s61 {w0 w : World} {F : List Asr} {s : Sl} (h : SH w0 w F) (hb : CurB w0 s) :
    CallW Try.prog 61 #[.slice s.a s.len s.cap] w (fun v w' => ∃ cb, v = .pointer (some ⟨cb, 0, none⟩) ∧ SH w0 w' (aC cb s :: F)) := by
  refine go61 ?_
  unfold W61
  have hfew := hb.few
  refine LoopW.m2 (fun (x i : Int) w' => ∃ m : Nat, i = m ∧ m ≤ s.len ∧ w' = w) (fun _ (i : Int) _ => (s.len - i).toNat) ⟨0, rfl, by omega, rfl⟩ ?_
  rintro (x : Int) (i : Int) w ⟨m, rfl, hm, rfl⟩ J hJ
  refine BIf.dec (fun hlt => ?_) (fun hge => ?_)
  · obtain ⟨q, y, hq, hc, hy⟩ := hb.at_ m (by omega)
    simp only [Int.toNat_natCast]
    refine ⟨by omega, hlt, q, hq, y, h.ext.cell hc, ?_⟩
    rw [w64 (n := (m : Int) + 1) (by omega) (by omega)]
    exact hJ _ _ _ ⟨m + 1, by omega, by omega, rfl⟩ (by omega)
  · refine h.alloc (fun w7 h e7 n7 => ?_)
    exact ⟨w.heap.size, rfl, SH.closeC (As := aC w.heap.size s :: _) 0 rfl h rfl (by omega)⟩
theorem c13 {s : Sl} {w : World} : CallW Try.prog 13 #[.slice s.a s.len s.cap] w (fun v w' => v = .bool (decide ((s.len : Int) > 1048576)) ∧ w' = w) := by
  refine go13 ?_
  unfold W13
  exact ⟨rfl, rfl⟩
end Go.Proofs.Ytkgoanjemhbjgaa
