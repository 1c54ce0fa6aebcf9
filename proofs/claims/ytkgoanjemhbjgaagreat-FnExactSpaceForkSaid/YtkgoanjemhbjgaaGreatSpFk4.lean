/- Part 4 of 6: plain readings of code, rules for them, and a proof over them, joined by a program. Conditions: none. -/
import Derived.Test.YtkgoanjemhbjgaaGreatSpFk3
import Derived.Test.YtkgoanjemhbjgaaGreatProg
/- The plainer reading of functions of the program, each held against its code. Conditions: none. -/
set_option linter.unusedVariables false
set_option maxRecDepth 100000
namespace Go.Proofs.YtkgoanjemhbjgaaGreat
open Go Go.Den
/- loop.example/g00008/laws.toBlockS -/
def an82 : Ann := (.seq .leaf (.seq .leaf (.seq (.seq .leaf (.in_ (.loop 9 [(4, .int .i64)] (.seq (.seq .leaf (.cond .leaf .leaf)) (.seq (.in_ .leaf) .leaf))))) (.seq .leaf .leaf))))
def W82 (a0 : Sl) (w : World) (K : Value → World → Prop) : Prop :=
  0 ≤ ((a0.len : Nat) : Int) ∧ ((a0.len : Nat) : Int) ≤ ((a0.len : Nat) : Int) ∧ ((a0.len : Nat) : Int) * 16 ≤ (140737488355328 : Int) ∧ 0 < 16 ∧ LetW (w.alloc (.cells ⟨zerosOf ti113.zero (Int.toNat ((a0.len : Nat) : Int))⟩ 113)) fun w1 => LoopW [.int .i64] (fun J3 => fun (n2 : Int) w4 => BIf (decide ((n2 : Int) < ((a0.len : Nat) : Int))) (0 ≤ (n2 : Int) ∧ (n2 : Int) < ((a0.len : Nat) : Int) ∧ ∃ q5 : Addr, (a0.a : Option Addr) = some q5 ∧ ∃ n6 : Int, w4.cell? ((q5.add (Int.toNat n2 * 2)).add 0) = some (.int .i64 n6) ∧ ∃ n7 : Int, w4.cell? ((q5.add (Int.toNat n2 * 2)).add 1) = some (.int .i64 n7) ∧ CallW Tryz.prog 116 #[.agg #[.int .i64 n6, .int .i64 n7]] w4 fun v8 w9 => ∃ n10 : Int, ∃ n11 : Int, v8 = .agg #[.int .i64 n10, .int .i64 n11] ∧ 0 ≤ (n2 : Int) ∧ (n2 : Int) < ((Int.toNat ((a0.len : Nat) : Int) : Nat) : Int) ∧ ∃ q12 : Addr, (some ⟨w.heap.size, 0, none⟩ : Option Addr) = some q12 ∧ MayN w9 (q12.add (Int.toNat n2 * 2)) 2 ∧ LetW (puts w9 (q12.add (Int.toNat n2 * 2)) 0 [.int .i64 n10, .int .i64 n11]) fun w13 => J3 (IntKind.wrap .i64 (n2 + 1)) w13) (K (.slice (some ⟨w.heap.size, 0, none⟩) (Int.toNat ((a0.len : Nat) : Int)) (Int.toNat ((a0.len : Nat) : Int))) w4)) ((0 : Int), ()) w1
theorem eq82 (a0 : Sl) (w : World) (K : Value → World → Prop) : denFn Tryz.prog tt Tryz.f82 an82 [.slice a0.a a0.len a0.cap] w K = W82 a0 w K := by kernel_rfl
theorem ok82 : OkFn Tryz.prog 82 := ⟨Tryz.f82, Tryz.func82, by kernel_rfl, by kernel_rfl⟩
theorem go82 {a0 : Sl} {w : World} {K : Value → World → Prop} (h : W82 a0 w K) : CallW Tryz.prog 82 #[.slice a0.a a0.len a0.cap] w K :=
  .inl ⟨ok82, denFn_sound tt_ok mix Tryz.func82 (by kernel_rfl) (eq82 a0 w K ▸ h)⟩

/- loop.example/g00008/impl.memOk -/
def an83 : Ann := (.seq .leaf (.seq (.reg [(5, none), (4, some (0, [(11, .bool)])), (1, none)]) .leaf))
def W83 (a0 : Sl) (w : World) (K : Value → World → Prop) : Prop :=
  (256 : Int) ≠ 0 ∧ JoinW [.bool] (fun J2 => BIf ((Int.tmod ((a0.len : Nat) : Int) 256 : Int) == 0) (J2 (decide ((((a0.len : Nat) : Int) : Int) ≤ 262144)) w) (J2 false w)) (fun (b1 : Bool) w3 => K (.bool b1) w3)
theorem eq83 (a0 : Sl) (w : World) (K : Value → World → Prop) : denFn Tryz.prog tt Tryz.f83 an83 [.slice a0.a a0.len a0.cap] w K = W83 a0 w K := by kernel_rfl
theorem ok83 : OkFn Tryz.prog 83 := ⟨Tryz.f83, Tryz.func83, by kernel_rfl, by kernel_rfl⟩
theorem go83 {a0 : Sl} {w : World} {K : Value → World → Prop} (h : W83 a0 w K) : CallW Tryz.prog 83 #[.slice a0.a a0.len a0.cap] w K :=
  .inl ⟨ok83, denFn_sound tt_ok mix Tryz.func83 (by kernel_rfl) (eq83 a0 w K ▸ h)⟩

/- loop.example/g00008/impl.copied -/
def an84 : Ann := (.seq .leaf (.seq .leaf .leaf))
def W84 (a0 : Sl) (w : World) (K : Value → World → Prop) : Prop :=
  AppendW 5 ti5 ⟨none, 0, 0⟩ a0 w fun l1 w2 => K (.slice l1.a l1.len l1.cap) w2
theorem eq84 (a0 : Sl) (w : World) (K : Value → World → Prop) : denFn Tryz.prog tt Tryz.f84 an84 [.slice a0.a a0.len a0.cap] w K = W84 a0 w K := by kernel_rfl
theorem ok84 : OkFn Tryz.prog 84 := ⟨Tryz.f84, Tryz.func84, by kernel_rfl, by kernel_rfl⟩
theorem go84 {a0 : Sl} {w : World} {K : Value → World → Prop} (h : W84 a0 w K) : CallW Tryz.prog 84 #[.slice a0.a a0.len a0.cap] w K :=
  .inl ⟨ok84, denFn_sound tt_ok mix Tryz.func84 (by kernel_rfl) (eq84 a0 w K ▸ h)⟩

/- loop.example/g00008/impl.copyFrames -/
def an85 : Ann := (.seq .leaf (.seq .leaf (.seq .leaf .leaf)))
def W85 (a0_0 : Int) (a0_1 : Sl) (w : World) (K : Value → World → Prop) : Prop :=
  LetW (w.alloc (.cells #[.int .i64 a0_0, .slice a0_1.a a0_1.len a0_1.cap] 31)) fun w1 => LetW (w1.alloc (.cells #[.int .i64 0, .slice none 0 0] 31)) fun w2 => ∃ l3 : Sl, w2.cell? ⟨w.heap.size, 1, none⟩ = some (.slice l3.a l3.len l3.cap) ∧ AppendW 113 ti113 ⟨none, 0, 0⟩ l3 w2 fun l4 w5 => May w5 ⟨w.heap.size, 1, none⟩ ∧ LetW (w5.setCell ⟨w.heap.size, 1, none⟩ (.slice l4.a l4.len l4.cap)) fun w6 => ∃ n7 : Int, w6.cell? ⟨w.heap.size, 0, none⟩ = some (.int .i64 n7) ∧ ∃ l8 : Sl, w6.cell? ⟨w.heap.size, 1, none⟩ = some (.slice l8.a l8.len l8.cap) ∧ MayN w6 ⟨w1.heap.size, 0, none⟩ 2 ∧ LetW (puts w6 ⟨w1.heap.size, 0, none⟩ 0 [.int .i64 n7, .slice l8.a l8.len l8.cap]) fun w9 => ∃ n10 : Int, w9.cell? ⟨w1.heap.size, 0, none⟩ = some (.int .i64 n10) ∧ ∃ l11 : Sl, w9.cell? ⟨w1.heap.size, 1, none⟩ = some (.slice l11.a l11.len l11.cap) ∧ K (.agg #[.int .i64 n10, .slice l11.a l11.len l11.cap]) w9
theorem eq85 (a0_0 : Int) (a0_1 : Sl) (w : World) (K : Value → World → Prop) : denFn Tryz.prog tt Tryz.f85 an85 [.agg #[.int .i64 a0_0, .slice a0_1.a a0_1.len a0_1.cap]] w K = W85 a0_0 a0_1 w K := by kernel_rfl
theorem ok85 : OkFn Tryz.prog 85 := ⟨Tryz.f85, Tryz.func85, by kernel_rfl, by kernel_rfl⟩
theorem go85 {a0_0 : Int} {a0_1 : Sl} {w : World} {K : Value → World → Prop} (h : W85 a0_0 a0_1 w K) : CallW Tryz.prog 85 #[.agg #[.int .i64 a0_0, .slice a0_1.a a0_1.len a0_1.cap]] w K :=
  .inl ⟨ok85, denFn_sound tt_ok mix Tryz.func85 (by kernel_rfl) (eq85 a0_0 a0_1 w K ▸ h)⟩

/- loop.example/g00008/impl.freeMap -/
def an86 : Ann := (.seq .leaf (.seq .leaf (.seq (.seq .leaf (.in_ (.loop 6152 [(13, .int .i64)] (.seq .leaf (.seq (.cond .leaf .leaf) (.seq (.in_ (.seq .leaf (.seq .leaf (.in_ (.loop 538664 [(20, .int .i64)] (.seq .leaf (.seq (.cond .leaf .leaf) (.seq (.in_ (.seq .leaf .leaf)) .leaf)))))))) .leaf)))))) (.seq .leaf .leaf))))
def W86 (a0_0 : Int) (a0_1 : Sl) (w : World) (K : Value → World → Prop) : Prop :=
  LetW (w.alloc (.cells #[.int .i64 a0_0, .slice a0_1.a a0_1.len a0_1.cap] 31)) fun w1 => ∃ n2 : Int, w1.cell? ⟨w.heap.size, 0, none⟩ = some (.int .i64 n2) ∧ 0 ≤ (n2 : Int) ∧ (n2 : Int) ≤ (n2 : Int) ∧ (n2 : Int) * 1 ≤ (140737488355328 : Int) ∧ 0 < 1 ∧ LetW (w1.alloc (.cells ⟨zerosOf ti4.zero (Int.toNat n2)⟩ 4)) fun w3 => ∃ l4 : Sl, w3.cell? ⟨w.heap.size, 1, none⟩ = some (.slice l4.a l4.len l4.cap) ∧ LoopW [.int .i64] (fun J6 => fun (n5 : Int) w7 => BIf (decide ((n5 : Int) < ((l4.len : Nat) : Int))) (0 ≤ (n5 : Int) ∧ (n5 : Int) < ((l4.len : Nat) : Int) ∧ ∃ q8 : Addr, (l4.a : Option Addr) = some q8 ∧ ∃ n9 : Int, w7.cell? ((q8.add (Int.toNat n5 * 2)).add 0) = some (.int .i64 n9) ∧ ∃ n10 : Int, w7.cell? ((q8.add (Int.toNat n5 * 2)).add 1) = some (.int .i64 n10) ∧ LetW (w7.alloc (.cells #[.int .i64 0, .int .i64 0] 113)) fun w11 => MayN w11 ⟨w7.heap.size, 0, none⟩ 2 ∧ LetW (puts w11 ⟨w7.heap.size, 0, none⟩ 0 [.int .i64 n9, .int .i64 n10]) fun w12 => ∃ n13 : Int, w12.cell? ⟨w7.heap.size, 1, none⟩ = some (.int .i64 n13) ∧ 0 ≤ (n13 : Int) ∧ LoopW [.int .i64] (fun J15 => fun (n14 : Int) w16 => BIf (decide ((n14 : Int) < (shlI .i64 1 n13))) (∃ n17 : Int, w16.cell? ⟨w7.heap.size, 0, none⟩ = some (.int .i64 n17) ∧ 0 ≤ (IntKind.wrap .i64 (n17 + n14) : Int) ∧ (IntKind.wrap .i64 (n17 + n14) : Int) < ((Int.toNat n2 : Nat) : Int) ∧ ∃ q18 : Addr, (some ⟨w1.heap.size, 0, none⟩ : Option Addr) = some q18 ∧ May w16 (q18.add (Int.toNat (IntKind.wrap .i64 (n17 + n14)) * 1)) ∧ LetW (w16.setCell (q18.add (Int.toNat (IntKind.wrap .i64 (n17 + n14)) * 1)) (.bool true)) fun w19 => J15 (IntKind.wrap .i64 (n14 + 1)) w19) (J6 (IntKind.wrap .i64 (n5 + 1)) w16)) ((0 : Int), ()) w12) (K (.slice (some ⟨w1.heap.size, 0, none⟩) (Int.toNat n2) (Int.toNat n2)) w7)) ((0 : Int), ()) w3
theorem eq86 (a0_0 : Int) (a0_1 : Sl) (w : World) (K : Value → World → Prop) : denFn Tryz.prog tt Tryz.f86 an86 [.agg #[.int .i64 a0_0, .slice a0_1.a a0_1.len a0_1.cap]] w K = W86 a0_0 a0_1 w K := by kernel_rfl
theorem ok86 : OkFn Tryz.prog 86 := ⟨Tryz.f86, Tryz.func86, by kernel_rfl, by kernel_rfl⟩
theorem go86 {a0_0 : Int} {a0_1 : Sl} {w : World} {K : Value → World → Prop} (h : W86 a0_0 a0_1 w K) : CallW Tryz.prog 86 #[.agg #[.int .i64 a0_0, .slice a0_1.a a0_1.len a0_1.cap]] w K :=
  .inl ⟨ok86, denFn_sound tt_ok mix Tryz.func86 (by kernel_rfl) (eq86 a0_0 a0_1 w K ▸ h)⟩

/- (*loop.example/g00008/impl.pool).tables$1 -/
def an87 : Ann := (.seq .leaf (.seq (.seq (.reg [(3, none), (5, some (127, [(21, .bool)])), (1, none), (5, some (123, [(27, .bool)])), (1, none), (4, some (123, [(32, .bool)]))]) (.cond (.seq .leaf .leaf) .leaf)) (.seq .leaf (.seq .leaf (.seq .leaf (.seq (.seq .leaf (.in_ (.loop 99 [(10, .bool), (41, .int .i64)] (.seq .leaf (.seq (.cond .leaf .leaf) (.seq (.in_ (.seq .leaf (.seq .leaf (.seq (.seq .leaf (.cond .leaf .leaf)) (.seq .leaf (.seq .leaf (.seq (.seq (.reg [(4, none), (4, some (2199023264867, [(59, .bool)]))]) (.cond (.seq .leaf .leaf) .leaf)) (.seq (.seq (.reg [(3, none), (3, some (2199023264867, [(65, .bool)])), (1, none), (3, some (2199023264867, [(69, .bool)]))]) (.cond (.seq (.seq (.reg [(3, none), (8, some (2199023256675, [(80, .bool)]))]) (.cond (.seq .leaf .leaf) .leaf)) .leaf) .leaf)) (.seq (.reg [(3, none), (3, some (2199023264867, [(86, .bool)])), (1, none), (3, some (2199023264867, [(90, .bool)])), (1, none), (3, some (2199023264867, [(94, .bool)])), (1, none), (8, some (2199023256675, [(103, .bool)]))]) (.cond (.seq .leaf .leaf) .leaf)))))))))) .leaf)))))) (.seq .leaf .leaf)))))))
def W87 (a0 : Int) (a1 : Int) (c0 : Addr) (c1 : Addr) (c2 : Addr) (c3 : Addr) (c4 : Addr) (w : World) (K : Value → World → Prop) : Prop :=
  JoinW [.bool] (fun J2 => BIf (decide ((a0 : Int) < 0)) (J2 true w) (∃ l82 : Sl, w.cell? c0 = some (.slice l82.a l82.len l82.cap) ∧ J2 (decide ((a0 : Int) ≥ ((l82.len : Nat) : Int))) w)) (fun (b1 : Bool) w3 => JoinW [.bool] (fun J5 => BIf b1 (J5 true w3) (∃ l79 : Sl, w3.cell? c0 = some (.slice l79.a l79.len l79.cap) ∧ 0 ≤ (a0 : Int) ∧ (a0 : Int) < ((l79.len : Nat) : Int) ∧ ∃ q80 : Addr, (l79.a : Option Addr) = some q80 ∧ ∃ b81 : Bool, w3.cell? (q80.add (Int.toNat a0 * 1)) = some (.bool b81) ∧ J5 b81 w3)) (fun (b4 : Bool) w6 => JoinW [.bool] (fun J8 => BIf b4 (J8 true w6) (∃ m76 : Option Nat, w6.cell? c1 = some (.map m76) ∧ MapGetW w6 m76 (.int .i64 a0) fun o77 => ∃ b78 : Bool, valOr o77 (.bool false) = (.bool b78 : Value) ∧ J8 b78 w6)) (fun (b7 : Bool) w9 => BIf b7 (K (.bool false) w9) (∃ m10 : Option Nat, w9.cell? c1 = some (.map m10) ∧ MapPutW w9 m10 (.int .i64 a0) (.bool true) fun w11 => ∃ l12 : Sl, w11.cell? c2 = some (.slice l12.a l12.len l12.cap) ∧ LetW (w11.alloc (.cells #[.int .i64 a0] 2)) fun w13 => AppendW 2 ti2 l12 ⟨some ⟨w11.heap.size, 0, none⟩, 1, 1⟩ w13 fun l14 w15 => May w15 c2 ∧ LetW (w15.setCell c2 (.slice l14.a l14.len l14.cap)) fun w16 => LoopW [.bool, .int .i64] (fun J19 => fun (b17 : Bool) (n18 : Int) w20 => BIf (decide ((n18 : Int) < 32)) (∃ p21 : Option Addr, w20.cell? c3 = some (.pointer p21) ∧ CallW Tryz.prog 69 #[.pointer p21, .int .i64 a0, .int .i64 n18] w20 fun v22 w23 => ∃ n24 : Int, v22 = .int .u64 n24 ∧ BIf ((n24 : Int) == 0) (J19 b17 (IntKind.wrap .i64 (n18 + 1)) w23) (CallW Tryz.prog 38 #[.int .u64 n24] w23 fun v25 w26 => ∃ b27 : Bool, ∃ b28 : Bool, ∃ b29 : Bool, ∃ b30 : Bool, ∃ b31 : Bool, ∃ b32 : Bool, ∃ b33 : Bool, ∃ b34 : Bool, ∃ n35 : Int, v25 = .agg #[.bool b27, .bool b28, .bool b29, .bool b30, .bool b31, .bool b32, .bool b33, .bool b34, .int .i64 n35] ∧ LetW (w26.alloc (.cells #[.bool false, .bool false, .bool false, .bool false, .bool false, .bool false, .bool false, .bool false, .int .i64 0] 42)) fun w36 => MayN w36 ⟨w26.heap.size, 0, none⟩ 9 ∧ LetW (puts w36 ⟨w26.heap.size, 0, none⟩ 0 [.bool b27, .bool b28, .bool b29, .bool b30, .bool b31, .bool b32, .bool b33, .bool b34, .int .i64 n35]) fun w37 => ∃ b38 : Bool, w37.cell? ⟨w26.heap.size, 0, none⟩ = some (.bool b38) ∧ JoinW [.bool] (fun J40 => BIf (!b38) (J40 true w37) (0 ≤ (20 : Int) ∧ J40 ((shrI .u64 n24 20 : Int) != 0) w37)) (fun (b39 : Bool) w41 => BIf b39 (K (.bool false) w41) (∃ b42 : Bool, w41.cell? ⟨w26.heap.size, 1, none⟩ = some (.bool b42) ∧ JoinW [.bool] (fun J44 => BIf b42 (J44 true w41) (∃ b75 : Bool, w41.cell? ⟨w26.heap.size, 2, none⟩ = some (.bool b75) ∧ J44 b75 w41)) (fun (b43 : Bool) w45 => JoinW [.bool] (fun J47 => BIf b43 (J47 true w45) (∃ b74 : Bool, w45.cell? ⟨w26.heap.size, 3, none⟩ = some (.bool b74) ∧ J47 b74 w45)) (fun (b46 : Bool) w48 => BIf b46 (JoinW [.bool] (fun J50 => BIf ((a1 : Int) != 0) (J50 true w48) (∃ b52 : Bool, w48.cell? ⟨w26.heap.size, 2, none⟩ = some (.bool b52) ∧ BIf b52 (∃ b53 : Bool, w48.cell? ⟨w26.heap.size, 1, none⟩ = some (.bool b53) ∧ J50 (!b53) w48) (J50 false w48))) (fun (b49 : Bool) w51 => BIf b49 (K (.bool false) w51) (J19 true (IntKind.wrap .i64 (n18 + 1)) w51))) (JoinW [.bool] (fun J55 => BIf ((a1 : Int) == 0) (J55 true w48) (∃ b73 : Bool, w48.cell? ⟨w26.heap.size, 4, none⟩ = some (.bool b73) ∧ J55 b73 w48)) (fun (b54 : Bool) w56 => JoinW [.bool] (fun J58 => BIf b54 (J58 true w56) (∃ b72 : Bool, w56.cell? ⟨w26.heap.size, 5, none⟩ = some (.bool b72) ∧ J58 b72 w56)) (fun (b57 : Bool) w59 => JoinW [.bool] (fun J61 => BIf b57 (J61 true w59) (∃ b71 : Bool, w59.cell? ⟨w26.heap.size, 6, none⟩ = some (.bool b71) ∧ J61 b71 w59)) (fun (b60 : Bool) w62 => JoinW [.bool] (fun J64 => BIf b60 (J64 true w62) (∃ f66 : FnV, w62.cell? c4 = some (.func (.func f66.g) ⟨f66.x⟩ ⟨f66.c⟩) ∧ ∃ n67 : Int, w62.cell? ⟨w26.heap.size, 8, none⟩ = some (.int .i64 n67) ∧ CallW Tryz.prog f66.g ⟨f66.x ++ ([.int .i64 n67, .int .i64 (IntKind.wrap .i64 (a1 - 1))] ++ f66.c)⟩ w62 fun v68 w69 => ∃ b70 : Bool, v68 = .bool b70 ∧ J64 (!b70) w69)) (fun (b63 : Bool) w65 => BIf b63 (K (.bool false) w65) (J19 true (IntKind.wrap .i64 (n18 + 1)) w65)))))))))))) (K (.bool b17) w20)) (((a1 : Int) == 2 : Bool), ((0 : Int), ())) w16))))
theorem eq87 (a0 : Int) (a1 : Int) (c0 : Addr) (c1 : Addr) (c2 : Addr) (c3 : Addr) (c4 : Addr) (w : World) (K : Value → World → Prop) : denFn Tryz.prog tt Tryz.f87 an87 [.int .i64 a0, .int .i64 a1, .pointer (some c0), .pointer (some c1), .pointer (some c2), .pointer (some c3), .pointer (some c4)] w K = W87 a0 a1 c0 c1 c2 c3 c4 w K := by kernel_rfl
theorem ok87 : OkFn Tryz.prog 87 := ⟨Tryz.f87, Tryz.func87, by kernel_rfl, by kernel_rfl⟩
theorem go87 {a0 : Int} {a1 : Int} {c0 : Addr} {c1 : Addr} {c2 : Addr} {c3 : Addr} {c4 : Addr} {w : World} {K : Value → World → Prop} (h : W87 a0 a1 c0 c1 c2 c3 c4 w K) : CallW Tryz.prog 87 #[.int .i64 a0, .int .i64 a1, .pointer (some c0), .pointer (some c1), .pointer (some c2), .pointer (some c3), .pointer (some c4)] w K :=
  .inl ⟨ok87, denFn_sound tt_ok mix Tryz.func87 (by kernel_rfl) (eq87 a0 a1 c0 c1 c2 c3 c4 w K ▸ h)⟩

/- loop.example/g00008/impl.translate -/
def an88 : Ann := (.seq .leaf (.seq .leaf (.seq .leaf (.in_ (.loop 1053 [(11, .int .i64), (12, .ptr)] (.seq (.in_ (.seq (.seq (.reg [(3, none), (6, some (7197, [(32, .bool)]))]) (.cond (.seq .leaf .leaf) .leaf)) (.seq .leaf (.seq .leaf (.seq .leaf (.seq .leaf (.seq .leaf (.seq (.seq .leaf (.cond (.seq .leaf .leaf) .leaf)) (.seq (.seq (.reg [(4, none), (8, some (422941, [(72, .bool)]))]) (.cond (.seq .leaf .leaf) .leaf)) (.seq (.seq (.reg [(4, none), (4, some (422941, [(82, .bool)])), (1, none), (4, some (422941, [(87, .bool)]))]) (.cond (.seq (.seq (.reg [(3, none), (3, some (398365, [(93, .bool)])), (1, none), (3, some (398365, [(97, .bool)])), (1, none), (3, some (398365, [(101, .bool)]))]) (.cond (.seq .leaf .leaf) .leaf)) (.seq .leaf .leaf)) .leaf)) (.seq (.seq (.draw [0, 1, 0, 4, 12, 31, 63] [0, 1, 2, 3, 4, 5, 6]) (.cond (.seq .leaf .leaf) .leaf)) (.seq (.seq (.reg [(2, none), (4, some (422924, [(120, .bool)]))]) (.cond (.seq .leaf .leaf) .leaf)) (.seq (.seq (.reg [(3, none), (3, some (422924, [(128, .bool)])), (1, none), (7, some (422924, [(136, .bool)])), (1, none), (7, some (422924, [(144, .bool)])), (1, none)]) (.cond (.seq .leaf .leaf) .leaf)) (.seq .leaf (.join 160772 [] (.seq .leaf (.cond .leaf .leaf)) (.seq .leaf (.seq (.draw [0, 0, 0, 4, 12, 0, 0, 64, 192, 480, 992, 2044, 0, 8191, 16383] [0, 1, 2, 3, 4, 5, 6, 7, 8, 9, 10, 11, 12, 13, 14]) .leaf))))))))))))))))) (.seq (.seq .leaf .leaf) .leaf)))))))
def W88 (a0 : Sl) (a1 : Int) (a2 : Int) (a3 : Int) (a4 : Bool) (w : World) (K : Value → World → Prop) : Prop :=
  LetW (w.alloc (.cells #[.int .i64 0, .int .i64 0, .int .i64 0, .int .i64 0, .int .u64 0] 55)) fun w1 => LetW (w1.alloc (.cells #[.int .i64 0] 2)) fun w2 => May w2 ⟨w1.heap.size, 0, none⟩ ∧ LetW (w2.setCell ⟨w1.heap.size, 0, none⟩ (.int .i64 2)) fun w3 => LoopW [.int .i64, .ptr] (fun J6 => fun (n4 : Int) (p5 : Option Addr) w7 => JoinW [.bool] (fun J9 => BIf (decide ((n4 : Int) < 0)) (J9 true w7) ((256 : Int) ≠ 0 ∧ J9 (decide ((n4 : Int) ≥ (IntKind.wrap .i64 (Int.tdiv ((a0.len : Nat) : Int) 256)))) w7)) (fun (b8 : Bool) w10 => BIf b8 (addrOf (some (.pointer p5)) fun p11 => ∃ n12 : Int, w10.cell? p11 = some (.int .i64 n12) ∧ MayN w10 ⟨w.heap.size, 0, none⟩ 5 ∧ LetW (puts w10 ⟨w.heap.size, 0, none⟩ 0 [.int .i64 3, .int .i64 n12, .int .i64 0, .int .i64 0, .int .u64 0]) fun w13 => ∃ n14 : Int, w13.cell? ⟨w.heap.size, 0, none⟩ = some (.int .i64 n14) ∧ ∃ n15 : Int, w13.cell? ⟨w.heap.size, 1, none⟩ = some (.int .i64 n15) ∧ ∃ n16 : Int, w13.cell? ⟨w.heap.size, 2, none⟩ = some (.int .i64 n16) ∧ ∃ n17 : Int, w13.cell? ⟨w.heap.size, 3, none⟩ = some (.int .i64 n17) ∧ ∃ n18 : Int, w13.cell? ⟨w.heap.size, 4, none⟩ = some (.int .u64 n18) ∧ K (.agg #[.int .i64 n14, .int .i64 n15, .int .i64 n16, .int .i64 n17, .int .u64 n18]) w13) (addrOf (some (.pointer p5)) fun p19 => ∃ n20 : Int, w10.cell? p19 = some (.int .i64 n20) ∧ 0 ≤ (IntKind.wrap .i64 (8 + (IntKind.wrap .i64 (5 * n20))) : Int) ∧ LetW (w10.alloc (.cells #[.int .i64 0] 2)) fun w21 => May w21 ⟨w10.heap.size, 0, none⟩ ∧ LetW (w21.setCell ⟨w10.heap.size, 0, none⟩ (.int .i64 (IntKind.wrap .i64 ((IntKind.wrap .i64 (n4 * 256)) + (IntKind.wrap .i64 ((IntKind.wrap .i64 (andI .u64 (shrI .u64 a2 (IntKind.wrap .i64 (8 + (IntKind.wrap .i64 (5 * n20))))) 31)) * 8)))))) fun w22 => ∃ n23 : Int, w22.cell? ⟨w10.heap.size, 0, none⟩ = some (.int .i64 n23) ∧ CallW Tryz.prog 89 #[.slice a0.a a0.len a0.cap, .int .i64 n23, .int .i64 8, .bool false] w22 fun v24 w25 => ∃ n26 : Int, ∃ b27 : Bool, v24 = .tuple #[.int .u64 n26, .bool b27] ∧ CallW Tryz.prog 38 #[.int .u64 n26] w25 fun v28 w29 => ∃ b30 : Bool, ∃ b31 : Bool, ∃ b32 : Bool, ∃ b33 : Bool, ∃ b34 : Bool, ∃ b35 : Bool, ∃ b36 : Bool, ∃ b37 : Bool, ∃ n38 : Int, v28 = .agg #[.bool b30, .bool b31, .bool b32, .bool b33, .bool b34, .bool b35, .bool b36, .bool b37, .int .i64 n38] ∧ LetW (w29.alloc (.cells #[.bool false, .bool false, .bool false, .bool false, .bool false, .bool false, .bool false, .bool false, .int .i64 0] 42)) fun w39 => MayN w39 ⟨w29.heap.size, 0, none⟩ 9 ∧ LetW (puts w39 ⟨w29.heap.size, 0, none⟩ 0 [.bool b30, .bool b31, .bool b32, .bool b33, .bool b34, .bool b35, .bool b36, .bool b37, .int .i64 n38]) fun w40 => ∃ b41 : Bool, w40.cell? ⟨w29.heap.size, 0, none⟩ = some (.bool b41) ∧ BIf (!b41) (CallW Tryz.prog 117 #[.int .i64 4, .pointer p5, .pointer (some ⟨w10.heap.size, 0, none⟩)] w40 fun v42 w43 => ∃ n44 : Int, ∃ n45 : Int, ∃ n46 : Int, ∃ n47 : Int, ∃ n48 : Int, v42 = .agg #[.int .i64 n44, .int .i64 n45, .int .i64 n46, .int .i64 n47, .int .u64 n48] ∧ MayN w43 ⟨w.heap.size, 0, none⟩ 5 ∧ LetW (puts w43 ⟨w.heap.size, 0, none⟩ 0 [.int .i64 n44, .int .i64 n45, .int .i64 n46, .int .i64 n47, .int .u64 n48]) fun w49 => ∃ n50 : Int, w49.cell? ⟨w.heap.size, 0, none⟩ = some (.int .i64 n50) ∧ ∃ n51 : Int, w49.cell? ⟨w.heap.size, 1, none⟩ = some (.int .i64 n51) ∧ ∃ n52 : Int, w49.cell? ⟨w.heap.size, 2, none⟩ = some (.int .i64 n52) ∧ ∃ n53 : Int, w49.cell? ⟨w.heap.size, 3, none⟩ = some (.int .i64 n53) ∧ ∃ n54 : Int, w49.cell? ⟨w.heap.size, 4, none⟩ = some (.int .u64 n54) ∧ K (.agg #[.int .i64 n50, .int .i64 n51, .int .i64 n52, .int .i64 n53, .int .u64 n54]) w49) (0 ≤ (20 : Int) ∧ JoinW [.bool] (fun J56 => BIf ((shrI .u64 n26 20 : Int) != 0) (J56 true w40) (∃ b199 : Bool, w40.cell? ⟨w29.heap.size, 2, none⟩ = some (.bool b199) ∧ BIf b199 (∃ b200 : Bool, w40.cell? ⟨w29.heap.size, 1, none⟩ = some (.bool b200) ∧ J56 (!b200) w40) (J56 false w40))) (fun (b55 : Bool) w57 => BIf b55 (CallW Tryz.prog 117 #[.int .i64 5, .pointer p5, .pointer (some ⟨w10.heap.size, 0, none⟩)] w57 fun v58 w59 => ∃ n60 : Int, ∃ n61 : Int, ∃ n62 : Int, ∃ n63 : Int, ∃ n64 : Int, v58 = .agg #[.int .i64 n60, .int .i64 n61, .int .i64 n62, .int .i64 n63, .int .u64 n64] ∧ MayN w59 ⟨w.heap.size, 0, none⟩ 5 ∧ LetW (puts w59 ⟨w.heap.size, 0, none⟩ 0 [.int .i64 n60, .int .i64 n61, .int .i64 n62, .int .i64 n63, .int .u64 n64]) fun w65 => ∃ n66 : Int, w65.cell? ⟨w.heap.size, 0, none⟩ = some (.int .i64 n66) ∧ ∃ n67 : Int, w65.cell? ⟨w.heap.size, 1, none⟩ = some (.int .i64 n67) ∧ ∃ n68 : Int, w65.cell? ⟨w.heap.size, 2, none⟩ = some (.int .i64 n68) ∧ ∃ n69 : Int, w65.cell? ⟨w.heap.size, 3, none⟩ = some (.int .i64 n69) ∧ ∃ n70 : Int, w65.cell? ⟨w.heap.size, 4, none⟩ = some (.int .u64 n70) ∧ K (.agg #[.int .i64 n66, .int .i64 n67, .int .i64 n68, .int .i64 n69, .int .u64 n70]) w65) (∃ b71 : Bool, w57.cell? ⟨w29.heap.size, 1, none⟩ = some (.bool b71) ∧ JoinW [.bool] (fun J73 => BIf (!b71) (∃ b198 : Bool, w57.cell? ⟨w29.heap.size, 2, none⟩ = some (.bool b198) ∧ J73 (!b198) w57) (J73 false w57)) (fun (b72 : Bool) w74 => JoinW [.bool] (fun J76 => BIf b72 (∃ b197 : Bool, w74.cell? ⟨w29.heap.size, 3, none⟩ = some (.bool b197) ∧ J76 (!b197) w74) (J76 false w74)) (fun (b75 : Bool) w77 => BIf b75 (∃ b78 : Bool, w77.cell? ⟨w29.heap.size, 4, none⟩ = some (.bool b78) ∧ JoinW [.bool] (fun J80 => BIf b78 (J80 true w77) (∃ b111 : Bool, w77.cell? ⟨w29.heap.size, 5, none⟩ = some (.bool b111) ∧ J80 b111 w77)) (fun (b79 : Bool) w81 => JoinW [.bool] (fun J83 => BIf b79 (J83 true w81) (∃ b110 : Bool, w81.cell? ⟨w29.heap.size, 6, none⟩ = some (.bool b110) ∧ J83 b110 w81)) (fun (b82 : Bool) w84 => JoinW [.bool] (fun J86 => BIf b82 (J86 true w84) (addrOf (some (.pointer p5)) fun p108 => ∃ n109 : Int, w84.cell? p108 = some (.int .i64 n109) ∧ J86 ((n109 : Int) == 0) w84)) (fun (b85 : Bool) w87 => BIf b85 (CallW Tryz.prog 117 #[.int .i64 5, .pointer p5, .pointer (some ⟨w10.heap.size, 0, none⟩)] w87 fun v88 w89 => ∃ n90 : Int, ∃ n91 : Int, ∃ n92 : Int, ∃ n93 : Int, ∃ n94 : Int, v88 = .agg #[.int .i64 n90, .int .i64 n91, .int .i64 n92, .int .i64 n93, .int .u64 n94] ∧ MayN w89 ⟨w.heap.size, 0, none⟩ 5 ∧ LetW (puts w89 ⟨w.heap.size, 0, none⟩ 0 [.int .i64 n90, .int .i64 n91, .int .i64 n92, .int .i64 n93, .int .u64 n94]) fun w95 => ∃ n96 : Int, w95.cell? ⟨w.heap.size, 0, none⟩ = some (.int .i64 n96) ∧ ∃ n97 : Int, w95.cell? ⟨w.heap.size, 1, none⟩ = some (.int .i64 n97) ∧ ∃ n98 : Int, w95.cell? ⟨w.heap.size, 2, none⟩ = some (.int .i64 n98) ∧ ∃ n99 : Int, w95.cell? ⟨w.heap.size, 3, none⟩ = some (.int .i64 n99) ∧ ∃ n100 : Int, w95.cell? ⟨w.heap.size, 4, none⟩ = some (.int .u64 n100) ∧ K (.agg #[.int .i64 n96, .int .i64 n97, .int .i64 n98, .int .i64 n99, .int .u64 n100]) w95) (∃ n101 : Int, w87.cell? ⟨w29.heap.size, 8, none⟩ = some (.int .i64 n101) ∧ addrOf (some (.pointer p5)) fun p102 => ∃ n103 : Int, w87.cell? p102 = some (.int .i64 n103) ∧ LetW (w87.alloc (.cells #[.int .i64 0] 2)) fun w104 => May w104 ⟨w87.heap.size, 0, none⟩ ∧ LetW (w104.setCell ⟨w87.heap.size, 0, none⟩ (.int .i64 n103)) fun w105 => ∃ n106 : Int, w105.cell? ⟨w87.heap.size, 0, none⟩ = some (.int .i64 n106) ∧ May w105 ⟨w87.heap.size, 0, none⟩ ∧ LetW (w105.setCell ⟨w87.heap.size, 0, none⟩ (.int .i64 (IntKind.wrap .i64 (n106 - 1)))) fun w107 => J6 n101 (some ⟨w87.heap.size, 0, none⟩) w107))))) (∃ n112 : Int, w77.drew.cell? ⟨w29.heap.size, 8, none⟩ = some (.int .i64 n112) ∧ addrOf (some (.pointer p5)) fun p113 => ∃ n114 : Int, w77.drew.cell? p113 = some (.int .i64 n114) ∧ 0 ≤ (IntKind.wrap .i64 (5 * n114) : Int) ∧ (shlI .i64 1 (IntKind.wrap .i64 (5 * n114)) : Int) ≠ 0 ∧ BIf ((Int.tmod n112 (shlI .i64 1 (IntKind.wrap .i64 (5 * n114))) : Int) != 0) (CallW Tryz.prog 117 #[.int .i64 6, .pointer p5, .pointer (some ⟨w10.heap.size, 0, none⟩)] w77.drew fun v115 w116 => ∃ n117 : Int, ∃ n118 : Int, ∃ n119 : Int, ∃ n120 : Int, ∃ n121 : Int, v115 = .agg #[.int .i64 n117, .int .i64 n118, .int .i64 n119, .int .i64 n120, .int .u64 n121] ∧ MayN w116 ⟨w.heap.size, 0, none⟩ 5 ∧ LetW (puts w116 ⟨w.heap.size, 0, none⟩ 0 [.int .i64 n117, .int .i64 n118, .int .i64 n119, .int .i64 n120, .int .u64 n121]) fun w122 => ∃ n123 : Int, w122.cell? ⟨w.heap.size, 0, none⟩ = some (.int .i64 n123) ∧ ∃ n124 : Int, w122.cell? ⟨w.heap.size, 1, none⟩ = some (.int .i64 n124) ∧ ∃ n125 : Int, w122.cell? ⟨w.heap.size, 2, none⟩ = some (.int .i64 n125) ∧ ∃ n126 : Int, w122.cell? ⟨w.heap.size, 3, none⟩ = some (.int .i64 n126) ∧ ∃ n127 : Int, w122.cell? ⟨w.heap.size, 4, none⟩ = some (.int .u64 n127) ∧ K (.agg #[.int .i64 n123, .int .i64 n124, .int .i64 n125, .int .i64 n126, .int .u64 n127]) w122) (JoinW [.bool] (fun J129 => BIf a4 (∃ b196 : Bool, w77.drew.cell? ⟨w29.heap.size, 4, none⟩ = some (.bool b196) ∧ J129 (!b196) w77.drew) (J129 false w77.drew)) (fun (b128 : Bool) w130 => BIf b128 (CallW Tryz.prog 117 #[.int .i64 7, .pointer p5, .pointer (some ⟨w10.heap.size, 0, none⟩)] w130 fun v131 w132 => ∃ n133 : Int, ∃ n134 : Int, ∃ n135 : Int, ∃ n136 : Int, ∃ n137 : Int, v131 = .agg #[.int .i64 n133, .int .i64 n134, .int .i64 n135, .int .i64 n136, .int .u64 n137] ∧ MayN w132 ⟨w.heap.size, 0, none⟩ 5 ∧ LetW (puts w132 ⟨w.heap.size, 0, none⟩ 0 [.int .i64 n133, .int .i64 n134, .int .i64 n135, .int .i64 n136, .int .u64 n137]) fun w138 => ∃ n139 : Int, w138.cell? ⟨w.heap.size, 0, none⟩ = some (.int .i64 n139) ∧ ∃ n140 : Int, w138.cell? ⟨w.heap.size, 1, none⟩ = some (.int .i64 n140) ∧ ∃ n141 : Int, w138.cell? ⟨w.heap.size, 2, none⟩ = some (.int .i64 n141) ∧ ∃ n142 : Int, w138.cell? ⟨w.heap.size, 3, none⟩ = some (.int .i64 n142) ∧ ∃ n143 : Int, w138.cell? ⟨w.heap.size, 4, none⟩ = some (.int .u64 n143) ∧ K (.agg #[.int .i64 n139, .int .i64 n140, .int .i64 n141, .int .i64 n142, .int .u64 n143]) w138) (JoinW [.bool] (fun J145 => BIf ((a3 : Int) == 0) (∃ b195 : Bool, w130.cell? ⟨w29.heap.size, 1, none⟩ = some (.bool b195) ∧ J145 b195 w130) (J145 false w130)) (fun (b144 : Bool) w146 => JoinW [.bool] (fun J148 => BIf b144 (J148 true w146) (BIf ((a3 : Int) == 1) (∃ b194 : Bool, w146.cell? ⟨w29.heap.size, 2, none⟩ = some (.bool b194) ∧ J148 b194 w146) (J148 false w146))) (fun (b147 : Bool) w149 => JoinW [.bool] (fun J151 => BIf b147 (J151 true w149) (BIf ((a3 : Int) == 2) (∃ b193 : Bool, w149.cell? ⟨w29.heap.size, 3, none⟩ = some (.bool b193) ∧ J151 b193 w149) (J151 false w149))) (fun (b150 : Bool) w152 => BIf (!b150) (CallW Tryz.prog 117 #[.int .i64 8, .pointer p5, .pointer (some ⟨w10.heap.size, 0, none⟩)] w152 fun v153 w154 => ∃ n155 : Int, ∃ n156 : Int, ∃ n157 : Int, ∃ n158 : Int, ∃ n159 : Int, v153 = .agg #[.int .i64 n155, .int .i64 n156, .int .i64 n157, .int .i64 n158, .int .u64 n159] ∧ MayN w154 ⟨w.heap.size, 0, none⟩ 5 ∧ LetW (puts w154 ⟨w.heap.size, 0, none⟩ 0 [.int .i64 n155, .int .i64 n156, .int .i64 n157, .int .i64 n158, .int .u64 n159]) fun w160 => ∃ n161 : Int, w160.cell? ⟨w.heap.size, 0, none⟩ = some (.int .i64 n161) ∧ ∃ n162 : Int, w160.cell? ⟨w.heap.size, 1, none⟩ = some (.int .i64 n162) ∧ ∃ n163 : Int, w160.cell? ⟨w.heap.size, 2, none⟩ = some (.int .i64 n163) ∧ ∃ n164 : Int, w160.cell? ⟨w.heap.size, 3, none⟩ = some (.int .i64 n164) ∧ ∃ n165 : Int, w160.cell? ⟨w.heap.size, 4, none⟩ = some (.int .u64 n165) ∧ K (.agg #[.int .i64 n161, .int .i64 n162, .int .i64 n163, .int .i64 n164, .int .u64 n165]) w160) (May w152 ⟨w29.heap.size, 5, none⟩ ∧ LetW (w152.setCell ⟨w29.heap.size, 5, none⟩ (.bool true)) fun w166 => JoinW [] (fun J167 => BIf ((a3 : Int) == 1) (May w166 ⟨w29.heap.size, 6, none⟩ ∧ LetW (w166.setCell ⟨w29.heap.size, 6, none⟩ (.bool true)) fun w192 => J167 w192) (J167 w166)) (fun w168 => ∃ b169 : Bool, w168.cell? ⟨w29.heap.size, 0, none⟩ = some (.bool b169) ∧ ∃ b170 : Bool, w168.cell? ⟨w29.heap.size, 1, none⟩ = some (.bool b170) ∧ ∃ b171 : Bool, w168.cell? ⟨w29.heap.size, 2, none⟩ = some (.bool b171) ∧ ∃ b172 : Bool, w168.cell? ⟨w29.heap.size, 3, none⟩ = some (.bool b172) ∧ ∃ b173 : Bool, w168.cell? ⟨w29.heap.size, 4, none⟩ = some (.bool b173) ∧ ∃ b174 : Bool, w168.cell? ⟨w29.heap.size, 5, none⟩ = some (.bool b174) ∧ ∃ b175 : Bool, w168.cell? ⟨w29.heap.size, 6, none⟩ = some (.bool b175) ∧ ∃ b176 : Bool, w168.cell? ⟨w29.heap.size, 7, none⟩ = some (.bool b176) ∧ ∃ n177 : Int, w168.cell? ⟨w29.heap.size, 8, none⟩ = some (.int .i64 n177) ∧ CallW Tryz.prog 18 #[.agg #[.bool b169, .bool b170, .bool b171, .bool b172, .bool b173, .bool b174, .bool b175, .bool b176, .int .i64 n177]] w168 fun v178 w179 => ∃ n180 : Int, ∃ b181 : Bool, v178 = .tuple #[.int .u64 n180, .bool b181] ∧ addrOf (some (.pointer p5)) fun p182 => ∃ n183 : Int, w179.drew.cell? p182 = some (.int .i64 n183) ∧ ∃ n184 : Int, w179.drew.cell? ⟨w10.heap.size, 0, none⟩ = some (.int .i64 n184) ∧ ∃ n185 : Int, w179.drew.cell? ⟨w29.heap.size, 8, none⟩ = some (.int .i64 n185) ∧ 0 ≤ (IntKind.wrap .i64 (8 + (IntKind.wrap .i64 (5 * n20))) : Int) ∧ MayN w179.drew ⟨w.heap.size, 0, none⟩ 5 ∧ LetW (puts w179.drew ⟨w.heap.size, 0, none⟩ 0 [.int .i64 0, .int .i64 n183, .int .i64 n184, .int .i64 (IntKind.wrap .i64 ((IntKind.wrap .i64 (n185 * 256)) + (IntKind.wrap .i64 (andI .u64 a2 (IntKind.wrap .u64 ((shlI .u64 1 (IntKind.wrap .i64 (8 + (IntKind.wrap .i64 (5 * n20))))) - 1)))))), .int .u64 n180]) fun w186 => ∃ n187 : Int, w186.cell? ⟨w.heap.size, 0, none⟩ = some (.int .i64 n187) ∧ ∃ n188 : Int, w186.cell? ⟨w.heap.size, 1, none⟩ = some (.int .i64 n188) ∧ ∃ n189 : Int, w186.cell? ⟨w.heap.size, 2, none⟩ = some (.int .i64 n189) ∧ ∃ n190 : Int, w186.cell? ⟨w.heap.size, 3, none⟩ = some (.int .i64 n190) ∧ ∃ n191 : Int, w186.cell? ⟨w.heap.size, 4, none⟩ = some (.int .u64 n191) ∧ K (.agg #[.int .i64 n187, .int .i64 n188, .int .i64 n189, .int .i64 n190, .int .u64 n191]) w186))))))))))))))))) ((a1 : Int), ((some ⟨w1.heap.size, 0, none⟩ : Option Addr), ())) w3
theorem eq88 (a0 : Sl) (a1 : Int) (a2 : Int) (a3 : Int) (a4 : Bool) (w : World) (K : Value → World → Prop) : denFn Tryz.prog tt Tryz.f88 an88 [.slice a0.a a0.len a0.cap, .int .i64 a1, .int .u64 a2, .int .i64 a3, .bool a4] w K = W88 a0 a1 a2 a3 a4 w K := by kernel_rfl
theorem ok88 : OkFn Tryz.prog 88 := ⟨Tryz.f88, Tryz.func88, by kernel_rfl, by kernel_rfl⟩
theorem go88 {a0 : Sl} {a1 : Int} {a2 : Int} {a3 : Int} {a4 : Bool} {w : World} {K : Value → World → Prop} (h : W88 a0 a1 a2 a3 a4 w K) : CallW Tryz.prog 88 #[.slice a0.a a0.len a0.cap, .int .i64 a1, .int .u64 a2, .int .i64 a3, .bool a4] w K :=
  .inl ⟨ok88, denFn_sound tt_ok mix Tryz.func88 (by kernel_rfl) (eq88 a0 a1 a2 a3 a4 w K ▸ h)⟩

/- loop.example/g00008/impl.LoadWord -/
def an89 : Ann := (.seq .leaf (.seq (.seq (.reg [(4, none), (7, some (15, [(22, .bool)]))]) (.cond (.seq .leaf .leaf) .leaf)) (.seq .leaf (.seq (.seq .leaf (.in_ (.loop 15 [(10, .int .u64), (11, .int .i64)] (.seq (.seq .leaf (.cond .leaf .leaf)) (.seq (.in_ .leaf) .leaf))))) (.seq (.seq .leaf (.cond .leaf .leaf)) (.seq .leaf .leaf))))))
def W89 (a0 : Sl) (a1 : Int) (a2 : Int) (a3 : Bool) (w : World) (K : Value → World → Prop) : Prop :=
  CallW Tryz.prog 118 #[.int .i64 a2] w fun v1 w2 => ∃ b3 : Bool, v1 = .bool b3 ∧ JoinW [.bool] (fun J5 => BIf (!b3) (J5 true w2) (CallW Tryz.prog 119 #[.int .i64 ((a0.len : Nat) : Int), .int .i64 a1, .int .i64 a2] w2 fun v16 w17 => ∃ b18 : Bool, v16 = .bool b18 ∧ J5 (!b18) w17)) (fun (b4 : Bool) w6 => BIf b4 (K (.tuple #[.int .u64 0, .bool false]) w6) (LoopW [.int .u64, .int .i64] (fun J9 => fun (n7 : Int) (n8 : Int) w10 => BIf (decide ((n8 : Int) ≥ 0)) (0 ≤ (8 : Int) ∧ 0 ≤ (IntKind.wrap .i64 (a1 + n8) : Int) ∧ (IntKind.wrap .i64 (a1 + n8) : Int) < ((a0.len : Nat) : Int) ∧ ∃ q11 : Addr, (a0.a : Option Addr) = some q11 ∧ ∃ n12 : Int, w10.cell? (q11.add (Int.toNat (IntKind.wrap .i64 (a1 + n8)) * 1)) = some (.int .u8 n12) ∧ J9 (orI .u64 (shlI .u64 n7 8) (IntKind.wrap .u64 n12)) (IntKind.wrap .i64 (n8 - 1)) w10) (BIf a3 (CallW Tryz.prog 120 #[.int .u64 n7, .int .i64 (IntKind.wrap .i64 (8 * a2))] w10 fun v13 w14 => ∃ n15 : Int, v13 = .int .u64 n15 ∧ K (.tuple #[.int .u64 n15, .bool true]) w14) (K (.tuple #[.int .u64 n7, .bool true]) w10))) ((0 : Int), ((IntKind.wrap .i64 (a2 - 1) : Int), ())) w6))
theorem eq89 (a0 : Sl) (a1 : Int) (a2 : Int) (a3 : Bool) (w : World) (K : Value → World → Prop) : denFn Tryz.prog tt Tryz.f89 an89 [.slice a0.a a0.len a0.cap, .int .i64 a1, .int .i64 a2, .bool a3] w K = W89 a0 a1 a2 a3 w K := by kernel_rfl
theorem ok89 : OkFn Tryz.prog 89 := ⟨Tryz.f89, Tryz.func89, by kernel_rfl, by kernel_rfl⟩
theorem go89 {a0 : Sl} {a1 : Int} {a2 : Int} {a3 : Bool} {w : World} {K : Value → World → Prop} (h : W89 a0 a1 a2 a3 w K) : CallW Tryz.prog 89 #[.slice a0.a a0.len a0.cap, .int .i64 a1, .int .i64 a2, .bool a3] w K :=
  .inl ⟨ok89, denFn_sound tt_ok mix Tryz.func89 (by kernel_rfl) (eq89 a0 a1 a2 a3 w K ▸ h)⟩

/- loop.example/g00008/impl.entryOf$1 -/
def an90 : Ann := (.seq .leaf (.seq .leaf .leaf))
def W90 (a0 : Int) (c0 : Addr) (w : World) (K : Value → World → Prop) : Prop :=
  ∃ n1 : Int, w.cell? c0 = some (.int .u64 n1) ∧ 0 ≤ (a0 : Int) ∧ K (.bool ((andI .u64 (shrI .u64 n1 a0) 1 : Int) == 1)) w
theorem eq90 (a0 : Int) (c0 : Addr) (w : World) (K : Value → World → Prop) : denFn Tryz.prog tt Tryz.f90 an90 [.int .i64 a0, .pointer (some c0)] w K = W90 a0 c0 w K := by kernel_rfl
theorem ok90 : OkFn Tryz.prog 90 := ⟨Tryz.f90, Tryz.func90, by kernel_rfl, by kernel_rfl⟩
theorem go90 {a0 : Int} {c0 : Addr} {w : World} {K : Value → World → Prop} (h : W90 a0 c0 w K) : CallW Tryz.prog 90 #[.int .i64 a0, .pointer (some c0)] w K :=
  .inl ⟨ok90, denFn_sound tt_ok mix Tryz.func90 (by kernel_rfl) (eq90 a0 c0 w K ▸ h)⟩

/- (*loop.example/g00008/impl.pool).way -/
def an91 : Ann := (.seq .leaf (.seq .leaf (.seq (.seq .leaf (.in_ (.loop 5 [(7, .slice), (8, .int .i64)] (.seq (.seq .leaf (.cond .leaf .leaf)) (.seq (.in_ (.seq (.draw [0, 0, 0, 4, 12, 30, 62, 0, 0, 384, 1023, 2047] [0, 1, 2, 3, 4, 5, 6, 7, 8, 9, 10, 11]) (.seq (.seq .leaf (.cond .leaf .leaf)) .leaf))) .leaf))))) (.seq .leaf .leaf))))
def W91 (a0 : Option Addr) (a1 : Int) (a2 : Int) (w : World) (K : Value → World → Prop) : Prop :=
  LetW (w.alloc (.cells #[.int .i64 a1] 2)) fun w1 => LoopW [.slice, .int .i64] (fun J4 => fun (l2 : Sl) (n3 : Int) w5 => BIf (decide ((n3 : Int) > 0)) (0 ≤ (IntKind.wrap .i64 (((l2.len : Nat) : Int) - 1) : Int) ∧ (IntKind.wrap .i64 (((l2.len : Nat) : Int) - 1) : Int) < ((l2.len : Nat) : Int) ∧ ∃ q6 : Addr, (l2.a : Option Addr) = some q6 ∧ ∃ n7 : Int, w5.drew.cell? (q6.add (Int.toNat (IntKind.wrap .i64 (((l2.len : Nat) : Int) - 1)) * 1)) = some (.int .i64 n7) ∧ CallW Tryz.prog 41 #[.int .i64 a2, .int .i64 n3] w5.drew fun v8 w9 => ∃ n10 : Int, v8 = .int .i64 n10 ∧ (∃ n11 : Int, w9.cell? (q6.add (Int.toNat (IntKind.wrap .i64 (((l2.len : Nat) : Int) - 1)) * 1)) = some (.int .i64 n11) ∧ (.int .i64 n11 : Value) = (.int .i64 n7 : Value)) ∧ ((.int .i64 ((l2.len : Nat) : Int) : Value) = (.int .i64 ((l2.len : Nat) : Int) : Value)) ∧ CallW Tryz.prog 69 #[.pointer a0, .int .i64 n7, .int .i64 n10] w9 fun v12 w13 => ∃ n14 : Int, v12 = .int .u64 n14 ∧ BIf ((n14 : Int) == 0) (K (.slice l2.a l2.len l2.cap) w13) (CallW Tryz.prog 38 #[.int .u64 n14] w13 fun v15 w16 => ∃ b17 : Bool, ∃ b18 : Bool, ∃ b19 : Bool, ∃ b20 : Bool, ∃ b21 : Bool, ∃ b22 : Bool, ∃ b23 : Bool, ∃ b24 : Bool, ∃ n25 : Int, v15 = .agg #[.bool b17, .bool b18, .bool b19, .bool b20, .bool b21, .bool b22, .bool b23, .bool b24, .int .i64 n25] ∧ LetW (w16.alloc (.cells #[.int .i64 n25] 2)) fun w26 => AppendW 2 ti2 l2 ⟨some ⟨w16.heap.size, 0, none⟩, 1, 1⟩ w26 fun l27 w28 => J4 l27 (IntKind.wrap .i64 (n3 - 1)) w28)) (K (.slice l2.a l2.len l2.cap) w5)) ((⟨some ⟨w.heap.size, 0, none⟩, 1, 1⟩ : Sl), ((2 : Int), ())) w1
theorem eq91 (a0 : Option Addr) (a1 : Int) (a2 : Int) (w : World) (K : Value → World → Prop) : denFn Tryz.prog tt Tryz.f91 an91 [.pointer a0, .int .i64 a1, .int .i64 a2] w K = W91 a0 a1 a2 w K := by kernel_rfl
theorem ok91 : OkFn Tryz.prog 91 := ⟨Tryz.f91, Tryz.func91, by kernel_rfl, by kernel_rfl⟩
theorem go91 {a0 : Option Addr} {a1 : Int} {a2 : Int} {w : World} {K : Value → World → Prop} (h : W91 a0 a1 a2 w K) : CallW Tryz.prog 91 #[.pointer a0, .int .i64 a1, .int .i64 a2] w K :=
  .inl ⟨ok91, denFn_sound tt_ok mix Tryz.func91 (by kernel_rfl) (eq91 a0 a1 a2 w K ▸ h)⟩

/- loop.example/g00008/impl.poke -/
def an92 : Ann := (.seq .leaf (.in_ (.loop 523 [(10, .int .i64)] (.seq .leaf (.seq (.cond .leaf .leaf) (.seq (.in_ (.seq .leaf .leaf)) .leaf))))))
def W92 (a0 : Sl) (a1 : Int) (a2 : Int) (a3 : Int) (w : World) (K : Value → World → Prop) : Prop :=
  LoopW [.int .i64] (fun J2 => fun (n1 : Int) w3 => BIf (decide ((n1 : Int) < a2)) (0 ≤ (IntKind.wrap .i64 (8 * n1) : Int) ∧ 0 ≤ (IntKind.wrap .i64 (a1 + n1) : Int) ∧ (IntKind.wrap .i64 (a1 + n1) : Int) < ((a0.len : Nat) : Int) ∧ ∃ q4 : Addr, (a0.a : Option Addr) = some q4 ∧ May w3 (q4.add (Int.toNat (IntKind.wrap .i64 (a1 + n1)) * 1)) ∧ LetW (w3.setCell (q4.add (Int.toNat (IntKind.wrap .i64 (a1 + n1)) * 1)) (.int .u8 (IntKind.wrap .u8 (shrI .u64 a3 (IntKind.wrap .i64 (8 * n1)))))) fun w5 => J2 (IntKind.wrap .i64 (n1 + 1)) w5) (K (.tuple #[]) w3)) ((0 : Int), ()) w
theorem eq92 (a0 : Sl) (a1 : Int) (a2 : Int) (a3 : Int) (w : World) (K : Value → World → Prop) : denFn Tryz.prog tt Tryz.f92 an92 [.slice a0.a a0.len a0.cap, .int .i64 a1, .int .i64 a2, .int .u64 a3] w K = W92 a0 a1 a2 a3 w K := by kernel_rfl
theorem ok92 : OkFn Tryz.prog 92 := ⟨Tryz.f92, Tryz.func92, by kernel_rfl, by kernel_rfl⟩
theorem go92 {a0 : Sl} {a1 : Int} {a2 : Int} {a3 : Int} {w : World} {K : Value → World → Prop} (h : W92 a0 a1 a2 a3 w K) : CallW Tryz.prog 92 #[.slice a0.a a0.len a0.cap, .int .i64 a1, .int .i64 a2, .int .u64 a3] w K :=
  .inl ⟨ok92, denFn_sound tt_ok mix Tryz.func92 (by kernel_rfl) (eq92 a0 a1 a2 a3 w K ▸ h)⟩

/- loop.example/g00008/impl.FramesTake -/
def an93 : Ann := (.seq .leaf (.seq (.seq (.reg [(4, none), (3, some (22, [(18, .bool)])), (1, none), (3, some (22, [(22, .bool)]))]) (.cond (.seq .leaf .leaf) .leaf)) (.seq .leaf (.seq (.seq .leaf (.in_ (.loop 100663318 [(6, .int .i64), (27, .int .i64)] (.seq .leaf (.seq (.cond .leaf .leaf) (.seq (.in_ (.seq .leaf (.join 234881238 [(50, .bool)] (.draw [0, 1, 0, 7, 15, 31, 63, 127, 255, 511, 255, 1279, 255, 7423, 15615, 31999, 65535, 131071, 262143] [0, 1, 2, 3, 4, 5, 6, 7, 8, 9, 10, 11, 12, 13, 14, 15, 16, 17, 18]) (.cond .leaf .leaf)))) .leaf)))))) (.seq (.seq .leaf (.cond (.seq .leaf .leaf) .leaf)) (.seq .leaf (.seq .leaf (.seq (.seq .leaf (.in_ (.loop 36893488147419104784 [(66, .int .i64)] (.seq .leaf (.seq (.cond .leaf .leaf) (.seq (.in_ (.seq .leaf .leaf)) .leaf)))))) (.seq (.draw [0, 1, 0, 4, 3, 31] [0, 2, 3, 1, 4, 5]) .leaf)))))))))
def W93 (a0_0 : Int) (a0_1 : Sl) (a1 : Int) (w : World) (K : Value → World → Prop) : Prop :=
  LetW (w.alloc (.cells #[.int .i64 a0_0, .slice a0_1.a a0_1.len a0_1.cap] 31)) fun w1 => LetW (w1.alloc (.cells #[.int .i64 0, .slice none 0 0] 31)) fun w2 => ∃ n3 : Int, w2.cell? ⟨w.heap.size, 0, none⟩ = some (.int .i64 n3) ∧ ∃ l4 : Sl, w2.cell? ⟨w.heap.size, 1, none⟩ = some (.slice l4.a l4.len l4.cap) ∧ CallW Tryz.prog 71 #[.agg #[.int .i64 n3, .slice l4.a l4.len l4.cap]] w2 fun v5 w6 => ∃ b7 : Bool, v5 = .bool b7 ∧ JoinW [.bool] (fun J9 => BIf (!b7) (J9 true w6) (J9 (decide ((a1 : Int) < 0)) w6)) (fun (b8 : Bool) w10 => JoinW [.bool] (fun J12 => BIf b8 (J12 true w10) (J12 (decide ((a1 : Int) > 10)) w10)) (fun (b11 : Bool) w13 => BIf b11 (MayN w13 ⟨w1.heap.size, 0, none⟩ 2 ∧ LetW (puts w13 ⟨w1.heap.size, 0, none⟩ 0 [.int .i64 0, .slice none 0 0]) fun w14 => ∃ n15 : Int, w14.cell? ⟨w1.heap.size, 0, none⟩ = some (.int .i64 n15) ∧ ∃ l16 : Sl, w14.cell? ⟨w1.heap.size, 1, none⟩ = some (.slice l16.a l16.len l16.cap) ∧ K (.tuple #[.agg #[.int .i64 n15, .slice l16.a l16.len l16.cap], .int .i64 (-1)]) w14) (∃ l17 : Sl, w13.cell? ⟨w.heap.size, 1, none⟩ = some (.slice l17.a l17.len l17.cap) ∧ LoopW [.int .i64, .int .i64] (fun J20 => fun (n18 : Int) (n19 : Int) w21 => BIf (decide ((n19 : Int) < ((l17.len : Nat) : Int))) (0 ≤ (n19 : Int) ∧ (n19 : Int) < ((l17.len : Nat) : Int) ∧ ∃ q22 : Addr, (l17.a : Option Addr) = some q22 ∧ ∃ n23 : Int, w21.cell? ((q22.add (Int.toNat n19 * 2)).add 0) = some (.int .i64 n23) ∧ ∃ n24 : Int, w21.cell? ((q22.add (Int.toNat n19 * 2)).add 1) = some (.int .i64 n24) ∧ LetW (w21.alloc (.cells #[.int .i64 0, .int .i64 0] 113)) fun w25 => MayN w25 ⟨w21.heap.size, 0, none⟩ 2 ∧ LetW (puts w25 ⟨w21.heap.size, 0, none⟩ 0 [.int .i64 n23, .int .i64 n24]) fun w26 => JoinW [.bool] (fun J28 => ∃ n30 : Int, w26.drew.cell? ⟨w21.heap.size, 1, none⟩ = some (.int .i64 n30) ∧ BIf (decide ((n30 : Int) ≥ a1)) (BIf (decide ((n18 : Int) < 0)) (J28 true w26.drew) (∃ n31 : Int, w26.drew.cell? ⟨w21.heap.size, 1, none⟩ = some (.int .i64 n31) ∧ ∃ l32 : Sl, w26.drew.cell? ⟨w.heap.size, 1, none⟩ = some (.slice l32.a l32.len l32.cap) ∧ 0 ≤ (n18 : Int) ∧ (n18 : Int) < ((l32.len : Nat) : Int) ∧ ∃ q33 : Addr, (l32.a : Option Addr) = some q33 ∧ ∃ n34 : Int, w26.drew.cell? ((q33.add (Int.toNat n18 * 2)).add 1) = some (.int .i64 n34) ∧ J28 (decide ((n31 : Int) < n34)) w26.drew)) (J28 false w26.drew)) (fun (b27 : Bool) w29 => BIf b27 (J20 n19 (IntKind.wrap .i64 (n19 + 1)) w29) (J20 n18 (IntKind.wrap .i64 (n19 + 1)) w29))) (BIf (decide ((n18 : Int) < 0)) (∃ n35 : Int, w21.cell? ⟨w.heap.size, 0, none⟩ = some (.int .i64 n35) ∧ ∃ l36 : Sl, w21.cell? ⟨w.heap.size, 1, none⟩ = some (.slice l36.a l36.len l36.cap) ∧ CallW Tryz.prog 85 #[.agg #[.int .i64 n35, .slice l36.a l36.len l36.cap]] w21 fun v37 w38 => ∃ n39 : Int, ∃ l40 : Sl, v37 = .agg #[.int .i64 n39, .slice l40.a l40.len l40.cap] ∧ MayN w38 ⟨w1.heap.size, 0, none⟩ 2 ∧ LetW (puts w38 ⟨w1.heap.size, 0, none⟩ 0 [.int .i64 n39, .slice l40.a l40.len l40.cap]) fun w41 => ∃ n42 : Int, w41.cell? ⟨w1.heap.size, 0, none⟩ = some (.int .i64 n42) ∧ ∃ l43 : Sl, w41.cell? ⟨w1.heap.size, 1, none⟩ = some (.slice l43.a l43.len l43.cap) ∧ K (.tuple #[.agg #[.int .i64 n42, .slice l43.a l43.len l43.cap], .int .i64 (-1)]) w41) (∃ n44 : Int, w21.cell? ⟨w.heap.size, 0, none⟩ = some (.int .i64 n44) ∧ ∃ l45 : Sl, w21.cell? ⟨w.heap.size, 1, none⟩ = some (.slice l45.a l45.len l45.cap) ∧ CallW Tryz.prog 86 #[.agg #[.int .i64 n44, .slice l45.a l45.len l45.cap]] w21 fun v46 w47 => ∃ l48 : Sl, v46 = .slice l48.a l48.len l48.cap ∧ ∃ l49 : Sl, w47.cell? ⟨w.heap.size, 1, none⟩ = some (.slice l49.a l49.len l49.cap) ∧ 0 ≤ (n18 : Int) ∧ (n18 : Int) < ((l49.len : Nat) : Int) ∧ ∃ q50 : Addr, (l49.a : Option Addr) = some q50 ∧ ∃ n51 : Int, w47.cell? ((q50.add (Int.toNat n18 * 2)).add 0) = some (.int .i64 n51) ∧ ∃ n52 : Int, w47.cell? ((q50.add (Int.toNat n18 * 2)).add 1) = some (.int .i64 n52) ∧ LetW (w47.alloc (.cells #[.int .i64 0, .int .i64 0] 113)) fun w53 => MayN w53 ⟨w47.heap.size, 0, none⟩ 2 ∧ LetW (puts w53 ⟨w47.heap.size, 0, none⟩ 0 [.int .i64 n51, .int .i64 n52]) fun w54 => 0 ≤ (a1 : Int) ∧ LoopW [.int .i64] (fun J56 => fun (n55 : Int) w57 => BIf (decide ((n55 : Int) < (shlI .i64 1 a1))) (∃ n58 : Int, w57.cell? ⟨w47.heap.size, 0, none⟩ = some (.int .i64 n58) ∧ 0 ≤ (IntKind.wrap .i64 (n58 + n55) : Int) ∧ (IntKind.wrap .i64 (n58 + n55) : Int) < ((l48.len : Nat) : Int) ∧ ∃ q59 : Addr, (l48.a : Option Addr) = some q59 ∧ May w57 (q59.add (Int.toNat (IntKind.wrap .i64 (n58 + n55)) * 1)) ∧ LetW (w57.setCell (q59.add (Int.toNat (IntKind.wrap .i64 (n58 + n55)) * 1)) (.bool false)) fun w60 => J56 (IntKind.wrap .i64 (n55 + 1)) w60) (∃ n61 : Int, w57.drew.cell? ⟨w47.heap.size, 0, none⟩ = some (.int .i64 n61) ∧ CallW Tryz.prog 121 #[.slice l48.a l48.len l48.cap] w57.drew fun v62 w63 => ∃ n64 : Int, ∃ l65 : Sl, v62 = .agg #[.int .i64 n64, .slice l65.a l65.len l65.cap] ∧ (∃ n66 : Int, w63.cell? ⟨w47.heap.size, 0, none⟩ = some (.int .i64 n66) ∧ (.int .i64 n66 : Value) = (.int .i64 n61 : Value)) ∧ MayN w63 ⟨w1.heap.size, 0, none⟩ 2 ∧ LetW (puts w63 ⟨w1.heap.size, 0, none⟩ 0 [.int .i64 n64, .slice l65.a l65.len l65.cap]) fun w67 => (∃ n68 : Int, w67.cell? ⟨w47.heap.size, 0, none⟩ = some (.int .i64 n68) ∧ (.int .i64 n68 : Value) = (.int .i64 n61 : Value)) ∧ ∃ n69 : Int, w67.cell? ⟨w1.heap.size, 0, none⟩ = some (.int .i64 n69) ∧ ∃ l70 : Sl, w67.cell? ⟨w1.heap.size, 1, none⟩ = some (.slice l70.a l70.len l70.cap) ∧ K (.tuple #[.agg #[.int .i64 n69, .slice l70.a l70.len l70.cap], .int .i64 n61]) w67)) ((0 : Int), ()) w54))) (((-1) : Int), ((0 : Int), ())) w13)))
theorem eq93 (a0_0 : Int) (a0_1 : Sl) (a1 : Int) (w : World) (K : Value → World → Prop) : denFn Tryz.prog tt Tryz.f93 an93 [.agg #[.int .i64 a0_0, .slice a0_1.a a0_1.len a0_1.cap], .int .i64 a1] w K = W93 a0_0 a0_1 a1 w K := by kernel_rfl
theorem ok93 : OkFn Tryz.prog 93 := ⟨Tryz.f93, Tryz.func93, by kernel_rfl, by kernel_rfl⟩
theorem go93 {a0_0 : Int} {a0_1 : Sl} {a1 : Int} {w : World} {K : Value → World → Prop} (h : W93 a0_0 a0_1 a1 w K) : CallW Tryz.prog 93 #[.agg #[.int .i64 a0_0, .slice a0_1.a a0_1.len a0_1.cap], .int .i64 a1] w K :=
  .inl ⟨ok93, denFn_sound tt_ok mix Tryz.func93 (by kernel_rfl) (eq93 a0_0 a0_1 a1 w K ▸ h)⟩

/- (*loop.example/g00008/impl.pool).clear -/
def an94 : Ann := (.seq .leaf (.in_ (.loop 3 [(5, .int .i64)] (.seq .leaf (.seq (.cond .leaf .leaf) (.seq (.in_ (.seq .leaf .leaf)) .leaf))))))
def W94 (a0 : Option Addr) (a1 : Int) (w : World) (K : Value → World → Prop) : Prop :=
  LoopW [.int .i64] (fun J2 => fun (n1 : Int) w3 => BIf (decide ((n1 : Int) < 256)) (∃ p4 : Addr, (a0 : Option Addr) = some p4 ∧ ∃ l5 : Sl, w3.cell? (p4.add 0) = some (.slice l5.a l5.len l5.cap) ∧ 0 ≤ (IntKind.wrap .i64 ((IntKind.wrap .i64 (a1 * 256)) + n1) : Int) ∧ (IntKind.wrap .i64 ((IntKind.wrap .i64 (a1 * 256)) + n1) : Int) < ((l5.len : Nat) : Int) ∧ ∃ q6 : Addr, (l5.a : Option Addr) = some q6 ∧ May w3 (q6.add (Int.toNat (IntKind.wrap .i64 ((IntKind.wrap .i64 (a1 * 256)) + n1)) * 1)) ∧ LetW (w3.setCell (q6.add (Int.toNat (IntKind.wrap .i64 ((IntKind.wrap .i64 (a1 * 256)) + n1)) * 1)) (.int .u8 0)) fun w7 => J2 (IntKind.wrap .i64 (n1 + 1)) w7) (K (.tuple #[]) w3)) ((0 : Int), ()) w
theorem eq94 (a0 : Option Addr) (a1 : Int) (w : World) (K : Value → World → Prop) : denFn Tryz.prog tt Tryz.f94 an94 [.pointer a0, .int .i64 a1] w K = W94 a0 a1 w K := by kernel_rfl
theorem ok94 : OkFn Tryz.prog 94 := ⟨Tryz.f94, Tryz.func94, by kernel_rfl, by kernel_rfl⟩
theorem go94 {a0 : Option Addr} {a1 : Int} {w : World} {K : Value → World → Prop} (h : W94 a0 a1 w K) : CallW Tryz.prog 94 #[.pointer a0, .int .i64 a1] w K :=
  .inl ⟨ok94, denFn_sound tt_ok mix Tryz.func94 (by kernel_rfl) (eq94 a0 a1 w K ▸ h)⟩

/- loop.example/g00008/laws.eqBlockS -/
def an95 : Ann := (.seq .leaf (.seq (.seq .leaf (.cond (.seq .leaf .leaf) .leaf)) (.seq (.seq .leaf (.in_ (.loop 3 [(5, .int .i64)] (.seq (.seq .leaf (.cond .leaf .leaf)) (.seq (.in_ (.seq (.draw [0, 0, 3, 7, 0, 0, 48, 112, 255, 511] [0, 1, 2, 3, 4, 5, 6, 7, 8, 9]) (.cond (.seq .leaf .leaf) .leaf))) .leaf))))) (.seq .leaf .leaf))))
def W95 (a0 : Sl) (a1 : Sl) (w : World) (K : Value → World → Prop) : Prop :=
  BIf ((((a0.len : Nat) : Int) : Int) != ((a1.len : Nat) : Int)) (K (.bool false) w) (LoopW [.int .i64] (fun J2 => fun (n1 : Int) w3 => BIf (decide ((n1 : Int) < ((a0.len : Nat) : Int))) (0 ≤ (n1 : Int) ∧ (n1 : Int) < ((a0.len : Nat) : Int) ∧ ∃ q4 : Addr, (a0.a : Option Addr) = some q4 ∧ ∃ n5 : Int, w3.drew.cell? ((q4.add (Int.toNat n1 * 2)).add 0) = some (.int .i64 n5) ∧ ∃ n6 : Int, w3.drew.cell? ((q4.add (Int.toNat n1 * 2)).add 1) = some (.int .i64 n6) ∧ 0 ≤ (n1 : Int) ∧ (n1 : Int) < ((a1.len : Nat) : Int) ∧ ∃ q7 : Addr, (a1.a : Option Addr) = some q7 ∧ ∃ n8 : Int, w3.drew.cell? ((q7.add (Int.toNat n1 * 2)).add 0) = some (.int .i64 n8) ∧ ∃ n9 : Int, w3.drew.cell? ((q7.add (Int.toNat n1 * 2)).add 1) = some (.int .i64 n9) ∧ CallW Tryz.prog 122 #[.agg #[.int .i64 n5, .int .i64 n6], .agg #[.int .i64 n8, .int .i64 n9]] w3.drew fun v10 w11 => ∃ b12 : Bool, v10 = .bool b12 ∧ BIf (!b12) (K (.bool false) w11) (J2 (IntKind.wrap .i64 (n1 + 1)) w11)) (K (.bool true) w3)) ((0 : Int), ()) w)
theorem eq95 (a0 : Sl) (a1 : Sl) (w : World) (K : Value → World → Prop) : denFn Tryz.prog tt Tryz.f95 an95 [.slice a0.a a0.len a0.cap, .slice a1.a a1.len a1.cap] w K = W95 a0 a1 w K := by kernel_rfl
theorem ok95 : OkFn Tryz.prog 95 := ⟨Tryz.f95, Tryz.func95, by kernel_rfl, by kernel_rfl⟩
theorem go95 {a0 : Sl} {a1 : Sl} {w : World} {K : Value → World → Prop} (h : W95 a0 a1 w K) : CallW Tryz.prog 95 #[.slice a0.a a0.len a0.cap, .slice a1.a a1.len a1.cap] w K :=
  .inl ⟨ok95, denFn_sound tt_ok mix Tryz.func95 (by kernel_rfl) (eq95 a0 a1 w K ▸ h)⟩

/- loop.example/g00008/laws.markBlockS -/
def an96 : Ann := (.seq .leaf (.seq (.seq .leaf (.in_ (.loop 1 [(1, .int .i64), (5, .int .i64)] (.seq (.seq .leaf (.cond .leaf .leaf)) (.seq (.in_ (.seq .leaf (.seq .leaf (.seq .leaf .leaf)))) .leaf))))) (.seq .leaf .leaf)))
def W96 (a0 : Sl) (a1 : Int) (w : World) (K : Value → World → Prop) : Prop :=
  LoopW [.int .i64, .int .i64] (fun J3 => fun (n1 : Int) (n2 : Int) w4 => BIf (decide ((n2 : Int) < ((a0.len : Nat) : Int))) (0 ≤ (n2 : Int) ∧ (n2 : Int) < ((a0.len : Nat) : Int) ∧ ∃ q5 : Addr, (a0.a : Option Addr) = some q5 ∧ May w4 ((q5.add (Int.toNat n2 * 2)).add 0) ∧ LetW (w4.setCell ((q5.add (Int.toNat n2 * 2)).add 0) (.int .i64 n1)) fun w6 => 0 ≤ (n2 : Int) ∧ (n2 : Int) < ((a0.len : Nat) : Int) ∧ ∃ q7 : Addr, (a0.a : Option Addr) = some q7 ∧ May w6 ((q7.add (Int.toNat n2 * 2)).add 1) ∧ LetW (w6.setCell ((q7.add (Int.toNat n2 * 2)).add 1) (.int .i64 (IntKind.wrap .i64 (n1 + 1)))) fun w8 => J3 (IntKind.wrap .i64 ((IntKind.wrap .i64 (n1 + 1)) + 1)) (IntKind.wrap .i64 (n2 + 1)) w8) (K (.int .i64 n1) w4)) ((a1 : Int), ((0 : Int), ())) w
theorem eq96 (a0 : Sl) (a1 : Int) (w : World) (K : Value → World → Prop) : denFn Tryz.prog tt Tryz.f96 an96 [.slice a0.a a0.len a0.cap, .int .i64 a1] w K = W96 a0 a1 w K := by kernel_rfl
theorem ok96 : OkFn Tryz.prog 96 := ⟨Tryz.f96, Tryz.func96, by kernel_rfl, by kernel_rfl⟩
theorem go96 {a0 : Sl} {a1 : Int} {w : World} {K : Value → World → Prop} (h : W96 a0 a1 w K) : CallW Tryz.prog 96 #[.slice a0.a a0.len a0.cap, .int .i64 a1] w K :=
  .inl ⟨ok96, denFn_sound tt_ok mix Tryz.func96 (by kernel_rfl) (eq96 a0 a1 w K ▸ h)⟩

/- loop.example/g00008/laws.heldBlockS -/
def an97 : Ann := (.seq .leaf (.seq (.seq .leaf (.in_ (.loop 1 [(1, .int .i64), (5, .int .i64)] (.seq (.seq .leaf (.cond .leaf .leaf)) (.seq (.in_ (.seq (.seq .leaf (.cond (.seq .leaf .leaf) .leaf)) (.seq .leaf (.seq (.seq .leaf (.cond (.seq .leaf .leaf) .leaf)) .leaf)))) .leaf))))) (.seq .leaf .leaf)))
def W97 (a0 : Sl) (a1 : Int) (w : World) (K : Value → World → Prop) : Prop :=
  LoopW [.int .i64, .int .i64] (fun J3 => fun (n1 : Int) (n2 : Int) w4 => BIf (decide ((n2 : Int) < ((a0.len : Nat) : Int))) (0 ≤ (n2 : Int) ∧ (n2 : Int) < ((a0.len : Nat) : Int) ∧ ∃ q5 : Addr, (a0.a : Option Addr) = some q5 ∧ ∃ n6 : Int, w4.cell? ((q5.add (Int.toNat n2 * 2)).add 0) = some (.int .i64 n6) ∧ BIf ((n6 : Int) != n1) (K (.int .i64 (-1)) w4) (0 ≤ (n2 : Int) ∧ (n2 : Int) < ((a0.len : Nat) : Int) ∧ ∃ q7 : Addr, (a0.a : Option Addr) = some q7 ∧ ∃ n8 : Int, w4.cell? ((q7.add (Int.toNat n2 * 2)).add 1) = some (.int .i64 n8) ∧ BIf ((n8 : Int) != (IntKind.wrap .i64 (n1 + 1))) (K (.int .i64 (-1)) w4) (J3 (IntKind.wrap .i64 ((IntKind.wrap .i64 (n1 + 1)) + 1)) (IntKind.wrap .i64 (n2 + 1)) w4))) (K (.int .i64 n1) w4)) ((a1 : Int), ((0 : Int), ())) w
theorem eq97 (a0 : Sl) (a1 : Int) (w : World) (K : Value → World → Prop) : denFn Tryz.prog tt Tryz.f97 an97 [.slice a0.a a0.len a0.cap, .int .i64 a1] w K = W97 a0 a1 w K := by kernel_rfl
theorem ok97 : OkFn Tryz.prog 97 := ⟨Tryz.f97, Tryz.func97, by kernel_rfl, by kernel_rfl⟩
theorem go97 {a0 : Sl} {a1 : Int} {w : World} {K : Value → World → Prop} (h : W97 a0 a1 w K) : CallW Tryz.prog 97 #[.slice a0.a a0.len a0.cap, .int .i64 a1] w K :=
  .inl ⟨ok97, denFn_sound tt_ok mix Tryz.func97 (by kernel_rfl) (eq97 a0 a1 w K ▸ h)⟩

/- loop.example/g00008/spec.l8Block -/
def an103 : Ann := (.seq .leaf (.seq (.seq (.reg [(4, none), (4, some (9, [(13, .bool)]))]) (.cond (.seq .leaf .leaf) .leaf)) (.seq .leaf (.seq (.reg [(4, none), (5, some (41, [(25, .bool)])), (1, none), (6, some (41, [(32, .bool)])), (1, none), (7, some (0, [(40, .bool)])), (1, none)]) .leaf))))
def W103 (a0 : Int) (a1_0 : Int) (a1_1 : Int) (w : World) (K : Value → World → Prop) : Prop :=
  LetW (w.alloc (.cells #[.int .i64 a1_0, .int .i64 a1_1] 113)) fun w1 => ∃ n2 : Int, w1.cell? ⟨w.heap.size, 1, none⟩ = some (.int .i64 n2) ∧ JoinW [.bool] (fun J4 => BIf (decide ((n2 : Int) < 0)) (J4 true w1) (∃ n23 : Int, w1.cell? ⟨w.heap.size, 1, none⟩ = some (.int .i64 n23) ∧ J4 (decide ((n23 : Int) > 10)) w1)) (fun (b3 : Bool) w5 => BIf b3 (K (.bool false) w5) (∃ n6 : Int, w5.cell? ⟨w.heap.size, 1, none⟩ = some (.int .i64 n6) ∧ CallW Tryz.prog 77 #[.int .i64 n6] w5 fun v7 w8 => ∃ n9 : Int, v7 = .int .i64 n9 ∧ ∃ n10 : Int, w8.cell? ⟨w.heap.size, 0, none⟩ = some (.int .i64 n10) ∧ JoinW [.bool] (fun J12 => BIf (decide ((n10 : Int) ≥ 0)) (∃ n22 : Int, w8.cell? ⟨w.heap.size, 0, none⟩ = some (.int .i64 n22) ∧ J12 (decide ((n22 : Int) < a0)) w8) (J12 false w8)) (fun (b11 : Bool) w13 => JoinW [.bool] (fun J15 => BIf b11 (∃ n21 : Int, w13.cell? ⟨w.heap.size, 0, none⟩ = some (.int .i64 n21) ∧ (n9 : Int) ≠ 0 ∧ J15 ((Int.tmod n21 n9 : Int) == 0) w13) (J15 false w13)) (fun (b14 : Bool) w16 => JoinW [.bool] (fun J18 => BIf b14 (∃ n20 : Int, w16.cell? ⟨w.heap.size, 0, none⟩ = some (.int .i64 n20) ∧ J18 (decide ((IntKind.wrap .i64 (n20 + n9) : Int) ≤ a0)) w16) (J18 false w16)) (fun (b17 : Bool) w19 => K (.bool b17) w19)))))
theorem eq103 (a0 : Int) (a1_0 : Int) (a1_1 : Int) (w : World) (K : Value → World → Prop) : denFn Tryz.prog tt Tryz.f103 an103 [.int .i64 a0, .agg #[.int .i64 a1_0, .int .i64 a1_1]] w K = W103 a0 a1_0 a1_1 w K := by kernel_rfl
theorem ok103 : OkFn Tryz.prog 103 := ⟨Tryz.f103, Tryz.func103, by kernel_rfl, by kernel_rfl⟩
theorem go103 {a0 : Int} {a1_0 : Int} {a1_1 : Int} {w : World} {K : Value → World → Prop} (h : W103 a0 a1_0 a1_1 w K) : CallW Tryz.prog 103 #[.int .i64 a0, .agg #[.int .i64 a1_0, .int .i64 a1_1]] w K :=
  .inl ⟨ok103, denFn_sound tt_ok mix Tryz.func103 (by kernel_rfl) (eq103 a0 a1_0 a1_1 w K ▸ h)⟩

/- loop.example/g00008/spec.l8Mark -/
def an105 : Ann := (.seq .leaf (.in_ (.loop 15 [(8, .int .i64)] (.seq (.seq .leaf (.cond .leaf .leaf)) (.seq (.in_ .leaf) .leaf)))))
def W105 (a0 : Sl) (a1 : Int) (a2 : Int) (a3 : Bool) (w : World) (K : Value → World → Prop) : Prop :=
  LoopW [.int .i64] (fun J2 => fun (n1 : Int) w3 => BIf (decide ((n1 : Int) < a2)) (0 ≤ (IntKind.wrap .i64 (a1 + n1) : Int) ∧ (IntKind.wrap .i64 (a1 + n1) : Int) < ((a0.len : Nat) : Int) ∧ ∃ q4 : Addr, (a0.a : Option Addr) = some q4 ∧ May w3 (q4.add (Int.toNat (IntKind.wrap .i64 (a1 + n1)) * 1)) ∧ LetW (w3.setCell (q4.add (Int.toNat (IntKind.wrap .i64 (a1 + n1)) * 1)) (.bool a3)) fun w5 => J2 (IntKind.wrap .i64 (n1 + 1)) w5) (K (.tuple #[]) w3)) ((0 : Int), ()) w
theorem eq105 (a0 : Sl) (a1 : Int) (a2 : Int) (a3 : Bool) (w : World) (K : Value → World → Prop) : denFn Tryz.prog tt Tryz.f105 an105 [.slice a0.a a0.len a0.cap, .int .i64 a1, .int .i64 a2, .bool a3] w K = W105 a0 a1 a2 a3 w K := by kernel_rfl
theorem ok105 : OkFn Tryz.prog 105 := ⟨Tryz.f105, Tryz.func105, by kernel_rfl, by kernel_rfl⟩
theorem go105 {a0 : Sl} {a1 : Int} {a2 : Int} {a3 : Bool} {w : World} {K : Value → World → Prop} (h : W105 a0 a1 a2 a3 w K) : CallW Tryz.prog 105 #[.slice a0.a a0.len a0.cap, .int .i64 a1, .int .i64 a2, .bool a3] w K :=
  .inl ⟨ok105, denFn_sound tt_ok mix Tryz.func105 (by kernel_rfl) (eq105 a0 a1 a2 a3 w K ▸ h)⟩

/- loop.example/g00008/spec.l8List -/
def an106 : Ann := (.seq .leaf (.seq .leaf (.seq .leaf (.seq (.in_ (.loop 13 [(4, .int .i64)] (.seq (.seq .leaf (.cond .leaf .leaf)) (.in_ (.seq (.seq .leaf (.cond (.seq .leaf .leaf) .leaf)) (.seq .leaf (.seq (.in_ (.loop 29 [(5, .int .i64)] (.seq (.seq (.reg [(3, none), (7, some (61, [(30, .bool)])), (1, none), (7, some (61, [(38, .bool)]))]) (.cond .leaf .leaf)) (.in_ .leaf)))) (.seq .leaf .leaf)))))))) (.seq .leaf .leaf)))))
def W106 (a0 : Sl) (w : World) (K : Value → World → Prop) : Prop :=
  LetW (w.alloc (.cells #[.int .i64 0, .slice none 0 0] 31)) fun w1 => LetW (w1.alloc (.cells #[] 113)) fun w2 => LetW (w2.alloc (.cells #[.int .i64 0, .slice none 0 0] 31)) fun w3 => MayN w3 ⟨w2.heap.size, 0, none⟩ 2 ∧ LetW (puts w3 ⟨w2.heap.size, 0, none⟩ 0 [.int .i64 ((a0.len : Nat) : Int), .slice (some ⟨w1.heap.size, 0, none⟩) 0 0]) fun w4 => LoopW [.int .i64] (fun J6 => fun (n5 : Int) w7 => BIf (decide ((n5 : Int) < ((a0.len : Nat) : Int))) (0 ≤ (n5 : Int) ∧ (n5 : Int) < ((a0.len : Nat) : Int) ∧ ∃ q8 : Addr, (a0.a : Option Addr) = some q8 ∧ ∃ b9 : Bool, w7.cell? (q8.add (Int.toNat n5 * 1)) = some (.bool b9) ∧ BIf (!b9) (J6 (IntKind.wrap .i64 (n5 + 1)) w7) (LoopW [.int .i64] (fun J11 => fun (n10 : Int) w12 => JoinW [.bool] (fun J14 => BIf (decide ((n10 : Int) < 10)) (CallW Tryz.prog 77 #[.int .i64 (IntKind.wrap .i64 (n10 + 1))] w12 fun v33 w34 => ∃ n35 : Int, v33 = .int .i64 n35 ∧ (n35 : Int) ≠ 0 ∧ J14 ((Int.tmod n5 n35 : Int) == 0) w34) (J14 false w12)) (fun (b13 : Bool) w15 => JoinW [.bool] (fun J17 => BIf b13 (CallW Tryz.prog 77 #[.int .i64 (IntKind.wrap .i64 (n10 + 1))] w15 fun v27 w28 => ∃ n29 : Int, v27 = .int .i64 n29 ∧ CallW Tryz.prog 123 #[.slice a0.a a0.len a0.cap, .int .i64 n5, .int .i64 n29] w28 fun v30 w31 => ∃ b32 : Bool, v30 = .bool b32 ∧ J17 b32 w31) (J17 false w15)) (fun (b16 : Bool) w18 => BIf b16 (J11 (IntKind.wrap .i64 (n10 + 1)) w18) (∃ l19 : Sl, w18.cell? ⟨w2.heap.size, 1, none⟩ = some (.slice l19.a l19.len l19.cap) ∧ LetW (w18.alloc (.cells #[.int .i64 n5, .int .i64 n10] 113)) fun w20 => AppendW 113 ti113 l19 ⟨some ⟨w18.heap.size, 0, none⟩, 1, 1⟩ w20 fun l21 w22 => May w22 ⟨w2.heap.size, 1, none⟩ ∧ LetW (w22.setCell ⟨w2.heap.size, 1, none⟩ (.slice l21.a l21.len l21.cap)) fun w23 => CallW Tryz.prog 77 #[.int .i64 n10] w23 fun v24 w25 => ∃ n26 : Int, v24 = .int .i64 n26 ∧ J6 (IntKind.wrap .i64 (n5 + n26)) w25)))) ((0 : Int), ()) w7)) (∃ n36 : Int, w7.cell? ⟨w2.heap.size, 0, none⟩ = some (.int .i64 n36) ∧ ∃ l37 : Sl, w7.cell? ⟨w2.heap.size, 1, none⟩ = some (.slice l37.a l37.len l37.cap) ∧ MayN w7 ⟨w.heap.size, 0, none⟩ 2 ∧ LetW (puts w7 ⟨w.heap.size, 0, none⟩ 0 [.int .i64 n36, .slice l37.a l37.len l37.cap]) fun w38 => ∃ n39 : Int, w38.cell? ⟨w.heap.size, 0, none⟩ = some (.int .i64 n39) ∧ ∃ l40 : Sl, w38.cell? ⟨w.heap.size, 1, none⟩ = some (.slice l40.a l40.len l40.cap) ∧ K (.agg #[.int .i64 n39, .slice l40.a l40.len l40.cap]) w38)) ((0 : Int), ()) w4
theorem eq106 (a0 : Sl) (w : World) (K : Value → World → Prop) : denFn Tryz.prog tt Tryz.f106 an106 [.slice a0.a a0.len a0.cap] w K = W106 a0 w K := by kernel_rfl
theorem ok106 : OkFn Tryz.prog 106 := ⟨Tryz.f106, Tryz.func106, by kernel_rfl, by kernel_rfl⟩
theorem go106 {a0 : Sl} {w : World} {K : Value → World → Prop} (h : W106 a0 w K) : CallW Tryz.prog 106 #[.slice a0.a a0.len a0.cap] w K :=
  .inl ⟨ok106, denFn_sound tt_ok mix Tryz.func106 (by kernel_rfl) (eq106 a0 w K ▸ h)⟩

/- loop.example/g00008/spec.l9Way -/
def an107 : Ann := (.seq .leaf (.seq .leaf (.seq .leaf (.seq (.seq .leaf (.in_ (.loop 12 [(7, .slice), (8, .int .i64), (9, .int .i64)] (.seq (.seq .leaf (.cond .leaf .leaf)) (.seq (.in_ (.seq .leaf (.seq .leaf (.seq .leaf (.seq (.seq .leaf (.cond (.seq .leaf .leaf) .leaf)) (.seq .leaf .leaf)))))) .leaf))))) (.seq .leaf .leaf)))))
def W107 (a0_0 : Sl) (a0_1 : Int) (a0_2 : Sl) (a1 : Int) (a2 : Int) (w : World) (K : Value → World → Prop) : Prop :=
  LetW (w.alloc (.cells #[.slice a0_0.a a0_0.len a0_0.cap, .int .i64 a0_1, .slice a0_2.a a0_2.len a0_2.cap] 33)) fun w1 => LetW (w1.alloc (.cells #[] 2)) fun w2 => LoopW [.slice, .int .i64, .int .i64] (fun J6 => fun (l3 : Sl) (n4 : Int) (n5 : Int) w7 => BIf (decide ((n5 : Int) ≥ 0)) (CallW Tryz.prog 66 #[.int .i64 n4, .int .i64 n5, .int .i64 a2] w7 fun v8 w9 => ∃ n10 : Int, v8 = .int .i64 n10 ∧ LetW (w9.alloc (.cells #[.int .i64 n10] 2)) fun w11 => AppendW 2 ti2 l3 ⟨some ⟨w9.heap.size, 0, none⟩, 1, 1⟩ w11 fun l12 w13 => ∃ l14 : Sl, w13.cell? ⟨w.heap.size, 0, none⟩ = some (.slice l14.a l14.len l14.cap) ∧ CallW Tryz.prog 108 #[.slice l14.a l14.len l14.cap, .int .i64 n10] w13 fun v15 w16 => ∃ n17 : Int, v15 = .int .u64 n17 ∧ BIf ((n17 : Int) == 0) (K (.slice l12.a l12.len l12.cap) w16) (CallW Tryz.prog 28 #[.int .u64 n17] w16 fun v18 w19 => ∃ b20 : Bool, ∃ b21 : Bool, ∃ b22 : Bool, ∃ b23 : Bool, ∃ b24 : Bool, ∃ b25 : Bool, ∃ b26 : Bool, ∃ b27 : Bool, ∃ n28 : Int, ∃ b29 : Bool, v18 = .tuple #[.agg #[.bool b20, .bool b21, .bool b22, .bool b23, .bool b24, .bool b25, .bool b26, .bool b27, .int .i64 n28], .bool b29] ∧ LetW (w19.alloc (.cells #[.bool false, .bool false, .bool false, .bool false, .bool false, .bool false, .bool false, .bool false, .int .i64 0] 42)) fun w30 => MayN w30 ⟨w19.heap.size, 0, none⟩ 9 ∧ LetW (puts w30 ⟨w19.heap.size, 0, none⟩ 0 [.bool b20, .bool b21, .bool b22, .bool b23, .bool b24, .bool b25, .bool b26, .bool b27, .int .i64 n28]) fun w31 => ∃ n32 : Int, w31.cell? ⟨w19.heap.size, 8, none⟩ = some (.int .i64 n32) ∧ J6 l12 n32 (IntKind.wrap .i64 (n5 - 1)) w31)) (K (.slice l3.a l3.len l3.cap) w7)) ((⟨some ⟨w1.heap.size, 0, none⟩, 0, 0⟩ : Sl), ((a1 : Int), ((2 : Int), ()))) w2
theorem eq107 (a0_0 : Sl) (a0_1 : Int) (a0_2 : Sl) (a1 : Int) (a2 : Int) (w : World) (K : Value → World → Prop) : denFn Tryz.prog tt Tryz.f107 an107 [.agg #[.slice a0_0.a a0_0.len a0_0.cap, .int .i64 a0_1, .slice a0_2.a a0_2.len a0_2.cap], .int .i64 a1, .int .i64 a2] w K = W107 a0_0 a0_1 a0_2 a1 a2 w K := by kernel_rfl
theorem ok107 : OkFn Tryz.prog 107 := ⟨Tryz.f107, Tryz.func107, by kernel_rfl, by kernel_rfl⟩
theorem go107 {a0_0 : Sl} {a0_1 : Int} {a0_2 : Sl} {a1 : Int} {a2 : Int} {w : World} {K : Value → World → Prop} (h : W107 a0_0 a0_1 a0_2 a1 a2 w K) : CallW Tryz.prog 107 #[.agg #[.slice a0_0.a a0_0.len a0_0.cap, .int .i64 a0_1, .slice a0_2.a a0_2.len a0_2.cap], .int .i64 a1, .int .i64 a2] w K :=
  .inl ⟨ok107, denFn_sound tt_ok mix Tryz.func107 (by kernel_rfl) (eq107 a0_0 a0_1 a0_2 a1 a2 w K ▸ h)⟩

/- loop.example/g00008/spec.l9Word -/
def an108 : Ann := (.seq .leaf (.seq .leaf (.seq .leaf .leaf)))
def W108 (a0 : Sl) (a1 : Int) (w : World) (K : Value → World → Prop) : Prop :=
  0 ≤ (IntKind.wrap .i64 (a1 + 8) : Int) ∧ (IntKind.wrap .i64 (a1 + 8) : Int) ≤ ((a0.cap : Nat) : Int) ∧ 0 ≤ (a1 : Int) ∧ (a1 : Int) ≤ (IntKind.wrap .i64 (a1 + 8) : Int) ∧ CallW Tryz.prog 114 #[.slice (cutA a0.a a0.cap (Int.toNat a1) 1) (Int.toNat (IntKind.wrap .i64 (a1 + 8)) - Int.toNat a1) (a0.cap - Int.toNat a1), .int .i64 0, .int .i64 8, .bool false] w fun v1 w2 => ∃ n3 : Int, ∃ b4 : Bool, v1 = .tuple #[.int .u64 n3, .bool b4] ∧ K (.int .u64 n3) w2
theorem eq108 (a0 : Sl) (a1 : Int) (w : World) (K : Value → World → Prop) : denFn Tryz.prog tt Tryz.f108 an108 [.slice a0.a a0.len a0.cap, .int .i64 a1] w K = W108 a0 a1 w K := by kernel_rfl
theorem ok108 : OkFn Tryz.prog 108 := ⟨Tryz.f108, Tryz.func108, by kernel_rfl, by kernel_rfl⟩
theorem go108 {a0 : Sl} {a1 : Int} {w : World} {K : Value → World → Prop} (h : W108 a0 a1 w K) : CallW Tryz.prog 108 #[.slice a0.a a0.len a0.cap, .int .i64 a1] w K :=
  .inl ⟨ok108, denFn_sound tt_ok mix Tryz.func108 (by kernel_rfl) (eq108 a0 a1 w K ▸ h)⟩

/- loop.example/g00008/spec.l6Flag -/
def an109 : Ann := (.seq .leaf (.seq (.seq .leaf (.cond (.seq .leaf .leaf) .leaf)) (.seq .leaf .leaf)))
def W109 (a0 : Bool) (a1 : Int) (w : World) (K : Value → World → Prop) : Prop :=
  BIf a0 (CallW Tryz.prog 124 #[.int .i64 a1] w fun v1 w2 => ∃ n3 : Int, v1 = .int .u64 n3 ∧ K (.int .u64 n3) w2) (K (.int .u64 0) w)
theorem eq109 (a0 : Bool) (a1 : Int) (w : World) (K : Value → World → Prop) : denFn Tryz.prog tt Tryz.f109 an109 [.bool a0, .int .i64 a1] w K = W109 a0 a1 w K := by kernel_rfl
theorem ok109 : OkFn Tryz.prog 109 := ⟨Tryz.f109, Tryz.func109, by kernel_rfl, by kernel_rfl⟩
theorem go109 {a0 : Bool} {a1 : Int} {w : World} {K : Value → World → Prop} (h : W109 a0 a1 w K) : CallW Tryz.prog 109 #[.bool a0, .int .i64 a1] w K :=
  .inl ⟨ok109, denFn_sound tt_ok mix Tryz.func109 (by kernel_rfl) (eq109 a0 a1 w K ▸ h)⟩

/- loop.example/g00008/spec.l6Pages -/
def an110 : Ann := (.seq .leaf (.seq (.seq .leaf (.cond (.seq .leaf .leaf) .leaf)) (.seq .leaf .leaf)))
def W110 (a0 : Int) (w : World) (K : Value → World → Prop) : Prop :=
  BIf ((a0 : Int) == 0) (K (.int .i64 1) w) (CallW Tryz.prog 110 #[.int .i64 (IntKind.wrap .i64 (a0 - 1))] w fun v1 w2 => ∃ n3 : Int, v1 = .int .i64 n3 ∧ K (.int .i64 (IntKind.wrap .i64 (32 * n3))) w2)
theorem eq110 (a0 : Int) (w : World) (K : Value → World → Prop) : denFn Tryz.prog tt Tryz.f110 an110 [.int .i64 a0] w K = W110 a0 w K := by kernel_rfl
theorem ok110 : OkFn Tryz.prog 110 := ⟨Tryz.f110, Tryz.func110, by kernel_rfl, by kernel_rfl⟩
theorem go110 {a0 : Int} {w : World} {K : Value → World → Prop} (h : W110 a0 w K) : CallW Tryz.prog 110 #[.int .i64 a0] w K :=
  .inl ⟨ok110, denFn_sound tt_ok mix Tryz.func110 (by kernel_rfl) (eq110 a0 w K ▸ h)⟩

/- loop.example/g00008/impl.blockOk -/
def an112 : Ann := (.seq .leaf (.seq (.seq (.reg [(4, none), (4, some (9, [(13, .bool)])), (1, none), (4, some (9, [(18, .bool)])), (1, none), (5, some (9, [(24, .bool)]))]) (.cond (.seq .leaf .leaf) .leaf)) (.seq .leaf (.seq (.reg [(6, none), (7, some (0, [(40, .bool)])), (1, none)]) .leaf))))
def W112 (a0 : Int) (a1_0 : Int) (a1_1 : Int) (w : World) (K : Value → World → Prop) : Prop :=
  LetW (w.alloc (.cells #[.int .i64 a1_0, .int .i64 a1_1] 113)) fun w1 => ∃ n2 : Int, w1.cell? ⟨w.heap.size, 1, none⟩ = some (.int .i64 n2) ∧ JoinW [.bool] (fun J4 => BIf (decide ((n2 : Int) < 0)) (J4 true w1) (∃ n20 : Int, w1.cell? ⟨w.heap.size, 1, none⟩ = some (.int .i64 n20) ∧ J4 (decide ((n20 : Int) > 10)) w1)) (fun (b3 : Bool) w5 => JoinW [.bool] (fun J7 => BIf b3 (J7 true w5) (∃ n19 : Int, w5.cell? ⟨w.heap.size, 0, none⟩ = some (.int .i64 n19) ∧ J7 (decide ((n19 : Int) < 0)) w5)) (fun (b6 : Bool) w8 => JoinW [.bool] (fun J10 => BIf b6 (J10 true w8) (∃ n18 : Int, w8.cell? ⟨w.heap.size, 0, none⟩ = some (.int .i64 n18) ∧ J10 (decide ((n18 : Int) ≥ a0)) w8)) (fun (b9 : Bool) w11 => BIf b9 (K (.bool false) w11) (∃ n12 : Int, w11.cell? ⟨w.heap.size, 1, none⟩ = some (.int .i64 n12) ∧ 0 ≤ (n12 : Int) ∧ ∃ n13 : Int, w11.cell? ⟨w.heap.size, 0, none⟩ = some (.int .i64 n13) ∧ (shlI .i64 1 n12 : Int) ≠ 0 ∧ JoinW [.bool] (fun J15 => BIf ((Int.tmod n13 (shlI .i64 1 n12) : Int) == 0) (∃ n17 : Int, w11.cell? ⟨w.heap.size, 0, none⟩ = some (.int .i64 n17) ∧ J15 (decide ((IntKind.wrap .i64 (n17 + (shlI .i64 1 n12)) : Int) ≤ a0)) w11) (J15 false w11)) (fun (b14 : Bool) w16 => K (.bool b14) w16)))))
theorem eq112 (a0 : Int) (a1_0 : Int) (a1_1 : Int) (w : World) (K : Value → World → Prop) : denFn Tryz.prog tt Tryz.f112 an112 [.int .i64 a0, .agg #[.int .i64 a1_0, .int .i64 a1_1]] w K = W112 a0 a1_0 a1_1 w K := by kernel_rfl
theorem ok112 : OkFn Tryz.prog 112 := ⟨Tryz.f112, Tryz.func112, by kernel_rfl, by kernel_rfl⟩
theorem go112 {a0 : Int} {a1_0 : Int} {a1_1 : Int} {w : World} {K : Value → World → Prop} (h : W112 a0 a1_0 a1_1 w K) : CallW Tryz.prog 112 #[.int .i64 a0, .agg #[.int .i64 a1_0, .int .i64 a1_1]] w K :=
  .inl ⟨ok112, denFn_sound tt_ok mix Tryz.func112 (by kernel_rfl) (eq112 a0 a1_0 a1_1 w K ▸ h)⟩

/- loop.example/g00008/spec.l6Kind -/
def an113 : Ann := (.seq .leaf (.seq (.seq .leaf (.cond (.seq .leaf .leaf) .leaf)) (.seq .leaf (.seq (.seq (.reg [(3, none), (8, some (34, [(25, .bool)]))]) (.cond (.seq .leaf .leaf) .leaf)) (.seq (.seq (.reg [(4, none), (4, some (34, [(33, .bool)])), (1, none), (4, some (34, [(38, .bool)]))]) (.cond (.seq (.seq (.reg [(3, none), (3, some (34, [(44, .bool)])), (1, none), (3, some (2, [(48, .bool)])), (1, none), (3, some (0, [(52, .bool)]))]) (.cond (.seq .leaf .leaf) .leaf)) (.seq .leaf .leaf)) .leaf)) (.seq (.seq (.draw [0, 1, 0, 4, 15, 31] [0, 1, 2, 3, 4, 5]) (.cond (.seq .leaf .leaf) .leaf)) (.seq .leaf .leaf)))))))
def W113 (a0 : Int) (a1 : Int) (w : World) (K : Value → World → Prop) : Prop :=
  CallW Tryz.prog 80 #[.int .u64 a0, .int .i64 0] w fun v1 w2 => ∃ b3 : Bool, v1 = .bool b3 ∧ BIf (!b3) (K (.int .i64 (-4)) w2) (CallW Tryz.prog 28 #[.int .u64 a0] w2 fun v4 w5 => ∃ b6 : Bool, ∃ b7 : Bool, ∃ b8 : Bool, ∃ b9 : Bool, ∃ b10 : Bool, ∃ b11 : Bool, ∃ b12 : Bool, ∃ b13 : Bool, ∃ n14 : Int, ∃ b15 : Bool, v4 = .tuple #[.agg #[.bool b6, .bool b7, .bool b8, .bool b9, .bool b10, .bool b11, .bool b12, .bool b13, .int .i64 n14], .bool b15] ∧ LetW (w5.alloc (.cells #[.bool false, .bool false, .bool false, .bool false, .bool false, .bool false, .bool false, .bool false, .int .i64 0] 42)) fun w16 => MayN w16 ⟨w5.heap.size, 0, none⟩ 9 ∧ LetW (puts w16 ⟨w5.heap.size, 0, none⟩ 0 [.bool b6, .bool b7, .bool b8, .bool b9, .bool b10, .bool b11, .bool b12, .bool b13, .int .i64 n14]) fun w17 => JoinW [.bool] (fun J19 => BIf (!b15) (J19 true w17) (∃ b47 : Bool, w17.cell? ⟨w5.heap.size, 2, none⟩ = some (.bool b47) ∧ BIf b47 (∃ b48 : Bool, w17.cell? ⟨w5.heap.size, 1, none⟩ = some (.bool b48) ∧ J19 (!b48) w17) (J19 false w17))) (fun (b18 : Bool) w20 => BIf b18 (K (.int .i64 (-5)) w20) (∃ b21 : Bool, w20.cell? ⟨w5.heap.size, 1, none⟩ = some (.bool b21) ∧ JoinW [.bool] (fun J23 => BIf (!b21) (∃ b46 : Bool, w20.cell? ⟨w5.heap.size, 2, none⟩ = some (.bool b46) ∧ J23 (!b46) w20) (J23 false w20)) (fun (b22 : Bool) w24 => JoinW [.bool] (fun J26 => BIf b22 (∃ b45 : Bool, w24.cell? ⟨w5.heap.size, 3, none⟩ = some (.bool b45) ∧ J26 (!b45) w24) (J26 false w24)) (fun (b25 : Bool) w27 => BIf b25 (∃ b28 : Bool, w27.cell? ⟨w5.heap.size, 4, none⟩ = some (.bool b28) ∧ JoinW [.bool] (fun J30 => BIf b28 (J30 true w27) (∃ b39 : Bool, w27.cell? ⟨w5.heap.size, 5, none⟩ = some (.bool b39) ∧ J30 b39 w27)) (fun (b29 : Bool) w31 => JoinW [.bool] (fun J33 => BIf b29 (J33 true w31) (∃ b38 : Bool, w31.cell? ⟨w5.heap.size, 6, none⟩ = some (.bool b38) ∧ J33 b38 w31)) (fun (b32 : Bool) w34 => JoinW [.bool] (fun J36 => BIf b32 (J36 true w34) (J36 ((a1 : Int) == 0) w34)) (fun (b35 : Bool) w37 => BIf b35 (K (.int .i64 (-5)) w37) (K (.int .i64 0) w37))))) (∃ n40 : Int, w27.drew.cell? ⟨w5.heap.size, 8, none⟩ = some (.int .i64 n40) ∧ CallW Tryz.prog 110 #[.int .i64 a1] w27.drew fun v41 w42 => ∃ n43 : Int, v41 = .int .i64 n43 ∧ (∃ n44 : Int, w42.cell? ⟨w5.heap.size, 8, none⟩ = some (.int .i64 n44) ∧ (.int .i64 n44 : Value) = (.int .i64 n40 : Value)) ∧ (n43 : Int) ≠ 0 ∧ BIf ((Int.tmod n40 n43 : Int) != 0) (K (.int .i64 (-6)) w42) (K (.int .i64 1) w42)))))))
theorem eq113 (a0 : Int) (a1 : Int) (w : World) (K : Value → World → Prop) : denFn Tryz.prog tt Tryz.f113 an113 [.int .u64 a0, .int .i64 a1] w K = W113 a0 a1 w K := by kernel_rfl
theorem ok113 : OkFn Tryz.prog 113 := ⟨Tryz.f113, Tryz.func113, by kernel_rfl, by kernel_rfl⟩
theorem go113 {a0 : Int} {a1 : Int} {w : World} {K : Value → World → Prop} (h : W113 a0 a1 w K) : CallW Tryz.prog 113 #[.int .u64 a0, .int .i64 a1] w K :=
  .inl ⟨ok113, denFn_sound tt_ok mix Tryz.func113 (by kernel_rfl) (eq113 a0 a1 w K ▸ h)⟩

/- loop.example/g00008/spec.LoadWord -/
def an114 : Ann := (.seq .leaf (.seq (.seq (.reg [(4, none), (3, some (15, [(18, .bool)])), (1, none), (7, some (15, [(26, .bool)]))]) (.cond (.seq .leaf .leaf) .leaf)) (.seq .leaf (.seq (.seq .leaf (.in_ (.loop 15 [(10, .int .u64), (11, .int .i64)] (.seq (.seq .leaf (.cond .leaf .leaf)) (.seq (.in_ .leaf) .leaf))))) (.seq (.seq .leaf (.cond (.seq .leaf .leaf) .leaf)) (.seq .leaf .leaf))))))
def W114 (a0 : Sl) (a1 : Int) (a2 : Int) (a3 : Bool) (w : World) (K : Value → World → Prop) : Prop :=
  CallW Tryz.prog 125 #[.int .i64 a2] w fun v1 w2 => ∃ b3 : Bool, v1 = .bool b3 ∧ JoinW [.bool] (fun J5 => BIf (!b3) (J5 true w2) (J5 (decide ((a1 : Int) < 0)) w2)) (fun (b4 : Bool) w6 => JoinW [.bool] (fun J8 => BIf b4 (J8 true w6) (J8 (decide ((a1 : Int) > (IntKind.wrap .i64 (((a0.len : Nat) : Int) - a2)))) w6)) (fun (b7 : Bool) w9 => BIf b7 (K (.tuple #[.int .u64 0, .bool false]) w9) (LoopW [.int .u64, .int .i64] (fun J12 => fun (n10 : Int) (n11 : Int) w13 => BIf (decide ((n11 : Int) ≥ 0)) (0 ≤ (IntKind.wrap .i64 (a1 + n11) : Int) ∧ (IntKind.wrap .i64 (a1 + n11) : Int) < ((a0.len : Nat) : Int) ∧ ∃ q14 : Addr, (a0.a : Option Addr) = some q14 ∧ ∃ n15 : Int, w13.cell? (q14.add (Int.toNat (IntKind.wrap .i64 (a1 + n11)) * 1)) = some (.int .u8 n15) ∧ J12 (IntKind.wrap .u64 ((IntKind.wrap .u64 (n10 * 256)) + (IntKind.wrap .u64 n15))) (IntKind.wrap .i64 (n11 - 1)) w13) (BIf a3 (CallW Tryz.prog 126 #[.int .u64 n10, .int .i64 (IntKind.wrap .i64 (8 * a2))] w13 fun v16 w17 => ∃ n18 : Int, v16 = .int .u64 n18 ∧ K (.tuple #[.int .u64 n18, .bool true]) w17) (K (.tuple #[.int .u64 n10, .bool true]) w13))) ((0 : Int), ((IntKind.wrap .i64 (a2 - 1) : Int), ())) w9)))
theorem eq114 (a0 : Sl) (a1 : Int) (a2 : Int) (a3 : Bool) (w : World) (K : Value → World → Prop) : denFn Tryz.prog tt Tryz.f114 an114 [.slice a0.a a0.len a0.cap, .int .i64 a1, .int .i64 a2, .bool a3] w K = W114 a0 a1 a2 a3 w K := by kernel_rfl
theorem ok114 : OkFn Tryz.prog 114 := ⟨Tryz.f114, Tryz.func114, by kernel_rfl, by kernel_rfl⟩
theorem go114 {a0 : Sl} {a1 : Int} {a2 : Int} {a3 : Bool} {w : World} {K : Value → World → Prop} (h : W114 a0 a1 a2 a3 w K) : CallW Tryz.prog 114 #[.slice a0.a a0.len a0.cap, .int .i64 a1, .int .i64 a2, .bool a3] w K :=
  .inl ⟨ok114, denFn_sound tt_ok mix Tryz.func114 (by kernel_rfl) (eq114 a0 a1 a2 a3 w K ▸ h)⟩

/- loop.example/g00008/spec.l1Bit -/
def an115 : Ann := (.seq .leaf (.seq .leaf .leaf))
def W115 (a0 : Int) (a1 : Int) (w : World) (K : Value → World → Prop) : Prop :=
  CallW Tryz.prog 124 #[.int .i64 a1] w fun v1 w2 => ∃ n3 : Int, v1 = .int .u64 n3 ∧ (n3 : Int) ≠ 0 ∧ (2 : Int) ≠ 0 ∧ K (.int .u64 (Int.tmod (IntKind.wrap .u64 (Int.tdiv a0 n3)) 2)) w2
theorem eq115 (a0 : Int) (a1 : Int) (w : World) (K : Value → World → Prop) : denFn Tryz.prog tt Tryz.f115 an115 [.int .u64 a0, .int .i64 a1] w K = W115 a0 a1 w K := by kernel_rfl
theorem ok115 : OkFn Tryz.prog 115 := ⟨Tryz.f115, Tryz.func115, by kernel_rfl, by kernel_rfl⟩
theorem go115 {a0 : Int} {a1 : Int} {w : World} {K : Value → World → Prop} (h : W115 a0 a1 w K) : CallW Tryz.prog 115 #[.int .u64 a0, .int .i64 a1] w K :=
  .inl ⟨ok115, denFn_sound tt_ok mix Tryz.func115 (by kernel_rfl) (eq115 a0 a1 w K ▸ h)⟩

/- loop.example/g00008/laws.toBlock -/
def an116 : Ann := (.seq .leaf (.seq .leaf (.seq .leaf (.seq .leaf (.seq .leaf .leaf)))))
def W116 (a0_0 : Int) (a0_1 : Int) (w : World) (K : Value → World → Prop) : Prop :=
  LetW (w.alloc (.cells #[.int .i64 a0_0, .int .i64 a0_1] 146)) fun w1 => LetW (w1.alloc (.cells #[.int .i64 0, .int .i64 0] 113)) fun w2 => LetW (w2.alloc (.cells #[.int .i64 0, .int .i64 0] 113)) fun w3 => ∃ n4 : Int, w3.cell? ⟨w.heap.size, 0, none⟩ = some (.int .i64 n4) ∧ May w3 ⟨w2.heap.size, 0, none⟩ ∧ LetW (w3.setCell ⟨w2.heap.size, 0, none⟩ (.int .i64 n4)) fun w5 => ∃ n6 : Int, w5.cell? ⟨w.heap.size, 1, none⟩ = some (.int .i64 n6) ∧ May w5 ⟨w2.heap.size, 1, none⟩ ∧ LetW (w5.setCell ⟨w2.heap.size, 1, none⟩ (.int .i64 n6)) fun w7 => ∃ n8 : Int, w7.cell? ⟨w2.heap.size, 0, none⟩ = some (.int .i64 n8) ∧ ∃ n9 : Int, w7.cell? ⟨w2.heap.size, 1, none⟩ = some (.int .i64 n9) ∧ MayN w7 ⟨w1.heap.size, 0, none⟩ 2 ∧ LetW (puts w7 ⟨w1.heap.size, 0, none⟩ 0 [.int .i64 n8, .int .i64 n9]) fun w10 => ∃ n11 : Int, w10.cell? ⟨w1.heap.size, 0, none⟩ = some (.int .i64 n11) ∧ ∃ n12 : Int, w10.cell? ⟨w1.heap.size, 1, none⟩ = some (.int .i64 n12) ∧ K (.agg #[.int .i64 n11, .int .i64 n12]) w10
theorem eq116 (a0_0 : Int) (a0_1 : Int) (w : World) (K : Value → World → Prop) : denFn Tryz.prog tt Tryz.f116 an116 [.agg #[.int .i64 a0_0, .int .i64 a0_1]] w K = W116 a0_0 a0_1 w K := by kernel_rfl
theorem ok116 : OkFn Tryz.prog 116 := ⟨Tryz.f116, Tryz.func116, by kernel_rfl, by kernel_rfl⟩
theorem go116 {a0_0 : Int} {a0_1 : Int} {w : World} {K : Value → World → Prop} (h : W116 a0_0 a0_1 w K) : CallW Tryz.prog 116 #[.agg #[.int .i64 a0_0, .int .i64 a0_1]] w K :=
  .inl ⟨ok116, denFn_sound tt_ok mix Tryz.func116 (by kernel_rfl) (eq116 a0_0 a0_1 w K ▸ h)⟩

/- loop.example/g00008/impl.translate$1 -/
def an117 : Ann := (.seq .leaf (.seq .leaf .leaf))
def W117 (a0 : Int) (c0 : Addr) (c1 : Addr) (w : World) (K : Value → World → Prop) : Prop :=
  LetW (w.alloc (.cells #[.int .i64 0, .int .i64 0, .int .i64 0, .int .i64 0, .int .u64 0] 55)) fun w1 => ∃ n2 : Int, w1.cell? c0 = some (.int .i64 n2) ∧ ∃ n3 : Int, w1.cell? c1 = some (.int .i64 n3) ∧ MayN w1 ⟨w.heap.size, 0, none⟩ 5 ∧ LetW (puts w1 ⟨w.heap.size, 0, none⟩ 0 [.int .i64 a0, .int .i64 n2, .int .i64 n3, .int .i64 0, .int .u64 0]) fun w4 => ∃ n5 : Int, w4.cell? ⟨w.heap.size, 0, none⟩ = some (.int .i64 n5) ∧ ∃ n6 : Int, w4.cell? ⟨w.heap.size, 1, none⟩ = some (.int .i64 n6) ∧ ∃ n7 : Int, w4.cell? ⟨w.heap.size, 2, none⟩ = some (.int .i64 n7) ∧ ∃ n8 : Int, w4.cell? ⟨w.heap.size, 3, none⟩ = some (.int .i64 n8) ∧ ∃ n9 : Int, w4.cell? ⟨w.heap.size, 4, none⟩ = some (.int .u64 n9) ∧ K (.agg #[.int .i64 n5, .int .i64 n6, .int .i64 n7, .int .i64 n8, .int .u64 n9]) w4
theorem eq117 (a0 : Int) (c0 : Addr) (c1 : Addr) (w : World) (K : Value → World → Prop) : denFn Tryz.prog tt Tryz.f117 an117 [.int .i64 a0, .pointer (some c0), .pointer (some c1)] w K = W117 a0 c0 c1 w K := by kernel_rfl
theorem ok117 : OkFn Tryz.prog 117 := ⟨Tryz.f117, Tryz.func117, by kernel_rfl, by kernel_rfl⟩
theorem go117 {a0 : Int} {c0 : Addr} {c1 : Addr} {w : World} {K : Value → World → Prop} (h : W117 a0 c0 c1 w K) : CallW Tryz.prog 117 #[.int .i64 a0, .pointer (some c0), .pointer (some c1)] w K :=
  .inl ⟨ok117, denFn_sound tt_ok mix Tryz.func117 (by kernel_rfl) (eq117 a0 c0 c1 w K ▸ h)⟩

/- loop.example/g00008/impl.sizeOk -/
def an118 : Ann := (.seq .leaf (.seq (.reg [(3, none), (3, some (1, [(8, .bool)])), (1, none), (3, some (1, [(12, .bool)])), (1, none), (3, some (0, [(16, .bool)])), (1, none)]) .leaf))
def W118 (a0 : Int) (w : World) (K : Value → World → Prop) : Prop :=
  JoinW [.bool] (fun J2 => BIf ((a0 : Int) == 1) (J2 true w) (J2 ((a0 : Int) == 2) w)) (fun (b1 : Bool) w3 => JoinW [.bool] (fun J5 => BIf b1 (J5 true w3) (J5 ((a0 : Int) == 4) w3)) (fun (b4 : Bool) w6 => JoinW [.bool] (fun J8 => BIf b4 (J8 true w6) (J8 ((a0 : Int) == 8) w6)) (fun (b7 : Bool) w9 => K (.bool b7) w9)))
theorem eq118 (a0 : Int) (w : World) (K : Value → World → Prop) : denFn Tryz.prog tt Tryz.f118 an118 [.int .i64 a0] w K = W118 a0 w K := by kernel_rfl
theorem ok118 : OkFn Tryz.prog 118 := ⟨Tryz.f118, Tryz.func118, by kernel_rfl, by kernel_rfl⟩
theorem go118 {a0 : Int} {w : World} {K : Value → World → Prop} (h : W118 a0 w K) : CallW Tryz.prog 118 #[.int .i64 a0] w K :=
  .inl ⟨ok118, denFn_sound tt_ok mix Tryz.func118 (by kernel_rfl) (eq118 a0 w K ▸ h)⟩

/- loop.example/g00008/impl.inside -/
def an119 : Ann := (.seq .leaf (.seq (.reg [(3, none), (3, some (7, [(12, .bool)])), (1, none), (4, some (7, [(17, .bool)])), (1, none), (6, some (0, [(24, .bool)])), (1, none)]) .leaf))
def W119 (a0 : Int) (a1 : Int) (a2 : Int) (w : World) (K : Value → World → Prop) : Prop :=
  JoinW [.bool] (fun J2 => BIf (decide ((a1 : Int) ≥ 0)) (J2 (decide ((a2 : Int) ≥ 0)) w) (J2 false w)) (fun (b1 : Bool) w3 => JoinW [.bool] (fun J5 => BIf b1 (J5 (decide ((a1 : Int) ≤ a0)) w3) (J5 false w3)) (fun (b4 : Bool) w6 => JoinW [.bool] (fun J8 => BIf b4 (J8 (decide ((a2 : Int) ≤ (IntKind.wrap .i64 (a0 - a1)))) w6) (J8 false w6)) (fun (b7 : Bool) w9 => K (.bool b7) w9)))
theorem eq119 (a0 : Int) (a1 : Int) (a2 : Int) (w : World) (K : Value → World → Prop) : denFn Tryz.prog tt Tryz.f119 an119 [.int .i64 a0, .int .i64 a1, .int .i64 a2] w K = W119 a0 a1 a2 w K := by kernel_rfl
theorem ok119 : OkFn Tryz.prog 119 := ⟨Tryz.f119, Tryz.func119, by kernel_rfl, by kernel_rfl⟩
theorem go119 {a0 : Int} {a1 : Int} {a2 : Int} {w : World} {K : Value → World → Prop} (h : W119 a0 a1 a2 w K) : CallW Tryz.prog 119 #[.int .i64 a0, .int .i64 a1, .int .i64 a2] w K :=
  .inl ⟨ok119, denFn_sound tt_ok mix Tryz.func119 (by kernel_rfl) (eq119 a0 a1 a2 w K ▸ h)⟩

/- loop.example/g00008/impl.framesOf -/
def an121 : Ann := (.seq .leaf (.seq .leaf (.seq .leaf (.seq .leaf (.seq .leaf (.seq .leaf .leaf))))))
def W121 (a0 : Sl) (w : World) (K : Value → World → Prop) : Prop :=
  LetW (w.alloc (.cells #[.slice a0.a a0.len a0.cap] 107)) fun w1 => LetW (w1.alloc (.cells #[.int .i64 0, .slice none 0 0] 31)) fun w2 => ∃ l3 : Sl, w2.cell? ⟨w.heap.size, 0, none⟩ = some (.slice l3.a l3.len l3.cap) ∧ LetW (w2.alloc (.cells #[.int .i64 0, .slice none 0 0] 31)) fun w4 => MayN w4 ⟨w2.heap.size, 0, none⟩ 2 ∧ LetW (puts w4 ⟨w2.heap.size, 0, none⟩ 0 [.int .i64 ((l3.len : Nat) : Int), .slice none 0 0]) fun w5 => LetW (w5.alloc (.cells #[.nilFunc] 153)) fun w6 => May w6 ⟨w5.heap.size, 0, none⟩ ∧ LetW (w6.setCell ⟨w5.heap.size, 0, none⟩ (.func (.func 127) #[] #[.pointer (some ⟨w2.heap.size, 0, none⟩), .pointer (some ⟨w.heap.size, 0, none⟩), .pointer (some ⟨w5.heap.size, 0, none⟩)])) fun w7 => ∃ f8 : FnV, w7.cell? ⟨w5.heap.size, 0, none⟩ = some (.func (.func f8.g) ⟨f8.x⟩ ⟨f8.c⟩) ∧ CallW Tryz.prog f8.g ⟨f8.x ++ ([.int .i64 0, .int .i64 10] ++ f8.c)⟩ w7 fun v9 w10 => v9 = .tuple #[] ∧ ∃ n11 : Int, w10.cell? ⟨w2.heap.size, 0, none⟩ = some (.int .i64 n11) ∧ ∃ l12 : Sl, w10.cell? ⟨w2.heap.size, 1, none⟩ = some (.slice l12.a l12.len l12.cap) ∧ MayN w10 ⟨w1.heap.size, 0, none⟩ 2 ∧ LetW (puts w10 ⟨w1.heap.size, 0, none⟩ 0 [.int .i64 n11, .slice l12.a l12.len l12.cap]) fun w13 => ∃ n14 : Int, w13.cell? ⟨w1.heap.size, 0, none⟩ = some (.int .i64 n14) ∧ ∃ l15 : Sl, w13.cell? ⟨w1.heap.size, 1, none⟩ = some (.slice l15.a l15.len l15.cap) ∧ K (.agg #[.int .i64 n14, .slice l15.a l15.len l15.cap]) w13
theorem eq121 (a0 : Sl) (w : World) (K : Value → World → Prop) : denFn Tryz.prog tt Tryz.f121 an121 [.slice a0.a a0.len a0.cap] w K = W121 a0 w K := by kernel_rfl
theorem ok121 : OkFn Tryz.prog 121 := ⟨Tryz.f121, Tryz.func121, by kernel_rfl, by kernel_rfl⟩
theorem go121 {a0 : Sl} {w : World} {K : Value → World → Prop} (h : W121 a0 w K) : CallW Tryz.prog 121 #[.slice a0.a a0.len a0.cap] w K :=
  .inl ⟨ok121, denFn_sound tt_ok mix Tryz.func121 (by kernel_rfl) (eq121 a0 w K ▸ h)⟩

/- loop.example/g00008/laws.eqBlock -/
def an122 : Ann := (.seq .leaf (.seq (.seq .leaf (.cond (.seq .leaf .leaf) .leaf)) (.seq (.seq .leaf (.cond (.seq .leaf .leaf) .leaf)) (.seq .leaf .leaf))))
def W122 (a0_0 : Int) (a0_1 : Int) (a1_0 : Int) (a1_1 : Int) (w : World) (K : Value → World → Prop) : Prop :=
  LetW (w.alloc (.cells #[.int .i64 a0_0, .int .i64 a0_1] 113)) fun w1 => LetW (w1.alloc (.cells #[.int .i64 a1_0, .int .i64 a1_1] 113)) fun w2 => ∃ n3 : Int, w2.cell? ⟨w.heap.size, 0, none⟩ = some (.int .i64 n3) ∧ ∃ n4 : Int, w2.cell? ⟨w1.heap.size, 0, none⟩ = some (.int .i64 n4) ∧ BIf ((n3 : Int) != n4) (K (.bool false) w2) (∃ n5 : Int, w2.cell? ⟨w.heap.size, 1, none⟩ = some (.int .i64 n5) ∧ ∃ n6 : Int, w2.cell? ⟨w1.heap.size, 1, none⟩ = some (.int .i64 n6) ∧ BIf ((n5 : Int) != n6) (K (.bool false) w2) (K (.bool true) w2))
theorem eq122 (a0_0 : Int) (a0_1 : Int) (a1_0 : Int) (a1_1 : Int) (w : World) (K : Value → World → Prop) : denFn Tryz.prog tt Tryz.f122 an122 [.agg #[.int .i64 a0_0, .int .i64 a0_1], .agg #[.int .i64 a1_0, .int .i64 a1_1]] w K = W122 a0_0 a0_1 a1_0 a1_1 w K := by kernel_rfl
theorem ok122 : OkFn Tryz.prog 122 := ⟨Tryz.f122, Tryz.func122, by kernel_rfl, by kernel_rfl⟩
theorem go122 {a0_0 : Int} {a0_1 : Int} {a1_0 : Int} {a1_1 : Int} {w : World} {K : Value → World → Prop} (h : W122 a0_0 a0_1 a1_0 a1_1 w K) : CallW Tryz.prog 122 #[.agg #[.int .i64 a0_0, .int .i64 a0_1], .agg #[.int .i64 a1_0, .int .i64 a1_1]] w K :=
  .inl ⟨ok122, denFn_sound tt_ok mix Tryz.func122 (by kernel_rfl) (eq122 a0_0 a0_1 a1_0 a1_1 w K ▸ h)⟩

/- loop.example/g00008/spec.l8Whole -/
def an123 : Ann := (.seq .leaf (.seq (.seq .leaf (.cond (.seq .leaf .leaf) .leaf)) (.seq (.seq .leaf (.in_ (.loop 7 [(7, .int .i64)] (.seq (.seq .leaf (.cond .leaf .leaf)) (.seq (.in_ (.seq .leaf (.cond (.seq .leaf .leaf) .leaf))) .leaf))))) (.seq .leaf .leaf))))
def W123 (a0 : Sl) (a1 : Int) (a2 : Int) (w : World) (K : Value → World → Prop) : Prop :=
  BIf (decide ((IntKind.wrap .i64 (a1 + a2) : Int) > ((a0.len : Nat) : Int))) (K (.bool false) w) (LoopW [.int .i64] (fun J2 => fun (n1 : Int) w3 => BIf (decide ((n1 : Int) < a2)) (0 ≤ (IntKind.wrap .i64 (a1 + n1) : Int) ∧ (IntKind.wrap .i64 (a1 + n1) : Int) < ((a0.len : Nat) : Int) ∧ ∃ q4 : Addr, (a0.a : Option Addr) = some q4 ∧ ∃ b5 : Bool, w3.cell? (q4.add (Int.toNat (IntKind.wrap .i64 (a1 + n1)) * 1)) = some (.bool b5) ∧ BIf (!b5) (K (.bool false) w3) (J2 (IntKind.wrap .i64 (n1 + 1)) w3)) (K (.bool true) w3)) ((0 : Int), ()) w)
theorem eq123 (a0 : Sl) (a1 : Int) (a2 : Int) (w : World) (K : Value → World → Prop) : denFn Tryz.prog tt Tryz.f123 an123 [.slice a0.a a0.len a0.cap, .int .i64 a1, .int .i64 a2] w K = W123 a0 a1 a2 w K := by kernel_rfl
theorem ok123 : OkFn Tryz.prog 123 := ⟨Tryz.f123, Tryz.func123, by kernel_rfl, by kernel_rfl⟩
theorem go123 {a0 : Sl} {a1 : Int} {a2 : Int} {w : World} {K : Value → World → Prop} (h : W123 a0 a1 a2 w K) : CallW Tryz.prog 123 #[.slice a0.a a0.len a0.cap, .int .i64 a1, .int .i64 a2] w K :=
  .inl ⟨ok123, denFn_sound tt_ok mix Tryz.func123 (by kernel_rfl) (eq123 a0 a1 a2 w K ▸ h)⟩

/- loop.example/g00008/spec.l1Pow -/
def an124 : Ann := (.seq .leaf (.seq .leaf (.seq (.seq .leaf (.in_ (.loop 1 [(3, .int .u64), (4, .int .i64)] (.seq (.seq .leaf (.cond .leaf .leaf)) (.seq (.in_ .leaf) .leaf))))) (.seq .leaf .leaf))))
def W124 (a0 : Int) (w : World) (K : Value → World → Prop) : Prop :=
  LoopW [.int .u64, .int .i64] (fun J3 => fun (n1 : Int) (n2 : Int) w4 => BIf (decide ((n2 : Int) < a0)) (J3 (IntKind.wrap .u64 (n1 * 2)) (IntKind.wrap .i64 (n2 + 1)) w4) (K (.int .u64 n1) w4)) ((1 : Int), ((0 : Int), ())) w
theorem eq124 (a0 : Int) (w : World) (K : Value → World → Prop) : denFn Tryz.prog tt Tryz.f124 an124 [.int .i64 a0] w K = W124 a0 w K := by kernel_rfl
theorem ok124 : OkFn Tryz.prog 124 := ⟨Tryz.f124, Tryz.func124, by kernel_rfl, by kernel_rfl⟩
theorem go124 {a0 : Int} {w : World} {K : Value → World → Prop} (h : W124 a0 w K) : CallW Tryz.prog 124 #[.int .i64 a0] w K :=
  .inl ⟨ok124, denFn_sound tt_ok mix Tryz.func124 (by kernel_rfl) (eq124 a0 w K ▸ h)⟩

/- loop.example/g00008/spec.l1SizeOk -/
def an125 : Ann := (.seq .leaf (.seq (.reg [(3, none), (3, some (1, [(8, .bool)])), (1, none), (3, some (1, [(12, .bool)])), (1, none), (3, some (0, [(16, .bool)])), (1, none)]) .leaf))
def W125 (a0 : Int) (w : World) (K : Value → World → Prop) : Prop :=
  JoinW [.bool] (fun J2 => BIf ((a0 : Int) == 1) (J2 true w) (J2 ((a0 : Int) == 2) w)) (fun (b1 : Bool) w3 => JoinW [.bool] (fun J5 => BIf b1 (J5 true w3) (J5 ((a0 : Int) == 4) w3)) (fun (b4 : Bool) w6 => JoinW [.bool] (fun J8 => BIf b4 (J8 true w6) (J8 ((a0 : Int) == 8) w6)) (fun (b7 : Bool) w9 => K (.bool b7) w9)))
theorem eq125 (a0 : Int) (w : World) (K : Value → World → Prop) : denFn Tryz.prog tt Tryz.f125 an125 [.int .i64 a0] w K = W125 a0 w K := by kernel_rfl
theorem ok125 : OkFn Tryz.prog 125 := ⟨Tryz.f125, Tryz.func125, by kernel_rfl, by kernel_rfl⟩
theorem go125 {a0 : Int} {w : World} {K : Value → World → Prop} (h : W125 a0 w K) : CallW Tryz.prog 125 #[.int .i64 a0] w K :=
  .inl ⟨ok125, denFn_sound tt_ok mix Tryz.func125 (by kernel_rfl) (eq125 a0 w K ▸ h)⟩

/- loop.example/g00008/impl.framesOf$1 -/
def an127 : Ann := (.seq .leaf (.seq (.seq .leaf (.cond .leaf .leaf)) (.seq (.seq (.reg [(7, none), (9, some (151, [(29, .bool)]))]) (.cond (.seq .leaf .leaf) .leaf)) (.seq (.seq .leaf (.cond .leaf .leaf)) (.seq .leaf .leaf)))))
def W127 (a0 : Int) (a1 : Int) (c0 : Addr) (c1 : Addr) (c2 : Addr) (w : World) (K : Value → World → Prop) : Prop :=
  0 ≤ (a1 : Int) ∧ ∃ n1 : Int, w.cell? (c0.add 0) = some (.int .i64 n1) ∧ BIf (decide ((a0 : Int) ≥ n1)) (K (.tuple #[]) w) (∃ n2 : Int, w.cell? (c0.add 0) = some (.int .i64 n2) ∧ JoinW [.bool] (fun J4 => BIf (decide ((IntKind.wrap .i64 (a0 + (shlI .i64 1 a1)) : Int) ≤ n2)) (∃ l17 : Sl, w.cell? c1 = some (.slice l17.a l17.len l17.cap) ∧ 0 ≤ (IntKind.wrap .i64 (a0 + (shlI .i64 1 a1)) : Int) ∧ (IntKind.wrap .i64 (a0 + (shlI .i64 1 a1)) : Int) ≤ ((l17.cap : Nat) : Int) ∧ 0 ≤ (a0 : Int) ∧ (a0 : Int) ≤ (IntKind.wrap .i64 (a0 + (shlI .i64 1 a1)) : Int) ∧ CallW Tryz.prog 128 #[.slice (cutA l17.a l17.cap (Int.toNat a0) 1) (Int.toNat (IntKind.wrap .i64 (a0 + (shlI .i64 1 a1))) - Int.toNat a0) (l17.cap - Int.toNat a0), .bool false] w fun v18 w19 => ∃ b20 : Bool, v18 = .bool b20 ∧ J4 (!b20) w19) (J4 false w)) (fun (b3 : Bool) w5 => BIf b3 (∃ l6 : Sl, w5.cell? (c0.add 1) = some (.slice l6.a l6.len l6.cap) ∧ LetW (w5.alloc (.cells #[.int .i64 a0, .int .i64 a1] 113)) fun w7 => AppendW 113 ti113 l6 ⟨some ⟨w5.heap.size, 0, none⟩, 1, 1⟩ w7 fun l8 w9 => May w9 (c0.add 1) ∧ LetW (w9.setCell (c0.add 1) (.slice l8.a l8.len l8.cap)) fun w10 => K (.tuple #[]) w10) (BIf ((a1 : Int) == 0) (K (.tuple #[]) w5) (∃ f11 : FnV, w5.cell? c2 = some (.func (.func f11.g) ⟨f11.x⟩ ⟨f11.c⟩) ∧ CallW Tryz.prog f11.g ⟨f11.x ++ ([.int .i64 a0, .int .i64 (IntKind.wrap .i64 (a1 - 1))] ++ f11.c)⟩ w5 fun v12 w13 => v12 = .tuple #[] ∧ ∃ f14 : FnV, w13.cell? c2 = some (.func (.func f14.g) ⟨f14.x⟩ ⟨f14.c⟩) ∧ (2 : Int) ≠ 0 ∧ CallW Tryz.prog f14.g ⟨f14.x ++ ([.int .i64 (IntKind.wrap .i64 (a0 + (IntKind.wrap .i64 (Int.tdiv (shlI .i64 1 a1) 2)))), .int .i64 (IntKind.wrap .i64 (a1 - 1))] ++ f14.c)⟩ w13 fun v15 w16 => v15 = .tuple #[] ∧ K (.tuple #[]) w16))))
theorem eq127 (a0 : Int) (a1 : Int) (c0 : Addr) (c1 : Addr) (c2 : Addr) (w : World) (K : Value → World → Prop) : denFn Tryz.prog tt Tryz.f127 an127 [.int .i64 a0, .int .i64 a1, .pointer (some c0), .pointer (some c1), .pointer (some c2)] w K = W127 a0 a1 c0 c1 c2 w K := by kernel_rfl
theorem ok127 : OkFn Tryz.prog 127 := ⟨Tryz.f127, Tryz.func127, by kernel_rfl, by kernel_rfl⟩
theorem go127 {a0 : Int} {a1 : Int} {c0 : Addr} {c1 : Addr} {c2 : Addr} {w : World} {K : Value → World → Prop} (h : W127 a0 a1 c0 c1 c2 w K) : CallW Tryz.prog 127 #[.int .i64 a0, .int .i64 a1, .pointer (some c0), .pointer (some c1), .pointer (some c2)] w K :=
  .inl ⟨ok127, denFn_sound tt_ok mix Tryz.func127 (by kernel_rfl) (eq127 a0 a1 c0 c1 c2 w K ▸ h)⟩

/- slices.Contains[[]bool,bool] -/
def an128 : Ann := (.seq .leaf (.seq .leaf .leaf))
def W128 (a0 : Sl) (a1 : Bool) (w : World) (K : Value → World → Prop) : Prop :=
  CallW Tryz.prog 129 #[.slice a0.a a0.len a0.cap, .bool a1] w fun v1 w2 => ∃ n3 : Int, v1 = .int .i64 n3 ∧ K (.bool (decide ((n3 : Int) ≥ 0))) w2
theorem eq128 (a0 : Sl) (a1 : Bool) (w : World) (K : Value → World → Prop) : denFn Tryz.prog tt Tryz.f128 an128 [.slice a0.a a0.len a0.cap, .bool a1] w K = W128 a0 a1 w K := by kernel_rfl
theorem ok128 : OkFn Tryz.prog 128 := ⟨Tryz.f128, Tryz.func128, by kernel_rfl, by kernel_rfl⟩
theorem go128 {a0 : Sl} {a1 : Bool} {w : World} {K : Value → World → Prop} (h : W128 a0 a1 w K) : CallW Tryz.prog 128 #[.slice a0.a a0.len a0.cap, .bool a1] w K :=
  .inl ⟨ok128, denFn_sound tt_ok mix Tryz.func128 (by kernel_rfl) (eq128 a0 a1 w K ▸ h)⟩

/- slices.Index[[]bool,bool] -/
def an129 : Ann := (.seq .leaf (.seq (.seq .leaf (.in_ (.loop 131 [(8, .int .i64)] (.seq .leaf (.seq (.cond .leaf .leaf) (.seq (.in_ (.seq .leaf (.seq .leaf (.cond (.seq .leaf .leaf) .leaf)))) .leaf)))))) (.seq .leaf .leaf)))
def W129 (a0 : Sl) (a1 : Bool) (w : World) (K : Value → World → Prop) : Prop :=
  LoopW [.int .i64] (fun J2 => fun (n1 : Int) w3 => BIf (decide ((n1 : Int) < ((a0.len : Nat) : Int))) (0 ≤ (n1 : Int) ∧ (n1 : Int) < ((a0.len : Nat) : Int) ∧ ∃ q4 : Addr, (a0.a : Option Addr) = some q4 ∧ ∃ b5 : Bool, w3.cell? (q4.add (Int.toNat n1 * 1)) = some (.bool b5) ∧ BIf (a1 == b5) (K (.int .i64 n1) w3) (J2 (IntKind.wrap .i64 (n1 + 1)) w3)) (K (.int .i64 (-1)) w3)) ((0 : Int), ()) w
theorem eq129 (a0 : Sl) (a1 : Bool) (w : World) (K : Value → World → Prop) : denFn Tryz.prog tt Tryz.f129 an129 [.slice a0.a a0.len a0.cap, .bool a1] w K = W129 a0 a1 w K := by kernel_rfl
theorem ok129 : OkFn Tryz.prog 129 := ⟨Tryz.f129, Tryz.func129, by kernel_rfl, by kernel_rfl⟩
theorem go129 {a0 : Sl} {a1 : Bool} {w : World} {K : Value → World → Prop} (h : W129 a0 a1 w K) : CallW Tryz.prog 129 #[.slice a0.a a0.len a0.cap, .bool a1] w K :=
  .inl ⟨ok129, denFn_sound tt_ok mix Tryz.func129 (by kernel_rfl) (eq129 a0 a1 w K ▸ h)⟩

end Go.Proofs.YtkgoanjemhbjgaaGreat

/- The types of the laws' parameters, as values of Lean's. Conditions: none. -/
set_option linter.unusedVariables false
set_option maxRecDepth 100000
namespace Go.Proofs.YtkgoanjemhbjgaaGreat
open Go Go.Den
theorem o5 : Opens Tryz.prog 5 (cInt .u8) := opens_int Tryz.underlying5
theorem o22 : Opens Tryz.prog 22 (cSlice (cInt .u8)) := opens_slice Tryz.underlying22 (by kernel_rfl) o5
theorem o2 : Opens Tryz.prog 2 (cInt .i64) := opens_int Tryz.underlying2
structure DBlock where
  At : Int
  Order : Int
def cDBlock : Cod DBlock := cMap (cPair (cInt .i64) (cPair (cInt .i64) cUnit)) (fun x => ⟨x.1, x.2.1⟩)
abbrev TyBlock : Ty := .st [(.int .i64), (.int .i64)]
def DBlock.dat (x : DBlock) : Dat := .st [.int .i64 x.At, .int .i64 x.Order]
theorem cDBlock_dat {w : World} {cs : List Value} {x : DBlock} (h : cDBlock.is w cs x) : IsD w x.dat cs := by
  obtain ⟨y, rfl, ⟨a0, b0, rfl, _, h0, ⟨a1, b1, rfl, _, h1, z⟩⟩⟩ := h
  exact isD_mkSt (isF_mk (isD_mkInt h0) (isF_mk (isD_mkInt h1) (isF_mk0 z)))
theorem DBlock.has (x : DBlock) : Has TyBlock x.dat := mk_st (mkF_cons (mk_int) (mkF_cons (mk_int) (mkF_nil)))
theorem DBlock.is_cells {w : World} {cs : List Value} {x : DBlock} (h : IsD w x.dat cs) : cs = [.int .i64 x.At, .int .i64 x.Order] := by
  have q := isD_st h
  obtain ⟨_, _, rfl, i0, q⟩ := isF_cons q
  obtain ⟨_, _, rfl, i1, q⟩ := isF_cons q
  obtain rfl := isF_nil q
  obtain ⟨rfl, _⟩ := isD_int i0
  obtain ⟨rfl, _⟩ := isD_int i1
  rfl
def DBlock.cells (x : DBlock) : List Value := [.int .i64 x.At, .int .i64 x.Order]
theorem o146 : Opens Tryz.prog 146 cDBlock := opens_map _ (opens_struct Tryz.underlying146 (by kernel_rfl) (opensF_cons rfl (by kernel_rfl) o2 (opensF_cons rfl (by kernel_rfl) o2 opensF_nil)))
theorem o23 : Opens Tryz.prog 23 (cSlice cDBlock) := opens_slice Tryz.underlying23 (by kernel_rfl) o146
structure DFrames where
  Total : Int
  Free : List DBlock
def cDFrames : Cod DFrames := cMap (cPair (cInt .i64) (cPair (cSlice cDBlock) cUnit)) (fun x => ⟨x.1, x.2.1⟩)
abbrev TyFrames : Ty := .st [(.int .i64), (.sl 2 TyBlock)]
def DFrames.dat (x : DFrames) : Dat := .st [.int .i64 x.Total, .sl 2 (x.Free.map (DBlock.dat))]
theorem cDFrames_dat {w : World} {cs : List Value} {x : DFrames} (h : cDFrames.is w cs x) : IsD w x.dat cs := by
  obtain ⟨y, rfl, ⟨a0, b0, rfl, _, h0, ⟨a1, b1, rfl, _, h1, z⟩⟩⟩ := h
  exact isD_mkSt (isF_mk (isD_mkInt h0) (isF_mk (isD_mkSl (f := DBlock.dat) h1 (fun es x hx => cDBlock_dat hx)) (isF_mk0 z)))
theorem DFrames.has (x : DFrames) : Has TyFrames x.dat := mk_st (mkF_cons (mk_int) (mkF_cons (mk_sl (fun e he => by obtain ⟨y, _, rfl⟩ := List.mem_map.1 he; exact DBlock.has _)) (mkF_nil)))
theorem o25 : Opens Tryz.prog 25 cDFrames := opens_map _ (opens_struct Tryz.underlying25 (by kernel_rfl) (opensF_cons rfl (by kernel_rfl) o2 (opensF_cons rfl (by kernel_rfl) o23 opensF_nil)))
structure DPool where
  Mem : List Int
  Free : DFrames
def cDPool : Cod DPool := cMap (cPair (cSlice (cInt .u8)) (cPair cDFrames cUnit)) (fun x => ⟨x.1, x.2.1⟩)
abbrev TyPool : Ty := .st [(.sl 1 (.int .u8)), TyFrames]
def DPool.dat (x : DPool) : Dat := .st [.sl 1 (x.Mem.map (Dat.int .u8)), x.Free.dat]
theorem cDPool_dat {w : World} {cs : List Value} {x : DPool} (h : cDPool.is w cs x) : IsD w x.dat cs := by
  obtain ⟨y, rfl, ⟨a0, b0, rfl, _, h0, ⟨a1, b1, rfl, _, h1, z⟩⟩⟩ := h
  exact isD_mkSt (isF_mk (isD_mkSl (f := Dat.int .u8) h0 (fun es x hx => isD_mkInt hx)) (isF_mk (cDFrames_dat h1) (isF_mk0 z)))
theorem DPool.has (x : DPool) : Has TyPool x.dat := mk_st (mkF_cons (mk_sl (fun e he => by obtain ⟨y, _, rfl⟩ := List.mem_map.1 he; exact mk_int)) (mkF_cons (DFrames.has _) (mkF_nil)))
theorem o27 : Opens Tryz.prog 27 cDPool := opens_map _ (opens_struct Tryz.underlying27 (by kernel_rfl) (opensF_cons rfl (by kernel_rfl) o22 (opensF_cons rfl (by kernel_rfl) o25 opensF_nil)))
end Go.Proofs.YtkgoanjemhbjgaaGreat

/- The types of the laws' parameters, as values of Lean's. Conditions: none. -/
set_option linter.unusedVariables false
set_option maxRecDepth 100000
namespace Go.Proofs.YtkgoanjemhbjgaaGreat
open Go Go.Den
structure DEntry where
  Valid : Bool
  Read : Bool
  Write : Bool
  Exec : Bool
  User : Bool
  Seen : Bool
  Dirty : Bool
  Soft : Bool
  Frame : Int
def DEntry.cells (x : DEntry) : List Value := [.bool x.Valid, .bool x.Read, .bool x.Write, .bool x.Exec, .bool x.User, .bool x.Seen, .bool x.Dirty, .bool x.Soft, .int .i64 x.Frame]
end Go.Proofs.YtkgoanjemhbjgaaGreat

/- The types of the laws' parameters, as values of Lean's. Conditions: none. -/
set_option linter.unusedVariables false
set_option maxRecDepth 100000
namespace Go.Proofs.YtkgoanjemhbjgaaGreat
open Go Go.Den
end Go.Proofs.YtkgoanjemhbjgaaGreat

/- The law's own functions over trees: copies, sizes, comparisons, marks; printed by a program. Conditions: none. -/
set_option linter.unusedVariables false
set_option linter.unusedSimpArgs false
set_option maxRecDepth 4000
namespace Go.Proofs.YtkgoanjemhbjgaaGreat
open Go Go.Den

theorem has_Block {d : Dat} (h : Has TyBlock d) : ∃ x_0 : Int, ∃ x_1 : Int, d = .st [.int .i64 x_0, .int .i64 x_1] := by
  obtain ⟨_, rfl, g⟩ := has_st h
  obtain ⟨_, _, rfl, h_0, g⟩ := hasF_cons g
  obtain ⟨_, _, rfl, h_1, g⟩ := hasF_cons g
  obtain rfl := hasF_nil g
  obtain ⟨x_0, rfl⟩ := has_int h_0
  obtain ⟨x_1, rfl⟩ := has_int h_1
  exact ⟨x_0, x_1, rfl⟩
theorem cells_Block {w : World} {x_0 : Int} {x_1 : Int} {cs : List Value} (h : IsD w (.st [.int .i64 x_0, .int .i64 x_1]) cs) : cs = [.int .i64 x_0, .int .i64 x_1] ∧ ((Lit.int .i64 x_0).wf = true) ∧ ((Lit.int .i64 x_1).wf = true) := by
  have q := isD_st h
  obtain ⟨_, _, rfl, i_0, q⟩ := isF_cons q
  obtain ⟨_, _, rfl, i_1, q⟩ := isF_cons q
  obtain rfl := isF_nil q
  obtain ⟨rfl, ws_0⟩ := isD_int i_0
  obtain ⟨rfl, ws_1⟩ := isD_int i_1
  exact ⟨rfl, ws_0, ws_1⟩
theorem has_Frames {d : Dat} (h : Has TyFrames d) : ∃ x_0 : Int, ∃ l_1 : List Dat, d = .st [.int .i64 x_0, .sl 2 l_1] ∧ (∀ e, e ∈ l_1 → Has TyBlock e) := by
  obtain ⟨_, rfl, g⟩ := has_st h
  obtain ⟨_, _, rfl, h_0, g⟩ := hasF_cons g
  obtain ⟨_, _, rfl, h_1, g⟩ := hasF_cons g
  obtain rfl := hasF_nil g
  obtain ⟨x_0, rfl⟩ := has_int h_0
  obtain ⟨l_1, rfl, t_1⟩ := has_sl h_1
  exact ⟨x_0, l_1, rfl, t_1⟩
theorem cells_Frames {w : World} {x_0 : Int} {l_1 : List Dat} {cs : List Value} (h : IsD w (.st [.int .i64 x_0, .sl 2 l_1]) cs) : ∃ s_1 : Sl, cs = [.int .i64 x_0, .slice s_1.a s_1.len s_1.cap] ∧ ((Lit.int .i64 x_0).wf = true) ∧ (IsD w (.sl 2 l_1) [.slice s_1.a s_1.len s_1.cap]) := by
  have q := isD_st h
  obtain ⟨_, _, rfl, i_0, q⟩ := isF_cons q
  obtain ⟨_, _, rfl, i_1, q⟩ := isF_cons q
  obtain rfl := isF_nil q
  obtain ⟨rfl, ws_0⟩ := isD_int i_0
  obtain ⟨s_1, rfl⟩ := isD_sl_s i_1
  have is_1 := i_1
  exact ⟨s_1, rfl, ws_0, is_1⟩
theorem has_Pool {d : Dat} (h : Has TyPool d) : ∃ l_0 : List Dat, ∃ x_1_0 : Int, ∃ l_1_1 : List Dat, d = .st [.sl 1 l_0, .st [.int .i64 x_1_0, .sl 2 l_1_1]] ∧ (∀ e, e ∈ l_0 → Has (.int .u8) e) ∧ (Has TyFrames (.st [.int .i64 x_1_0, .sl 2 l_1_1])) ∧ (∀ e, e ∈ l_1_1 → Has TyBlock e) := by
  obtain ⟨_, rfl, g⟩ := has_st h
  obtain ⟨_, _, rfl, h_0, g⟩ := hasF_cons g
  obtain ⟨_, _, rfl, h_1, g⟩ := hasF_cons g
  obtain rfl := hasF_nil g
  obtain ⟨l_0, rfl, t_0⟩ := has_sl h_0
  have h_1k := h_1
  obtain ⟨x_1_0, l_1_1, rfl, t_1_1⟩ := has_Frames h_1
  exact ⟨l_0, x_1_0, l_1_1, rfl, t_0, h_1k, t_1_1⟩
theorem cells_Pool {w : World} {l_0 : List Dat} {x_1_0 : Int} {l_1_1 : List Dat} {cs : List Value} (h : IsD w (.st [.sl 1 l_0, .st [.int .i64 x_1_0, .sl 2 l_1_1]]) cs) : ∃ s_0 : Sl, ∃ s_1_1 : Sl, cs = [.slice s_0.a s_0.len s_0.cap, .int .i64 x_1_0, .slice s_1_1.a s_1_1.len s_1_1.cap] ∧ (IsD w (.sl 1 l_0) [.slice s_0.a s_0.len s_0.cap]) ∧ (IsD w (.st [.int .i64 x_1_0, .sl 2 l_1_1]) [.int .i64 x_1_0, .slice s_1_1.a s_1_1.len s_1_1.cap]) ∧ ((Lit.int .i64 x_1_0).wf = true) ∧ (IsD w (.sl 2 l_1_1) [.slice s_1_1.a s_1_1.len s_1_1.cap]) := by
  have q := isD_st h
  obtain ⟨_, _, rfl, i_0, q⟩ := isF_cons q
  obtain ⟨_, _, rfl, i_1, q⟩ := isF_cons q
  obtain rfl := isF_nil q
  obtain ⟨s_0, rfl⟩ := isD_sl_s i_0
  have is_0 := i_0
  have is_1 := i_1
  obtain ⟨s_1_1, rfl, ws_1_0, is_1_1⟩ := cells_Frames i_1
  exact ⟨s_0, s_1_1, rfl, is_0, is_1, ws_1_0, is_1_1⟩
/- toByteS -/
theorem c31 {l : List Dat} {a0 : Sl} {w : World} (ht : ∀ e, e ∈ l → Has (.int .u8) e) (h : IsD w (.sl 1 l) [.slice a0.a a0.len a0.cap]) (hs : (Dat.sl 1 l).sz ≤ 4194304) : CallW Tryz.prog 31 #[.slice a0.a a0.len a0.cap] w (fun v w' => ∃ s : Sl, v = .slice s.a s.len s.cap ∧ Fr w.heap.size w'.heap.size w' (.sl 1 l) [.slice s.a s.len s.cap] ∧ Ext w w') := by
  refine go31 ?_
  unfold W31
  obtain ⟨hlen, hmax, hel⟩ := isD_sl h
  simp only [Dat.sz] at hs
  rw [hlen]; simp only [Int.toNat_natCast]
  refine ⟨by omega, by omega, by omega, by omega, LetW_iff.2 ?_⟩
  have hs0 := ToInv.start (w := w) (z := 1) (zero := ti5.zero) (e := 5) l rfl
  generalize w.alloc (.cells ⟨zerosOf ti5.zero l.length⟩ 5) = w1 at *
  refine LoopW.m1 (fun (i : Int) w' => ∃ (k : Nat) (bs : List Nat) (vs : List Value), i = k ∧ ToInv w w' w.heap.size 1 l k bs vs) (fun (i : Int) _ => (l.length - i).toNat) ⟨0, [], _, rfl, hs0⟩ ?_
  rintro (i : Int) w4 ⟨k, bs, vs, rfl, hi⟩ J hJ
  refine BIf.dec (fun hlt => ?_) (fun hge => ?_)
  · obtain ⟨d, hd⟩ : ∃ d, l[k]? = some d := ⟨_, List.getElem?_eq_getElem (by omega)⟩
    have hsz := szs_get hd
    obtain ⟨p, es, hp, he, hc, his⟩ := isD_at (IsD.ext hi.ext _ _ h) hd
    have ht0 := ht d (mem_get hd)
    obtain ⟨x, rfl⟩ := has_int ht0
    obtain ⟨rfl, ws⟩ := isD_int his
    obtain ⟨b1, ho, hn, hb⟩ := fr_int (lo := w4.heap.size) (hi := w4.heap.size) (w := w4) ws
    obtain ⟨hm, hi2⟩ := hi.step hd (Only.refl _ _) ho hn (fun c hc => (hb c hc).1) rfl
    rw [puts_one] at hi2
    refine ⟨by omega, by omega, p, hp, _, hc 0 _ rfl, by omega, by omega, _, rfl, mayN_one hm, LetW_iff.2 ?_⟩
    rw [w64 (by omega) (by omega)]
    exact hJ _ _ ⟨k + 1, _, _, by omega, hi2⟩ (by omega)
  · exact ⟨⟨some ⟨w.heap.size, 0, none⟩, l.length, l.length⟩, rfl, (hi.done (by omega) hmax).fr, hi.ext⟩

/- toBlock -/
theorem c116 {d : Dat} {cs : List Value} {w : World} (ht : Has TyBlock d) (h : IsD w d cs) (hs : d.sz ≤ 4194304) : CallW Tryz.prog 116 #[.agg ⟨cs⟩] w (fun v w' => ∃ cs', v = .agg ⟨cs'⟩ ∧ Fr w.heap.size w'.heap.size w' d cs' ∧ Ext w w') := by
  obtain ⟨x_0, x_1, rfl⟩ := has_Block ht
  obtain ⟨rfl, ws_0, ws_1⟩ := cells_Block h
  show CallW Tryz.prog 116 #[.agg #[.int .i64 x_0, .int .i64 x_1]] w _
  refine go116 ?_
  unfold W116
  refine alloc_step (fun w1 e1 ha n1 => ?_)
  refine alloc_step (fun w2 e2 hc n2 => ?_)
  have ha := ha.ext e2
  refine alloc_step (fun w3 e3 hb n3 => ?_)
  have ha := ha.ext e3
  have hc := hc.ext e3
  have e := Only.trans e1 (Only.trans e2 e3)
  refine ⟨_, ha.cell 0, ?_⟩
  refine set_step hb (by simp) (fun w4 o4 hb n4 => ?_)
  have ha := ha.only o4 (by omega)
  have hc := hc.only o4 (by omega)
  have e := Ext.own e o4 (fun k hk => by omega)
  refine ⟨_, ha.cell 1, ?_⟩
  refine set_step hb (by simp) (fun w5 o5 hb n5 => ?_)
  have ha := ha.only o5 (by omega)
  have hc := hc.only o5 (by omega)
  have e := Ext.own e o5 (fun k hk => by omega)
  refine ⟨_, hb.cell 0, _, hb.cell 1, ?_⟩
  refine put_step hc rfl rfl (fun w6 o6 hc n6 => ?_)
  have e := Ext.own e o6 (fun k hk => by omega)
  refine ⟨_, hc.cell 0, _, hc.cell 1, ?_⟩
  exact ⟨[.int .i64 x_0, .int .i64 x_1], rfl, frF_st (frF_cons (m := w.heap.size) (fr_int ws_0) (frF_cons (m := w.heap.size) (fr_int ws_1) (frF_nil) (by omega) (by omega)) (by omega) (by omega)), e⟩

/- toBlockS -/
theorem c82 {l : List Dat} {a0 : Sl} {w : World} (ht : ∀ e, e ∈ l → Has TyBlock e) (h : IsD w (.sl 2 l) [.slice a0.a a0.len a0.cap]) (hs : (Dat.sl 2 l).sz ≤ 4194304) : CallW Tryz.prog 82 #[.slice a0.a a0.len a0.cap] w (fun v w' => ∃ s : Sl, v = .slice s.a s.len s.cap ∧ Fr w.heap.size w'.heap.size w' (.sl 2 l) [.slice s.a s.len s.cap] ∧ Ext w w') := by
  refine go82 ?_
  unfold W82
  obtain ⟨hlen, hmax, hel⟩ := isD_sl h
  simp only [Dat.sz] at hs
  rw [hlen]; simp only [Int.toNat_natCast]
  refine ⟨by omega, by omega, by omega, by omega, LetW_iff.2 ?_⟩
  have hs0 := ToInv.start (w := w) (z := 2) (zero := ti113.zero) (e := 113) l rfl
  generalize w.alloc (.cells ⟨zerosOf ti113.zero l.length⟩ 113) = w1 at *
  refine LoopW.m1 (fun (i : Int) w' => ∃ (k : Nat) (bs : List Nat) (vs : List Value), i = k ∧ ToInv w w' w.heap.size 2 l k bs vs) (fun (i : Int) _ => (l.length - i).toNat) ⟨0, [], _, rfl, hs0⟩ ?_
  rintro (i : Int) w4 ⟨k, bs, vs, rfl, hi⟩ J hJ
  refine BIf.dec (fun hlt => ?_) (fun hge => ?_)
  · obtain ⟨d, hd⟩ : ∃ d, l[k]? = some d := ⟨_, List.getElem?_eq_getElem (by omega)⟩
    have hsz := szs_get hd
    obtain ⟨p, es, hp, he, hc, his⟩ := isD_at (IsD.ext hi.ext _ _ h) hd
    have ht0 := ht d (mem_get hd)
    obtain ⟨x_0, x_1, rfl⟩ := has_Block ht0
    have his0 := his
    obtain ⟨rfl, ws_0, ws_1⟩ := cells_Block his
    refine ⟨by omega, by omega, p, hp, _, hc 0 _ rfl, _, hc 1 _ rfl, (c116 (cs := [.int .i64 x_0, .int .i64 x_1]) ht0 his0 (by omega)).mono ?_⟩
    rintro _ w9 ⟨r, rfl, f, e9⟩
    have hr := f.is
    obtain ⟨rfl, wr_0, wr_1⟩ := cells_Block hr
    obtain ⟨b1, ho, hn, hb⟩ := f
    obtain ⟨hm, hi2⟩ := hi.step hd e9 ho hn (fun c hc => (hb c hc).1) rfl
    refine ⟨_, _, rfl, by omega, by omega, _, rfl, hm, LetW_iff.2 ?_⟩
    rw [w64 (by omega) (by omega)]
    exact hJ _ _ ⟨k + 1, _, _, by omega, hi2⟩ (by omega)
  · exact ⟨⟨some ⟨w.heap.size, 0, none⟩, l.length, l.length⟩, rfl, (hi.done (by omega) hmax).fr, hi.ext⟩

/- toFrames -/
theorem c32 {d : Dat} {cs : List Value} {w : World} (ht : Has TyFrames d) (h : IsD w d cs) (hs : d.sz ≤ 4194304) : CallW Tryz.prog 32 #[.agg ⟨cs⟩] w (fun v w' => ∃ cs', v = .agg ⟨cs'⟩ ∧ Fr w.heap.size w'.heap.size w' d cs' ∧ Ext w w') := by
  obtain ⟨x_0, l_1, rfl, t_1⟩ := has_Frames ht
  obtain ⟨s_1, rfl, ws_0, is_1⟩ := cells_Frames h
  show CallW Tryz.prog 32 #[.agg #[.int .i64 x_0, .slice s_1.a s_1.len s_1.cap]] w _
  refine go32 ?_
  unfold W32
  refine alloc_step (fun w1 e1 ha n1 => ?_)
  refine alloc_step (fun w2 e2 hc n2 => ?_)
  have ha := ha.ext e2
  refine alloc_step (fun w3 e3 hb n3 => ?_)
  have ha := ha.ext e3
  have hc := hc.ext e3
  have e := Only.trans e1 (Only.trans e2 e3)
  refine ⟨_, ha.cell 0, ?_⟩
  refine set_step hb (by simp) (fun w4 o4 hb n4 => ?_)
  have ha := ha.only o4 (by omega)
  have hc := hc.only o4 (by omega)
  have e := Ext.own e o4 (fun k hk => by omega)
  refine ⟨s_1, ha.cell 1, ?_⟩
  refine (c82 t_1 (IsD.ext e _ _ is_1) (by simp only [Dat.sz, Dat.szs] at hs ⊢; omega)).mono ?_
  rintro _ w5 ⟨r_1, rfl, f_1, e5⟩
  refine ⟨r_1, rfl, ?_⟩
  have ha := ha.ext e5
  have hb := hb.ext e5
  have hc := hc.ext e5
  have e := Only.trans e e5
  have z5 := e5.size
  refine set_step hb (by simp) (fun w6 o6 hb n6 => ?_)
  have ha := ha.only o6 (by omega)
  have hc := hc.only o6 (by omega)
  have e := Ext.own e o6 (fun k hk => by omega)
  have f_1 := f_1.only o6 (fun k _ _ => by omega)
  refine ⟨_, hb.cell 0, r_1, hb.cell 1, ?_⟩
  refine put_step hc rfl rfl (fun w7 o7 hc n7 => ?_)
  have e := Ext.own e o7 (fun k hk => by omega)
  have f_1 := f_1.only o7 (fun k _ _ => by omega)
  refine ⟨_, hc.cell 0, r_1, hc.cell 1, ?_⟩
  exact ⟨[.int .i64 x_0, .slice r_1.a r_1.len r_1.cap], rfl, frF_st (frF_cons (m := w.heap.size) (fr_int ws_0) (frF_cons (m := w5.heap.size) (f_1.mono (by omega) (Nat.le_refl _)) (frF_nil) (by omega) (by omega)) (by omega) (by omega)), e⟩

/- toPool -/
theorem c7 {d : Dat} {cs : List Value} {w : World} (ht : Has TyPool d) (h : IsD w d cs) (hs : d.sz ≤ 4194304) : CallW Tryz.prog 7 #[.agg ⟨cs⟩] w (fun v w' => ∃ cs', v = .agg ⟨cs'⟩ ∧ Fr w.heap.size w'.heap.size w' d cs' ∧ Ext w w') := by
  obtain ⟨l_0, x_1_0, l_1_1, rfl, t_0, h_1k, t_1_1⟩ := has_Pool ht
  obtain ⟨s_0, s_1_1, rfl, is_0, is_1, ws_1_0, is_1_1⟩ := cells_Pool h
  show CallW Tryz.prog 7 #[.agg #[.slice s_0.a s_0.len s_0.cap, .int .i64 x_1_0, .slice s_1_1.a s_1_1.len s_1_1.cap]] w _
  refine go7 ?_
  unfold W7
  refine alloc_step (fun w1 e1 ha n1 => ?_)
  refine alloc_step (fun w2 e2 hc n2 => ?_)
  have ha := ha.ext e2
  refine alloc_step (fun w3 e3 hb n3 => ?_)
  have ha := ha.ext e3
  have hc := hc.ext e3
  have e := Only.trans e1 (Only.trans e2 e3)
  refine ⟨s_0, ha.cell 0, ?_⟩
  refine (c31 t_0 (IsD.ext e _ _ is_0) (by simp only [Dat.sz, Dat.szs] at hs ⊢; omega)).mono ?_
  rintro _ w4 ⟨r_0, rfl, f_0, e4⟩
  refine ⟨r_0, rfl, ?_⟩
  have ha := ha.ext e4
  have hb := hb.ext e4
  have hc := hc.ext e4
  have e := Only.trans e e4
  have z4 := e4.size
  refine set_step hb (by simp) (fun w5 o5 hb n5 => ?_)
  have ha := ha.only o5 (by omega)
  have hc := hc.only o5 (by omega)
  have e := Ext.own e o5 (fun k hk => by omega)
  have f_0 := f_0.only o5 (fun k _ _ => by omega)
  refine ⟨_, ha.cell 1, s_1_1, ha.cell 2, ?_⟩
  refine (c32 (cs := [.int .i64 x_1_0, .slice s_1_1.a s_1_1.len s_1_1.cap]) h_1k (IsD.ext e _ _ is_1) (by simp only [Dat.sz, Dat.szs] at hs ⊢; omega)).mono ?_
  rintro _ w6 ⟨r_1, rfl, f_1, e6⟩
  have hr_1 := f_1.is
  obtain ⟨r_1_1, rfl, wr_1_0, ir_1_1⟩ := cells_Frames hr_1
  refine ⟨_, r_1_1, rfl, ?_⟩
  have ha := ha.ext e6
  have hb := hb.ext e6
  have hc := hc.ext e6
  have e := Only.trans e e6
  have z6 := e6.size
  have f_0 := f_0.ext e6
  refine putAt_step hb rfl (by simp [setAll_length]) (fun w7 o7 hb n7 => ?_)
  have ha := ha.only o7 (by omega)
  have hc := hc.only o7 (by omega)
  have e := Ext.own e o7 (fun k hk => by omega)
  have f_0 := f_0.only o7 (fun k _ _ => by omega)
  have f_1 := f_1.only o7 (fun k _ _ => by omega)
  refine ⟨r_0, hb.cell 0, _, hb.cell 1, r_1_1, hb.cell 2, ?_⟩
  refine put_step hc rfl rfl (fun w8 o8 hc n8 => ?_)
  have e := Ext.own e o8 (fun k hk => by omega)
  have f_0 := f_0.only o8 (fun k _ _ => by omega)
  have f_1 := f_1.only o8 (fun k _ _ => by omega)
  refine ⟨r_0, hc.cell 0, _, hc.cell 1, r_1_1, hc.cell 2, ?_⟩
  exact ⟨[.slice r_0.a r_0.len r_0.cap, .int .i64 x_1_0, .slice r_1_1.a r_1_1.len r_1_1.cap], rfl, frF_st (frF_cons (m := w4.heap.size) (f_0.mono (by omega) (Nat.le_refl _)) (frF_cons (m := w6.heap.size) (f_1.mono (by omega) (Nat.le_refl _)) (frF_nil) (by omega) (by omega)) (by omega) (by omega)), e⟩

/- szByteS -/
theorem c22 {l : List Dat} {a0 : Sl} {left : Int} {w : World} (ht : ∀ e, e ∈ l → Has (.int .u8) e) (h : IsD w (.sl 1 l) [.slice a0.a a0.len a0.cap]) (h0 : 0 ≤ left) (hl : left ≤ 4611686018427387904) : CallW Tryz.prog 22 #[.slice a0.a a0.len a0.cap, .int .i64 left] w (fun v w' => SzPost (Dat.sl 1 l).sz left v ∧ Ext w w') := by
  refine go22 ?_
  unfold W22
  obtain ⟨hlen, hmax, hel⟩ := isD_sl h
  have hmx : maxLen = 9223372036854775807 := rfl
  rw [hlen, w64 (by omega) (by omega)]
  have hz : Dat.szs l = 0 := by
    refine szs_zero (fun d hd => ?_)
    have ht0 := ht d hd
    obtain ⟨x, rfl⟩ := has_int ht0
    rfl
  refine BIf.dec (fun hn => ⟨⟨_, rfl, .inr ⟨by omega, by simp only [Dat.sz]; omega⟩⟩, Only.refl _ _⟩) (fun hp => ⟨⟨_, rfl, .inl ⟨by simp only [Dat.sz]; omega, by omega⟩⟩, Only.refl _ _⟩)

/- szBlockS -/
theorem c72 {l : List Dat} {a0 : Sl} {left : Int} {w : World} (ht : ∀ e, e ∈ l → Has TyBlock e) (h : IsD w (.sl 2 l) [.slice a0.a a0.len a0.cap]) (h0 : 0 ≤ left) (hl : left ≤ 4611686018427387904) : CallW Tryz.prog 72 #[.slice a0.a a0.len a0.cap, .int .i64 left] w (fun v w' => SzPost (Dat.sl 2 l).sz left v ∧ Ext w w') := by
  refine go72 ?_
  unfold W72
  obtain ⟨hlen, hmax, hel⟩ := isD_sl h
  have hmx : maxLen = 9223372036854775807 := rfl
  rw [hlen, w64 (by omega) (by omega)]
  have hz : Dat.szs l = 0 := by
    refine szs_zero (fun d hd => ?_)
    have ht0 := ht d hd
    obtain ⟨x_0, x_1, rfl⟩ := has_Block ht0
    rfl
  refine BIf.dec (fun hn => ⟨⟨_, rfl, .inr ⟨by omega, by simp only [Dat.sz]; omega⟩⟩, Only.refl _ _⟩) (fun hp => ⟨⟨_, rfl, .inl ⟨by simp only [Dat.sz]; omega, by omega⟩⟩, Only.refl _ _⟩)

/- szFrames -/
theorem c23 {d : Dat} {cs : List Value} {left : Int} {w : World} (ht : Has TyFrames d) (h : IsD w d cs) (h0 : 0 ≤ left) (hl : left ≤ 4611686018427387904) : CallW Tryz.prog 23 #[.agg ⟨cs⟩, .int .i64 left] w (fun v w' => SzPost d.sz left v ∧ Ext w w') := by
  obtain ⟨x_0, l_1, rfl, t_1⟩ := has_Frames ht
  obtain ⟨s_1, rfl, ws_0, is_1⟩ := cells_Frames h
  show CallW Tryz.prog 23 #[.agg #[.int .i64 x_0, .slice s_1.a s_1.len s_1.cap], .int .i64 left] w _
  refine go23 ?_
  unfold W23
  refine alloc_step (fun w1 e ha n1 => ?_)
  have hmx : maxLen = 9223372036854775807 := rfl
  have hx : (0 : Int) ≤ left ∧ left ≤ left := ⟨h0, Int.le_refl _⟩
  have hd := Int.sub_zero left
  refine ⟨s_1, ha.cell 1, (c72 t_1 (IsD.ext e _ _ is_1) (by omega) (by omega)).mono ?_⟩
  rintro _ w2 ⟨⟨r2, rfl, hr2⟩, e2⟩
  have ha := ha.ext e2
  have e := Only.trans e e2
  refine ⟨r2, rfl, BIf.dec (fun hn => ⟨⟨_, rfl, .inr ⟨by omega, by simp only [Dat.sz, Dat.szs] at *; omega⟩⟩, e⟩) (fun hp2 => ?_)⟩
  exact ⟨⟨_, rfl, .inl ⟨by simp only [Dat.sz, Dat.szs] at *; omega, by omega⟩⟩, e⟩

/- szPool -/
theorem c5 {d : Dat} {cs : List Value} {left : Int} {w : World} (ht : Has TyPool d) (h : IsD w d cs) (h0 : 0 ≤ left) (hl : left ≤ 4611686018427387904) : CallW Tryz.prog 5 #[.agg ⟨cs⟩, .int .i64 left] w (fun v w' => SzPost d.sz left v ∧ Ext w w') := by
  obtain ⟨l_0, x_1_0, l_1_1, rfl, t_0, h_1k, t_1_1⟩ := has_Pool ht
  obtain ⟨s_0, s_1_1, rfl, is_0, is_1, ws_1_0, is_1_1⟩ := cells_Pool h
  show CallW Tryz.prog 5 #[.agg #[.slice s_0.a s_0.len s_0.cap, .int .i64 x_1_0, .slice s_1_1.a s_1_1.len s_1_1.cap], .int .i64 left] w _
  refine go5 ?_
  unfold W5
  refine alloc_step (fun w1 e ha n1 => ?_)
  have hmx : maxLen = 9223372036854775807 := rfl
  have hx : (0 : Int) ≤ left ∧ left ≤ left := ⟨h0, Int.le_refl _⟩
  have hd := Int.sub_zero left
  refine ⟨s_0, ha.cell 0, (c22 t_0 (IsD.ext e _ _ is_0) (by omega) (by omega)).mono ?_⟩
  rintro _ w2 ⟨⟨r2, rfl, hr2⟩, e2⟩
  have ha := ha.ext e2
  have e := Only.trans e e2
  refine ⟨r2, rfl, BIf.dec (fun hn => ⟨⟨_, rfl, .inr ⟨by omega, by simp only [Dat.sz, Dat.szs] at *; omega⟩⟩, e⟩) (fun hp2 => ?_)⟩
  refine ⟨_, ha.cell 1, s_1_1, ha.cell 2, (c23 (cs := [.int .i64 x_1_0, .slice s_1_1.a s_1_1.len s_1_1.cap]) h_1k (IsD.ext e _ _ is_1) (by omega) (by omega)).mono ?_⟩
  rintro _ w3 ⟨⟨r3, rfl, hr3⟩, e3⟩
  have ha := ha.ext e3
  have e := Only.trans e e3
  refine ⟨r3, rfl, BIf.dec (fun hn => ⟨⟨_, rfl, .inr ⟨by omega, by simp only [Dat.sz, Dat.szs] at *; omega⟩⟩, e⟩) (fun hp3 => ?_)⟩
  exact ⟨⟨_, rfl, .inl ⟨by simp only [Dat.sz, Dat.szs] at *; omega, by omega⟩⟩, e⟩

/- eqByteS -/
theorem c44 {l : List Dat} {a0 a1 : Sl} {w : World} (ht : ∀ e, e ∈ l → Has (.int .u8) e) (h : IsD w (.sl 1 l) [.slice a0.a a0.len a0.cap]) (h2 : IsD w (.sl 1 l) [.slice a1.a a1.len a1.cap]) : CallW Tryz.prog 44 #[.slice a0.a a0.len a0.cap, .slice a1.a a1.len a1.cap] w (fun v w' => v = .bool true ∧ Ext w w') := by
  refine go44 ?_
  unfold W44
  obtain ⟨hlen, hmax, hel⟩ := isD_sl h
  obtain ⟨hlen2, _, hel2⟩ := isD_sl h2
  have hmx : maxLen = 9223372036854775807 := rfl
  rw [hlen, hlen2]
  refine BIf.f (by simp) ?_
  refine LoopW.m1 (fun (i : Int) w' => ∃ k : Nat, i = k ∧ k ≤ l.length ∧ Ext w w') (fun (i : Int) _ => (l.length - i).toNat) ⟨0, rfl, by omega, Only.refl _ _⟩ ?_
  rintro (i : Int) w4 ⟨k, rfl, hk, e4⟩ J hJ
  refine BIf.dec (fun hlt => ?_) (fun hge => ⟨rfl, e4⟩)
  obtain ⟨d, hd⟩ : ∃ d, l[k]? = some d := ⟨_, List.getElem?_eq_getElem (by omega)⟩
  have e4 := Only.trans e4 (ext_drew w4)
  obtain ⟨p, es, hp, he, hc, his⟩ := isD_at (IsD.ext e4 _ _ h) hd
  obtain ⟨p2, es2, hp2, he2, hc2, his2⟩ := isD_at (IsD.ext e4 _ _ h2) hd
  have ht0 := ht d (mem_get hd)
  have ht1 := ht0
  obtain ⟨x, rfl⟩ := has_int ht1
  obtain ⟨rfl, ws⟩ := isD_int his
  obtain ⟨rfl, wu⟩ := isD_int his2
  refine ⟨by omega, by omega, p, hp, _, hc 0 _ rfl, by omega, by omega, p2, hp2, _, hc2 0 _ rfl, BIf.f (by simp) ?_⟩
  rw [w64 (by omega) (by omega)]
  exact hJ _ _ ⟨k + 1, by omega, by omega, e4⟩ (by omega)

/- eqBlock -/
theorem c122 {d : Dat} {cs1 cs2 : List Value} {w : World} (ht : Has TyBlock d) (h : IsD w d cs1) (h2 : IsD w d cs2) : CallW Tryz.prog 122 #[.agg ⟨cs1⟩, .agg ⟨cs2⟩] w (fun v w' => v = .bool true ∧ Ext w w') := by
  obtain ⟨x_0, x_1, rfl⟩ := has_Block ht
  obtain ⟨rfl, ws_0, ws_1⟩ := cells_Block h
  obtain ⟨rfl, wu_0, wu_1⟩ := cells_Block h2
  show CallW Tryz.prog 122 #[.agg #[.int .i64 x_0, .int .i64 x_1], .agg #[.int .i64 x_0, .int .i64 x_1]] w _
  refine go122 ?_
  unfold W122
  refine alloc_step (fun w1 e1 ha n1 => ?_)
  refine alloc_step (fun w2 e2 hb n2 => ?_)
  have ha := ha.ext e2
  have e := Only.trans e1 e2
  refine ⟨_, ha.cell 0, _, hb.cell 0, BIf.f (by simp) ?_⟩
  refine ⟨_, ha.cell 1, _, hb.cell 1, BIf.f (by simp) ?_⟩
  exact ⟨rfl, e⟩

/- eqBlockS -/
theorem c95 {l : List Dat} {a0 a1 : Sl} {w : World} (ht : ∀ e, e ∈ l → Has TyBlock e) (h : IsD w (.sl 2 l) [.slice a0.a a0.len a0.cap]) (h2 : IsD w (.sl 2 l) [.slice a1.a a1.len a1.cap]) : CallW Tryz.prog 95 #[.slice a0.a a0.len a0.cap, .slice a1.a a1.len a1.cap] w (fun v w' => v = .bool true ∧ Ext w w') := by
  refine go95 ?_
  unfold W95
  obtain ⟨hlen, hmax, hel⟩ := isD_sl h
  obtain ⟨hlen2, _, hel2⟩ := isD_sl h2
  have hmx : maxLen = 9223372036854775807 := rfl
  rw [hlen, hlen2]
  refine BIf.f (by simp) ?_
  refine LoopW.m1 (fun (i : Int) w' => ∃ k : Nat, i = k ∧ k ≤ l.length ∧ Ext w w') (fun (i : Int) _ => (l.length - i).toNat) ⟨0, rfl, by omega, Only.refl _ _⟩ ?_
  rintro (i : Int) w4 ⟨k, rfl, hk, e4⟩ J hJ
  refine BIf.dec (fun hlt => ?_) (fun hge => ⟨rfl, e4⟩)
  obtain ⟨d, hd⟩ : ∃ d, l[k]? = some d := ⟨_, List.getElem?_eq_getElem (by omega)⟩
  have e4 := Only.trans e4 (ext_drew w4)
  obtain ⟨p, es, hp, he, hc, his⟩ := isD_at (IsD.ext e4 _ _ h) hd
  obtain ⟨p2, es2, hp2, he2, hc2, his2⟩ := isD_at (IsD.ext e4 _ _ h2) hd
  have ht0 := ht d (mem_get hd)
  have ht1 := ht0
  obtain ⟨x_0, x_1, rfl⟩ := has_Block ht1
  have his0 := his
  have his20 := his2
  obtain ⟨rfl, ws_0, ws_1⟩ := cells_Block his
  obtain ⟨rfl, wu_0, wu_1⟩ := cells_Block his2
  refine ⟨by omega, by omega, p, hp, _, hc 0 _ rfl, _, hc 1 _ rfl, by omega, by omega, p2, hp2, _, hc2 0 _ rfl, _, hc2 1 _ rfl, (c122 (cs1 := [.int .i64 x_0, .int .i64 x_1]) (cs2 := [.int .i64 x_0, .int .i64 x_1]) ht0 his0 his20).mono ?_⟩
  rintro _ w9 ⟨rfl, e9⟩
  refine ⟨true, rfl, BIf.f rfl ?_⟩
  rw [w64 (by omega) (by omega)]
  exact hJ _ _ ⟨k + 1, by omega, by omega, Only.trans e4 e9⟩ (by omega)

/- eqFrames -/
theorem c45 {d : Dat} {cs1 cs2 : List Value} {w : World} (ht : Has TyFrames d) (h : IsD w d cs1) (h2 : IsD w d cs2) : CallW Tryz.prog 45 #[.agg ⟨cs1⟩, .agg ⟨cs2⟩] w (fun v w' => v = .bool true ∧ Ext w w') := by
  obtain ⟨x_0, l_1, rfl, t_1⟩ := has_Frames ht
  obtain ⟨s_1, rfl, ws_0, is_1⟩ := cells_Frames h
  obtain ⟨u_1, rfl, wu_0, iu_1⟩ := cells_Frames h2
  show CallW Tryz.prog 45 #[.agg #[.int .i64 x_0, .slice s_1.a s_1.len s_1.cap], .agg #[.int .i64 x_0, .slice u_1.a u_1.len u_1.cap]] w _
  refine go45 ?_
  unfold W45
  refine alloc_step (fun w1 e1 ha n1 => ?_)
  refine alloc_step (fun w2 e2 hb n2 => ?_)
  have ha := ha.ext e2
  have e := Only.trans e1 e2
  refine ⟨_, ha.cell 0, _, hb.cell 0, BIf.f (by simp) ?_⟩
  refine ⟨s_1, ha.cell 1, u_1, hb.cell 1, (c95 t_1 (IsD.ext e _ _ is_1) (IsD.ext e _ _ iu_1)).mono ?_⟩
  rintro _ w3 ⟨rfl, e3⟩
  have ha := ha.ext e3
  have hb := hb.ext e3
  have e := Only.trans e e3
  refine ⟨true, rfl, BIf.f rfl ?_⟩
  exact ⟨rfl, e⟩

/- eqPool -/
theorem c9 {d : Dat} {cs1 cs2 : List Value} {w : World} (ht : Has TyPool d) (h : IsD w d cs1) (h2 : IsD w d cs2) : CallW Tryz.prog 9 #[.agg ⟨cs1⟩, .agg ⟨cs2⟩] w (fun v w' => v = .bool true ∧ Ext w w') := by
  obtain ⟨l_0, x_1_0, l_1_1, rfl, t_0, h_1k, t_1_1⟩ := has_Pool ht
  obtain ⟨s_0, s_1_1, rfl, is_0, is_1, ws_1_0, is_1_1⟩ := cells_Pool h
  obtain ⟨u_0, u_1_1, rfl, iu_0, iu_1, wu_1_0, iu_1_1⟩ := cells_Pool h2
  show CallW Tryz.prog 9 #[.agg #[.slice s_0.a s_0.len s_0.cap, .int .i64 x_1_0, .slice s_1_1.a s_1_1.len s_1_1.cap], .agg #[.slice u_0.a u_0.len u_0.cap, .int .i64 x_1_0, .slice u_1_1.a u_1_1.len u_1_1.cap]] w _
  refine go9 ?_
  unfold W9
  refine alloc_step (fun w1 e1 ha n1 => ?_)
  refine alloc_step (fun w2 e2 hb n2 => ?_)
  have ha := ha.ext e2
  have e := Only.trans e1 e2
  refine ⟨s_0, ha.cell 0, u_0, hb.cell 0, (c44 t_0 (IsD.ext e _ _ is_0) (IsD.ext e _ _ iu_0)).mono ?_⟩
  rintro _ w3 ⟨rfl, e3⟩
  have ha := ha.ext e3
  have hb := hb.ext e3
  have e := Only.trans e e3
  refine ⟨true, rfl, BIf.f rfl ?_⟩
  refine ⟨_, ha.cell 1, s_1_1, ha.cell 2, _, hb.cell 1, u_1_1, hb.cell 2, (c45 (cs1 := [.int .i64 x_1_0, .slice s_1_1.a s_1_1.len s_1_1.cap]) (cs2 := [.int .i64 x_1_0, .slice u_1_1.a u_1_1.len u_1_1.cap]) h_1k (IsD.ext e _ _ is_1) (IsD.ext e _ _ iu_1)).mono ?_⟩
  rintro _ w4 ⟨rfl, e4⟩
  have ha := ha.ext e4
  have hb := hb.ext e4
  have e := Only.trans e e4
  refine ⟨true, rfl, BIf.f rfl ?_⟩
  exact ⟨rfl, e⟩

end Go.Proofs.YtkgoanjemhbjgaaGreat

/- The law's own functions over trees: copies, sizes, comparisons, marks; printed by a program. Conditions: none. -/
set_option linter.unusedVariables false
set_option linter.unusedSimpArgs false
set_option maxRecDepth 4000
namespace Go.Proofs.YtkgoanjemhbjgaaGreat
open Go Go.Den


/- markByteS -/
theorem c46 {l : List Dat} {a0 : Sl} {bs : List Nat} {k0 : Int} {w : World} (ht : ∀ e, e ∈ l → Has (.int .u8) e) (h : OwnD w (.sl 1 l) bs [.slice a0.a a0.len a0.cap]) (hn : bs.Nodup) (h0 : 1 ≤ k0) (hk : k0 + Dat.cnts l ≤ 1099511627776) : CallW Tryz.prog 46 #[.slice a0.a a0.len a0.cap, .int .i64 k0] w (fun v w' => v = .int .i64 (k0 + Dat.cnts l) ∧ ∃ l', l'.length = l.length ∧ Dat.cnts l' = Dat.cnts l ∧ (∀ e, e ∈ l' → Has (.int .u8) e) ∧ MarkedF TXT l' k0 ∧ OwnD w' (.sl 1 l') bs [.slice a0.a a0.len a0.cap] ∧ Only (fun k => k ∈ bs) w w') := by
  refine go46 ?_
  unfold W46
  obtain ⟨hlen, hmax⟩ := ownD_len h
  have hmx : maxLen = 9223372036854775807 := rfl
  rw [hlen]
  refine LoopW.m2 (fun (x i : Int) w' => ∃ (k : Nat) (l' : List Dat), i = k ∧ k ≤ l.length ∧ l'.length = k ∧ x = k0 + Dat.cnts l' ∧ Dat.cnts l' = Dat.cnts (l.take k) ∧ (∀ e, e ∈ l' → Has (.int .u8) e) ∧ MarkedF TXT l' k0 ∧ OwnD w' (.sl 1 (l' ++ l.drop k)) bs [.slice a0.a a0.len a0.cap] ∧ Only (fun k => k ∈ bs) w w') (fun _ (i : Int) _ => (l.length - i).toNat) ⟨0, [], rfl, by omega, rfl, by simp [Dat.cnts], by simp [Dat.cnts], fun e he => (by cases he), markedF_nil, by simpa using h, Only.refl _ _⟩ ?_
  rintro (kx : Int) (i : Int) w4 ⟨k, l', rfl, hkl, hl', hx, hcn, hty, hmk, ho, o4⟩ J hJ
  refine BIf.dec (fun hlt => ?_) (fun hge => ?_)
  · obtain ⟨d, hd⟩ : ∃ d, l[k]? = some d := ⟨_, List.getElem?_eq_getElem (by omega)⟩
    have hcg := cnts_get hd
    have hct := cnts_take hd
    have ht0 := ht d (mem_get hd)
    obtain ⟨x, rfl⟩ := has_int ht0
    simp only [Dat.cnt, Dat.cnts] at hcg hct
    obtain ⟨b, bp, b1, bq, vp, v1, vq, ha, hbs, hvp, hod, hm, hvl, hlc, _⟩ := ownD_at ho (get_app hl' hd)
    rw [(take_app hl').1, (take_app hl').2] at hm
    have hv0 := hm.len
    have hbs0 := hbs
    rw [Int.toNat_natCast, ← hvp]
    simp (disch := omega) only [w64]
    refine ⟨by omega, by omega, _, ha, ?_⟩
    obtain ⟨hmay, hm2, o5⟩ := hm.set (fun c hc he => by rw [hbs] at hn; simp only [List.nodup_cons, List.mem_append, not_or] at hn; subst he; rcases hc with hc | hc; exact hn.1.1 hc; exact hn.1.2.2 hc) (j := 0) (by omega) (.int .u8 (IntKind.wrap .u8 (kx)))
    refine ⟨hmay, LetW_iff.2 ?_⟩
    have o4 := Only.trans o4 (o5.mono (fun c _ hc => by subst hc; rw [hbs]; simp))
    have hrow := row_close (bs := bs) (a0 := a0) (d' := .int .u8 (IntKind.wrap .u8 (kx))) hm2 (bd := b1) (by obtain ⟨hb1, hc1⟩ := sc_int _ _ hod; subst hb1; obtain ⟨y, rfl⟩ : ∃ y, v1 = [y] := by { match v1, hc1 with | [y], _ => exact ⟨y, rfl⟩ }; exact own_int wf_u8w) hvp hl' (by omega) ha (by rw [hlen]) hbs (by have : (l' ++ l.drop k).length = l.length := (by simp; omega); omega) hmax hv0 hvl
    refine hJ _ _ _ ⟨k + 1, l' ++ [_], by omega, by omega, by simp; omega, ?_, ?_, has_snoc hty mk_int, markedF_snoc hmk (marked_int rfl) hx, hrow, o4⟩ (by omega)
    · rw [cnts_snoc]; simp only [Dat.cnt, Dat.cnts]; omega
    · rw [cnts_snoc, hct]; simp only [Dat.cnt, Dat.cnts]; omega
  · have hkl2 : k = l.length := by omega
    subst hkl2
    rw [List.take_length] at hcn
    rw [List.drop_length, List.append_nil, hlen] at ho
    exact ⟨by rw [hx, hcn], l', hl', hcn, hty, hmk, ho, o4⟩

/- markBlockS -/
theorem c96 {l : List Dat} {a0 : Sl} {bs : List Nat} {k0 : Int} {w : World} (ht : ∀ e, e ∈ l → Has TyBlock e) (h : OwnD w (.sl 2 l) bs [.slice a0.a a0.len a0.cap]) (hn : bs.Nodup) (h0 : 1 ≤ k0) (hk : k0 + Dat.cnts l ≤ 1099511627776) : CallW Tryz.prog 96 #[.slice a0.a a0.len a0.cap, .int .i64 k0] w (fun v w' => v = .int .i64 (k0 + Dat.cnts l) ∧ ∃ l', l'.length = l.length ∧ Dat.cnts l' = Dat.cnts l ∧ (∀ e, e ∈ l' → Has TyBlock e) ∧ MarkedF TXT l' k0 ∧ OwnD w' (.sl 2 l') bs [.slice a0.a a0.len a0.cap] ∧ Only (fun k => k ∈ bs) w w') := by
  refine go96 ?_
  unfold W96
  obtain ⟨hlen, hmax⟩ := ownD_len h
  have hmx : maxLen = 9223372036854775807 := rfl
  rw [hlen]
  refine LoopW.m2 (fun (x i : Int) w' => ∃ (k : Nat) (l' : List Dat), i = k ∧ k ≤ l.length ∧ l'.length = k ∧ x = k0 + Dat.cnts l' ∧ Dat.cnts l' = Dat.cnts (l.take k) ∧ (∀ e, e ∈ l' → Has TyBlock e) ∧ MarkedF TXT l' k0 ∧ OwnD w' (.sl 2 (l' ++ l.drop k)) bs [.slice a0.a a0.len a0.cap] ∧ Only (fun k => k ∈ bs) w w') (fun _ (i : Int) _ => (l.length - i).toNat) ⟨0, [], rfl, by omega, rfl, by simp [Dat.cnts], by simp [Dat.cnts], fun e he => (by cases he), markedF_nil, by simpa using h, Only.refl _ _⟩ ?_
  rintro (kx : Int) (i : Int) w4 ⟨k, l', rfl, hkl, hl', hx, hcn, hty, hmk, ho, o4⟩ J hJ
  refine BIf.dec (fun hlt => ?_) (fun hge => ?_)
  · obtain ⟨d, hd⟩ : ∃ d, l[k]? = some d := ⟨_, List.getElem?_eq_getElem (by omega)⟩
    have hcg := cnts_get hd
    have hct := cnts_take hd
    have ht0 := ht d (mem_get hd)
    obtain ⟨x_0, x_1, rfl⟩ := has_Block ht0
    simp only [Dat.cnt, Dat.cnts] at hcg hct
    obtain ⟨b, bp, b1, bq, vp, v1, vq, ha, hbs, hvp, hod, hm, hvl, hlc, _⟩ := ownD_at ho (get_app hl' hd)
    rw [(take_app hl').1, (take_app hl').2] at hm
    have hv0 := hm.len
    have hbs0 := hbs
    rw [Int.toNat_natCast, ← hvp]
    simp (disch := omega) only [w64]
    have hbs : bs = b :: (bp ++ (([] ++ b1) ++ bq)) := hbs
    have me : ME w4 b 2 l' (l.drop (k + 1)) bp bq vp vq [] _ [] b1 [] v1 := ⟨hm, by unfold OwnF; exact ⟨rfl, rfl⟩, ownD_st hod, by rw [← hbs]; exact hn⟩
    refine ⟨by omega, by omega, _, ha, ?_⟩
    refine me.sc (d' := .int .i64 (kx)) sc_int (fun w => own_int (wf_i64 (by omega) (by omega))) rfl (fun w5 cr5 o5 me => ?_)
    have o4 := Only.trans o4 (o5.mono (fun c _ hc => by subst hc; rw [hbs]; simp))
    refine ⟨by omega, by omega, _, ha, ?_⟩
    refine me.sc (d' := .int .i64 (kx + 1)) sc_int (fun w => own_int (wf_i64 (by omega) (by omega))) rfl (fun w6 cr6 o6 me => ?_)
    have o4 := Only.trans o4 (o6.mono (fun c _ hc => by subst hc; rw [hbs]; simp))
    obtain ⟨hm2, hod2, hbr⟩ := me.fin
    subst hbr
    have hrow := row_close (bs := bs) (a0 := a0) hm2 hod2 hvp hl' (by omega) ha (by rw [hlen]) (by rw [hbs, List.append_nil]) (by have : (l' ++ l.drop k).length = l.length := (by simp; omega); omega) hmax hv0 hvl
    have hmkd : Marked TXT (.st [.int .i64 (kx), .int .i64 (kx + 1)]) kx := marked_st (markedF_cons (k := kx) (k' := kx + 1) (marked_int (by rw [w64 (by omega) (by omega)])) (markedF_cons (k := kx + 1) (k' := kx + 1 + 1) (marked_int (by rw [w64 (by omega) (by omega)])) (markedF_nil (k := kx + 1 + 1)) (by simp only [Dat.cnt]; omega)) (by simp only [Dat.cnt]; omega))
    have hhas : Has TyBlock (.st [.int .i64 (kx), .int .i64 (kx + 1)]) := mk_st (mkF_cons mk_int (mkF_cons mk_int (mkF_nil)))
    refine hJ _ _ _ ⟨k + 1, l' ++ [_], by omega, by omega, by simp; omega, ?_, ?_, has_snoc hty hhas, markedF_snoc hmk hmkd hx, hrow, o4⟩ (by omega)
    · rw [cnts_snoc]; simp only [Dat.cnt, Dat.cnts]; omega
    · rw [cnts_snoc, hct]; simp only [Dat.cnt, Dat.cnts]; omega
  · have hkl2 : k = l.length := by omega
    subst hkl2
    rw [List.take_length] at hcn
    rw [List.drop_length, List.append_nil, hlen] at ho
    exact ⟨by rw [hx, hcn], l', hl', hcn, hty, hmk, ho, o4⟩

/- markFrames -/
theorem c47 {d : Dat} {cs : List Value} {bs : List Nat} {k0 : Int} {w : World} (ht : Has TyFrames d) (h : OwnD w d bs cs) (hn : bs.Nodup) (h0 : 1 ≤ k0) (hk : k0 + d.cntT ≤ 1099511627776) : CallW Tryz.prog 47 #[.agg ⟨cs⟩, .int .i64 k0] w (fun v w' => v = .int .i64 (k0 + d.cntT) ∧ ∃ d', d'.cntT = d.cntT ∧ Has TyFrames d' ∧ MarkedT TXT d' k0 ∧ OwnD w' d' bs cs ∧ Only (fun k => k ∈ bs) w w') := by
 obtain ⟨x_0, l_1, rfl, t_1⟩ := has_Frames ht
 simp only [Dat.cntT, Dat.cntTs] at hk
 have f_ := ownD_st h
 obtain ⟨b_0, r_0, c_0, u_0, rfl, rfl, h_0, f_0⟩ := ownF_cons f_
 obtain ⟨b_1, r_1, c_1, u_1, rfl, rfl, h_1, f_1⟩ := ownF_cons f_0
 obtain ⟨rfl, rfl⟩ := ownF_nil f_1
 obtain ⟨rfl, rfl, wo_0⟩ := ownD_i h_0
 obtain ⟨s_1, rfl⟩ := ownD_sl_s h_1
 have nd0 := (List.nodup_append.1 hn).1
 have dj0 := (List.nodup_append.1 hn).2.2
 have hn0 := (List.nodup_append.1 hn).2.1
 have nd1 := (List.nodup_append.1 hn0).1
 have dj1 := (List.nodup_append.1 hn0).2.2
 have hn1 := (List.nodup_append.1 hn0).2.1
 have lt1 := OwnD.lt _ _ _ h_1
 show CallW Tryz.prog 47 #[.agg #[.int .i64 x_0, .slice s_1.a s_1.len s_1.cap], .int .i64 k0] w _
 refine go47 ?_
 unfold W47
 refine alloc_step (fun w1 e1 hb n1 => ?_)
 have o_1 := OwnD.only e1 _ _ _ (fun _ _ x => x) h_1
 have ot : Only (fun k => k ∈ b_1) w w1 := Ext.any e1
 refine ⟨s_1, hb.cell 1, (c96 t_1 o_1 nd1 (by omega) (by omega)).mono ?_⟩
 rintro _ w3 ⟨rfl, m_1, _, cn_1, hs_1, mk_1, ow_1, oo⟩
 refine ⟨_, rfl, ?_⟩
 have hb := hb.only oo (fun hk => by have := lt1 _ hk; omega)
 have ot := Only.trans ot (oo.mono (fun c _ hc => by (try simp only [List.mem_append, List.not_mem_nil, or_false, false_or] at hc); (try simp only [List.mem_append, List.not_mem_nil, or_false, false_or]); first | (simp [hc]; done) | (rcases hc with hc | hc <;> simp [hc]; done) | (rcases hc with hc | hc | hc <;> simp [hc])))
 refine ⟨by congr 1; simp only [Dat.cntT, Dat.cntTs]; omega, .st [.int .i64 x_0, .sl 2 m_1], by simp only [Dat.cntT, Dat.cntTs]; omega, mk_st (mkF_cons mk_int (mkF_cons (mk_sl hs_1) (mkF_nil))), markedT_st (markedTF_cons (k' := k0) markedT_int (markedTF_cons (k' := k0 + (Dat.cnts l_1 : Nat)) (marked_slT mk_1) (markedTF_nil) (by simp only [Dat.cntT, Dat.cntTs] at *; omega)) (by simp only [Dat.cntT]; omega)), ownD_mkSt (ownF_mk (own_int wo_0) (ownF_mk ow_1 (ownF_mk0))), ot.mono (fun c _ hc => by (try simp only [List.mem_append, List.not_mem_nil, or_false, false_or] at hc); (try simp only [List.mem_append, List.not_mem_nil, or_false, false_or]); first | (simp [hc]; done) | (rcases hc with hc | hc <;> simp [hc]; done) | (rcases hc with hc | hc | hc <;> simp [hc]))⟩

/- markPool -/
theorem c10 {d : Dat} {cs : List Value} {bs : List Nat} {k0 : Int} {w : World} (ht : Has TyPool d) (h : OwnD w d bs cs) (hn : bs.Nodup) (h0 : 1 ≤ k0) (hk : k0 + d.cntT ≤ 1099511627776) : CallW Tryz.prog 10 #[.agg ⟨cs⟩, .int .i64 k0] w (fun v w' => v = .int .i64 (k0 + d.cntT) ∧ ∃ d', d'.cntT = d.cntT ∧ Has TyPool d' ∧ MarkedT TXT d' k0 ∧ OwnD w' d' bs cs ∧ Only (fun k => k ∈ bs) w w') := by
 obtain ⟨l_0, x_1_0, l_1_1, rfl, t_0, h_1k, t_1_1⟩ := has_Pool ht
 simp only [Dat.cntT, Dat.cntTs] at hk
 have f_ := ownD_st h
 obtain ⟨b_0, r_0, c_0, u_0, rfl, rfl, h_0, f_0⟩ := ownF_cons f_
 obtain ⟨b_1, r_1, c_1, u_1, rfl, rfl, h_1, f_1⟩ := ownF_cons f_0
 obtain ⟨rfl, rfl⟩ := ownF_nil f_1
 obtain ⟨s_0, rfl⟩ := ownD_sl_s h_0
 have f_1 := ownD_st h_1
 obtain ⟨b_1_0, r_1_0, c_1_0, u_1_0, rfl, rfl, h_1_0, f_1_0⟩ := ownF_cons f_1
 obtain ⟨b_1_1, r_1_1, c_1_1, u_1_1, rfl, rfl, h_1_1, f_1_1⟩ := ownF_cons f_1_0
 obtain ⟨rfl, rfl⟩ := ownF_nil f_1_1
 obtain ⟨rfl, rfl, wo_1_0⟩ := ownD_i h_1_0
 obtain ⟨s_1_1, rfl⟩ := ownD_sl_s h_1_1
 have nd0 := (List.nodup_append.1 hn).1
 have dj0 := (List.nodup_append.1 hn).2.2
 have hn0 := (List.nodup_append.1 hn).2.1
 have nd1 := (List.nodup_append.1 hn0).1
 have dj1 := (List.nodup_append.1 hn0).2.2
 have hn1 := (List.nodup_append.1 hn0).2.1
 have lt0 := OwnD.lt _ _ _ h_0
 have lt1 := OwnD.lt _ _ _ h_1
 show CallW Tryz.prog 10 #[.agg #[.slice s_0.a s_0.len s_0.cap, .int .i64 x_1_0, .slice s_1_1.a s_1_1.len s_1_1.cap], .int .i64 k0] w _
 refine go10 ?_
 unfold W10
 refine alloc_step (fun w1 e1 hb n1 => ?_)
 have o_0 := OwnD.only e1 _ _ _ (fun _ _ x => x) h_0
 have o_1 := OwnD.only e1 _ _ _ (fun _ _ x => x) h_1
 have ot : Only (fun k => k ∈ b_0 ∨ k ∈ ([] ++ (b_1_1 ++ []))) w w1 := Ext.any e1
 refine ⟨s_0, hb.cell 0, (c46 t_0 o_0 nd0 (by omega) (by omega)).mono ?_⟩
 rintro _ w2 ⟨rfl, m_0, _, cn_0, hs_0, mk_0, ow_0, oo⟩
 refine ⟨_, rfl, ?_⟩
 have hb := hb.only oo (fun hk => by have := lt0 _ hk; omega)
 have ot := Only.trans ot (oo.mono (fun c _ hc => by (try simp only [List.mem_append, List.not_mem_nil, or_false, false_or] at hc); (try simp only [List.mem_append, List.not_mem_nil, or_false, false_or]); first | (simp [hc]; done) | (rcases hc with hc | hc <;> simp [hc]; done) | (rcases hc with hc | hc | hc <;> simp [hc])))
 have o_1 := OwnD.only oo _ _ _ (fun c hc hd => dj0 c hd c (by (try simp only [List.mem_append, List.not_mem_nil, or_false, false_or] at hc); (try simp only [List.mem_append, List.not_mem_nil, or_false, false_or]); first | (simp [hc]; done) | (rcases hc with hc | hc <;> simp [hc]; done) | (rcases hc with hc | hc | hc <;> simp [hc])) rfl) o_1
 refine ⟨_, hb.cell 1, s_1_1, hb.cell 2, (c47 (d := .st [.int .i64 x_1_0, .sl 2 l_1_1]) h_1k o_1 nd1 (by omega) (by simp only [Dat.cntT, Dat.cntTs]; omega)).mono ?_⟩
 rintro _ w3 ⟨rfl, m_1, cn_1, hs_1, mk_1, ow_1, oo⟩
 simp only [Dat.cntT, Dat.cntTs] at cn_1
 refine ⟨_, rfl, ?_⟩
 have hb := hb.only oo (fun hk => by have := lt1 _ hk; omega)
 have ot := Only.trans ot (oo.mono (fun c _ hc => by (try simp only [List.mem_append, List.not_mem_nil, or_false, false_or] at hc); (try simp only [List.mem_append, List.not_mem_nil, or_false, false_or]); first | (simp [hc]; done) | (rcases hc with hc | hc <;> simp [hc]; done) | (rcases hc with hc | hc | hc <;> simp [hc])))
 have ow_0 := OwnD.only oo _ _ _ (fun c hc hd => dj0 c hc c (by (try simp only [List.mem_append, List.not_mem_nil, or_false, false_or] at hd); (try simp only [List.mem_append, List.not_mem_nil, or_false, false_or]); first | (simp [hd]; done) | (rcases hd with hd | hd <;> simp [hd]; done) | (rcases hd with hd | hd | hd <;> simp [hd])) rfl) ow_0
 refine ⟨by congr 1; simp only [Dat.cntT, Dat.cntTs]; omega, .st [.sl 1 m_0, m_1], by simp only [Dat.cntT, Dat.cntTs]; omega, mk_st (mkF_cons (mk_sl hs_0) (mkF_cons hs_1 (mkF_nil))), markedT_st (markedTF_cons (k' := k0 + (Dat.cnts l_0 : Nat)) (marked_slT mk_0) (markedTF_cons (k' := k0 + (Dat.cnts l_0 : Nat) + ((Dat.st [.int .i64 x_1_0, .sl 2 l_1_1]).cntT : Nat)) (mk_1) (markedTF_nil) (by simp only [Dat.cntT, Dat.cntTs] at *; omega)) (by simp only [Dat.cntT, Dat.cntTs] at *; omega)), ownD_mkSt (ownF_mk ow_0 (ownF_mk ow_1 (ownF_mk0))), ot.mono (fun c _ hc => by (try simp only [List.mem_append, List.not_mem_nil, or_false, false_or] at hc); (try simp only [List.mem_append, List.not_mem_nil, or_false, false_or]); first | (simp [hc]; done) | (rcases hc with hc | hc <;> simp [hc]; done) | (rcases hc with hc | hc | hc <;> simp [hc]))⟩

/- heldByteS -/
theorem c48 {l : List Dat} {a0 : Sl} {k0 : Int} {w : World} (ht : ∀ e, e ∈ l → Has (.int .u8) e) (h : IsD w (.sl 1 l) [.slice a0.a a0.len a0.cap]) (hm : MarkedF TXT l k0) (h0 : 1 ≤ k0) (hk : k0 + Dat.cnts l ≤ 1099511627776) : CallW Tryz.prog 48 #[.slice a0.a a0.len a0.cap, .int .i64 k0] w (fun v w' => v = .int .i64 (k0 + Dat.cnts l) ∧ Ext w w') := by
  refine go48 ?_
  unfold W48
  obtain ⟨hlen, hmax, _⟩ := isD_sl h
  have hmx : maxLen = 9223372036854775807 := rfl
  rw [hlen]
  refine LoopW.m2 (fun (x i : Int) w' => ∃ k : Nat, i = k ∧ k ≤ l.length ∧ x = k0 + Dat.cnts (l.take k) ∧ Ext w w') (fun _ (i : Int) _ => (l.length - i).toNat) ⟨0, rfl, by omega, by simp [Dat.cnts], Only.refl _ _⟩ ?_
  rintro (kx : Int) (i : Int) w4 ⟨k, rfl, hkl, hx, e4⟩ J hJ
  refine BIf.dec (fun hlt => ?_) (fun hge => ?_)
  · obtain ⟨d, hd⟩ : ∃ d, l[k]? = some d := ⟨_, List.getElem?_eq_getElem (by omega)⟩
    have hcg := cnts_get hd
    have hct := cnts_take hd
    have hmd := markedF_get hm hd
    rw [← hx] at hmd
    have ht0 := ht d (mem_get hd)
    obtain ⟨p, es, hp, he, hc, his⟩ := isD_at (IsD.ext e4 _ _ h) hd
    obtain ⟨x, rfl⟩ := has_int ht0
    obtain ⟨rfl, ws⟩ := isD_int his
    simp only [Dat.cnt, Dat.cnts] at hcg hct
    simp only [Marked, MarkedF, Dat.cnt, Dat.cnts] at hmd
    have m := hmd
    try simp (disch := omega) only [w64]
    refine ⟨by omega, by omega, p, hp, _, hc 0 _ rfl, BIf.f (by rw [m]; first | (simp; done) | (simp; congr 1; omega)) ?_⟩
    exact hJ _ _ _ ⟨k + 1, by omega, by omega, by rw [hct]; omega, e4⟩ (by omega)
  · rw [List.take_of_length_le (by omega)] at hx
    exact ⟨by rw [hx], e4⟩

/- heldBlockS -/
theorem c97 {l : List Dat} {a0 : Sl} {k0 : Int} {w : World} (ht : ∀ e, e ∈ l → Has TyBlock e) (h : IsD w (.sl 2 l) [.slice a0.a a0.len a0.cap]) (hm : MarkedF TXT l k0) (h0 : 1 ≤ k0) (hk : k0 + Dat.cnts l ≤ 1099511627776) : CallW Tryz.prog 97 #[.slice a0.a a0.len a0.cap, .int .i64 k0] w (fun v w' => v = .int .i64 (k0 + Dat.cnts l) ∧ Ext w w') := by
  refine go97 ?_
  unfold W97
  obtain ⟨hlen, hmax, _⟩ := isD_sl h
  have hmx : maxLen = 9223372036854775807 := rfl
  rw [hlen]
  refine LoopW.m2 (fun (x i : Int) w' => ∃ k : Nat, i = k ∧ k ≤ l.length ∧ x = k0 + Dat.cnts (l.take k) ∧ Ext w w') (fun _ (i : Int) _ => (l.length - i).toNat) ⟨0, rfl, by omega, by simp [Dat.cnts], Only.refl _ _⟩ ?_
  rintro (kx : Int) (i : Int) w4 ⟨k, rfl, hkl, hx, e4⟩ J hJ
  refine BIf.dec (fun hlt => ?_) (fun hge => ?_)
  · obtain ⟨d, hd⟩ : ∃ d, l[k]? = some d := ⟨_, List.getElem?_eq_getElem (by omega)⟩
    have hcg := cnts_get hd
    have hct := cnts_take hd
    have hmd := markedF_get hm hd
    rw [← hx] at hmd
    have ht0 := ht d (mem_get hd)
    obtain ⟨p, es, hp, he, hc, his⟩ := isD_at (IsD.ext e4 _ _ h) hd
    obtain ⟨x_0, x_1, rfl⟩ := has_Block ht0
    obtain ⟨rfl, ws_0, ws_1⟩ := cells_Block his
    simp only [Dat.cnt, Dat.cnts] at hcg hct
    simp only [Marked, MarkedF, Dat.cnt, Dat.cnts] at hmd
    obtain ⟨m_0, m_1, _⟩ := hmd
    try simp (disch := omega) only [w64]
    refine ⟨by omega, by omega, p, hp, _, hc 0 _ rfl, BIf.f (by rw [m_0, w64 (by omega) (by omega)]; first | (simp; done) | (simp; omega)) ?_⟩
    refine ⟨by omega, by omega, p, hp, _, hc 1 _ rfl, BIf.f (by rw [m_1, w64 (by omega) (by omega)]; first | (simp; done) | (simp; omega)) ?_⟩
    exact hJ _ _ _ ⟨k + 1, by omega, by omega, by rw [hct]; omega, e4⟩ (by omega)
  · rw [List.take_of_length_le (by omega)] at hx
    exact ⟨by rw [hx], e4⟩

/- heldFrames -/
theorem c49 {d : Dat} {cs : List Value} {k0 : Int} {w : World} (ht : Has TyFrames d) (h : IsD w d cs) (hm : MarkedT TXT d k0) (h0 : 1 ≤ k0) (hk : k0 + d.cntT ≤ 1099511627776) : CallW Tryz.prog 49 #[.agg ⟨cs⟩, .int .i64 k0] w (fun v w' => v = .int .i64 (k0 + d.cntT) ∧ Ext w w') := by
 obtain ⟨x_0, l_1, rfl, t_1⟩ := has_Frames ht
 obtain ⟨s_1, rfl, ws_0, is_1⟩ := cells_Frames h
 simp only [Dat.cntT, Dat.cntTs] at hk
 simp only [MarkedT, MarkedTF, Dat.cntT, Dat.cntTs] at hm
 obtain ⟨_, m_1, _⟩ := hm
 refine go49 ?_
 unfold W49
 refine alloc_step (fun w1 e hb n1 => ?_)
 refine ⟨s_1, hb.cell 1, (c97 (k0 := k0) t_1 (IsD.ext e _ _ is_1) (markedF_at m_1 (by omega)) (by omega) (by omega)).mono ?_⟩
 rintro _ w3 ⟨rfl, e3⟩
 have hb := hb.ext e3
 have e := Only.trans e e3
 refine ⟨_, rfl, BIf.f (decide_eq_false (by omega)) ?_⟩
 exact ⟨by congr 1; simp only [Dat.cntT, Dat.cntTs]; omega, e⟩

/- heldPool -/
theorem c11 {d : Dat} {cs : List Value} {k0 : Int} {w : World} (ht : Has TyPool d) (h : IsD w d cs) (hm : MarkedT TXT d k0) (h0 : 1 ≤ k0) (hk : k0 + d.cntT ≤ 1099511627776) : CallW Tryz.prog 11 #[.agg ⟨cs⟩, .int .i64 k0] w (fun v w' => v = .int .i64 (k0 + d.cntT) ∧ Ext w w') := by
 obtain ⟨l_0, x_1_0, l_1_1, rfl, t_0, h_1k, t_1_1⟩ := has_Pool ht
 obtain ⟨s_0, s_1_1, rfl, is_0, is_1, ws_1_0, is_1_1⟩ := cells_Pool h
 simp only [Dat.cntT, Dat.cntTs] at hk
 simp only [MarkedT, MarkedTF, Dat.cntT, Dat.cntTs] at hm
 obtain ⟨m_0, m_1, _⟩ := hm
 refine go11 ?_
 unfold W11
 refine alloc_step (fun w1 e hb n1 => ?_)
 refine ⟨s_0, hb.cell 0, (c48 (k0 := k0) t_0 (IsD.ext e _ _ is_0) (markedF_at m_0 (by omega)) (by omega) (by omega)).mono ?_⟩
 rintro _ w2 ⟨rfl, e2⟩
 have hb := hb.ext e2
 have e := Only.trans e e2
 refine ⟨_, rfl, BIf.f (decide_eq_false (by omega)) ?_⟩
 refine ⟨_, hb.cell 1, s_1_1, hb.cell 2, (c49 (d := .st [.int .i64 x_1_0, .sl 2 l_1_1]) (k0 := k0 + (Dat.cnts l_0 : Nat)) h_1k (IsD.ext e _ _ is_1) (markedT_at (by simp only [MarkedT, MarkedTF, Dat.cntT, Dat.cntTs]; exact m_1) (by omega)) (by omega) (by simp only [Dat.cntT, Dat.cntTs]; omega)).mono ?_⟩
 rintro _ w3 ⟨rfl, e3⟩
 have hb := hb.ext e3
 have e := Only.trans e e3
 refine ⟨_, rfl, BIf.f (decide_eq_false (by omega)) ?_⟩
 exact ⟨by congr 1; simp only [Dat.cntT, Dat.cntTs]; omega, e⟩

end Go.Proofs.YtkgoanjemhbjgaaGreat

/- Spaces: words and entries of memory, on both sides. Conditions: none. -/
set_option linter.unusedVariables false
set_option linter.unusedSimpArgs false
namespace Go.Proofs.YtkgoanjemhbjgaaGreat
open Go Go.Den
def byt (m : List Int) (i : Int) : Int := m.getD i.toNat 0
/-- Bytes that are lent. -/
structure Bytes (w : World) (s : Sl) (m : List Int) : Prop where
  len : s.len = m.length
  cap : s.len ≤ s.cap
  row : RowAt w s.a s.len (m.map (Value.int .u8))
  rng : ∀ x, x ∈ m → 0 ≤ x ∧ x ≤ 255
  small : m.length ≤ 1099511627776
theorem Bytes.ext {w w' : World} {s : Sl} {m : List Int} (h : Bytes w s m) (e : Ext w w') : Bytes w' s m := ⟨h.len, h.cap, e.row h.row, h.rng, h.small⟩
theorem Bytes.at {w : World} {s : Sl} {m : List Int} (h : Bytes w s m) {i : Int} (h0 : 0 ≤ i) (h1 : i < m.length) : ∃ p, s.a = some p ∧ w.cell? (p.add (i.toNat * 1)) = some (.int .u8 (byt m i)) := by
  have hi : i.toNat < m.length := by omega
  obtain ⟨p, hp, hc⟩ := h.row.cell (i := i.toNat) (v := .int .u8 (byt m i)) (by rw [List.getElem?_map, List.getElem?_eq_getElem hi]; simp [byt, List.getD_eq_getElem?_getD, List.getElem?_eq_getElem hi])
  exact ⟨p, hp, by rw [Nat.mul_one]; exact hc⟩
theorem byt_rng {m : List Int} (h : ∀ x, x ∈ m → 0 ≤ x ∧ x ≤ 255) (i : Int) : 0 ≤ byt m i ∧ byt m i ≤ 255 := by
  unfold byt
  rw [List.getD_eq_getElem?_getD]
  cases hx : m[i.toNat]? with
  | none => simp
  | some x => exact h x (List.mem_of_getElem? hx)
def hornr (m : List Int) (at_ : Int) : Nat → Int → Int
  | 0, x => x
  | i + 1, x => hornr m at_ i (x * 256 + byt m (at_ + (i : Int)))
def word (m : List Int) (at_ : Int) : Int := hornr m at_ 8 0
def B256 : Nat → Int
  | 0 => 1
  | n + 1 => 256 * B256 n
theorem B256_le : ∀ n, n ≤ 8 → 1 ≤ B256 n ∧ B256 n ≤ 18446744073709551616 := by decide
theorem hornr_rng {m : List Int} (hm : ∀ x, x ∈ m → 0 ≤ x ∧ x ≤ 255) (at_ : Int) : ∀ (k : Nat) (x : Int), k ≤ 8 → 0 ≤ x → x < B256 (8 - k) → 0 ≤ hornr m at_ k x ∧ hornr m at_ k x < 18446744073709551616
  | 0, x, hk, h0, h1 => ⟨h0, by have : B256 (8 - 0) = 18446744073709551616 := by decide
                                unfold hornr; omega⟩
  | k + 1, x, hk, h0, h1 => by
    have hb := byt_rng hm (at_ + (k : Int))
    have e : B256 (8 - k) = 256 * B256 (8 - (k + 1)) := by rw [show 8 - k = (8 - (k + 1)) + 1 by omega]; rfl
    exact hornr_rng hm at_ k _ (by omega) (by omega) (by omega)
theorem word_rng {m : List Int} (hm : ∀ x, x ∈ m → 0 ≤ x ∧ x ≤ 255) (at_ : Int) : 0 ≤ word m at_ ∧ word m at_ < 18446744073709551616 := hornr_rng hm at_ 8 0 (by omega) (by omega) (by decide)
/-! ## Bits -/
theorem ofInt_nat {y : Int} (h0 : 0 ≤ y) (h1 : y < 18446744073709551616) : (BitVec.ofInt 64 y).toNat = y.toNat := by
  rw [BitVec.toNat_ofInt]
  have : y % ((2 ^ 64 : Nat) : Int) = y := Int.emod_eq_of_lt h0 (by simpa using h1)
  rw [this]
theorem and_mask {y : Int} (k : Nat) (hk : k ≤ 62) (h0 : 0 ≤ y) (h1 : y < 18446744073709551616) : andI .u64 y ((2 ^ k - 1 : Nat) : Int) = y % ((2 ^ k : Nat) : Int) := by
  have hp : 2 ^ k ≤ 2 ^ 62 := Nat.pow_le_pow_right (by omega) hk
  have hp1 : 1 ≤ 2 ^ k := Nat.one_le_two_pow
  unfold andI
  show IntKind.u64.wrap ((BitVec.ofInt 64 y &&& BitVec.ofInt 64 ((2 ^ k - 1 : Nat) : Int)).toNat : Int) = _
  rw [BitVec.toNat_and, ofInt_nat h0 h1, ofInt_nat (by omega) (by omega), Int.toNat_natCast, Nat.and_two_pow_sub_one_eq_mod]
  obtain ⟨n, rfl⟩ := Int.eq_ofNat_of_zero_le h0
  have := Nat.mod_lt n (show 0 < 2 ^ k by omega)
  rw [Int.toNat_natCast, ← Int.natCast_emod, wu64 (by omega) (by omega)]
theorem and_one {y : Int} (h0 : 0 ≤ y) (h1 : y < 18446744073709551616) : andI .u64 y 1 = y % 2 := and_mask 1 (by omega) h0 h1
theorem and_4095 {y : Int} (h0 : 0 ≤ y) (h1 : y < 18446744073709551616) : andI .u64 y 4095 = y % 4096 := and_mask 12 (by omega) h0 h1
theorem shr_u64 {y : Int} {n : Nat} (hn : n ≤ 63) : shrI .u64 y (n : Int) = y / ((2 ^ n : Nat) : Int) := by
  unfold shrI
  rw [Int.toNat_natCast, show min n (IntKind.u64.bits) = n from Nat.min_eq_left (by show n ≤ 64; omega)]
  rw [Int.fdiv_eq_ediv_of_nonneg _ (by exact_mod_cast Nat.zero_le _)]
  norm_cast
theorem shl_byte {v : Int} (h0 : 0 ≤ v) (h1 : v < 72057594037927936) : shlI .u64 v 8 = v * 256 := by
  unfold shlI
  show IntKind.u64.wrap (v * 2 ^ (min (Int.toNat 8) 64)) = _
  rw [show v * 2 ^ (min (Int.toNat 8) 64) = v * 256 from rfl, wu64 (by omega) (by omega)]
theorem or_byte {v b : Int} (h0 : 0 ≤ v) (h1 : v < 72057594037927936) (hb0 : 0 ≤ b) (hb1 : b ≤ 255) : orI .u64 (shlI .u64 v 8) (IntKind.wrap .u64 b) = v * 256 + b := by
  rw [shl_byte h0 h1, wu64 hb0 (by omega)]
  unfold orI
  show IntKind.u64.wrap ((BitVec.ofInt 64 (v * 256) ||| BitVec.ofInt 64 b).toNat : Int) = _
  rw [BitVec.toNat_or, ofInt_nat (by omega) (by omega), ofInt_nat (by omega) (by omega)]
  obtain ⟨n, rfl⟩ := Int.eq_ofNat_of_zero_le h0
  obtain ⟨c, rfl⟩ := Int.eq_ofNat_of_zero_le hb0
  have h := Nat.shiftLeft_add_eq_or_of_lt (show c < 2 ^ 8 by omega) n
  rw [show ((n : Int) * 256).toNat = n <<< 8 by rw [Nat.shiftLeft_eq]; omega, Int.toNat_natCast, ← h, Nat.shiftLeft_eq, wu64 (by omega) (by omega)]
  omega
/-! ## Words -/
theorem c125 {w : World} : CallW Tryz.prog 125 #[.int .i64 8] w (fun v w' => v = .bool true ∧ w' = w) := by
  refine go125 ?_
  unfold W125
  simp only [join_or]
  exact ⟨rfl, by trivial⟩
theorem c118 {w : World} : CallW Tryz.prog 118 #[.int .i64 8] w (fun v w' => v = .bool true ∧ w' = w) := by
  refine go118 ?_
  unfold W118
  simp only [join_or]
  exact ⟨rfl, by trivial⟩
theorem c119 {n a : Int} {w : World} (h0 : 0 ≤ a) (h1 : a + 8 ≤ n) (h2 : n ≤ 1099511627776) : CallW Tryz.prog 119 #[.int .i64 n, .int .i64 a, .int .i64 8] w (fun v w' => v = .bool true ∧ w' = w) := by
  refine go119 ?_
  unfold W119
  simp only [join_and]
  refine ⟨?_, by trivial⟩
  rw [w64 (by omega) (by omega)]
  simp
  omega
theorem c114 {s : Sl} {m : List Int} {a : Int} {w : World} (h : Bytes w s m) (h0 : 0 ≤ a) (h1 : a + 8 ≤ m.length) : CallW Tryz.prog 114 #[.slice s.a s.len s.cap, .int .i64 a, .int .i64 8, .bool false] w (fun v w' => v = .tuple #[.int .u64 (word m a), .bool true] ∧ w' = w) := by
  refine go114 ?_
  unfold W114
  refine c125.mono ?_
  rintro _ w ⟨rfl, rfl⟩
  have hl := h.len
  have hsm := h.small
  refine ⟨true, rfl, JoinW.each (BIf.f rfl (JoinW.each ?_))⟩
  refine BIf.f (decide_eq_false (by omega)) ?_
  refine BIf.f (decide_eq_false (by rw [w64 (by omega) (by omega)]; omega)) ?_
  refine LoopW.m2 (fun (x i : Int) w' => ∃ k : Nat, k ≤ 8 ∧ i = (k : Int) - 1 ∧ hornr m a k x = word m a ∧ 0 ≤ x ∧ x < B256 (8 - k) ∧ w' = w) (fun _ (i : Int) _ => (i + 1).toNat) ⟨8, by omega, by rw [w64 (by omega) (by omega)]; rfl, rfl, by omega, by decide, rfl⟩ ?_
  rintro (x : Int) (i : Int) w ⟨k, hk, rfl, hx, hx0, hx1, rfl⟩ J hJ
  refine BIf.dec (fun hge => ?_) (fun hlt => ?_)
  · obtain ⟨j, rfl⟩ : ∃ j, k = j + 1 := ⟨k - 1, by omega⟩
    have hb := byt_rng h.rng (a + (j : Int))
    have e : B256 (8 - j) = 256 * B256 (8 - (j + 1)) := by rw [show 8 - j = (8 - (j + 1)) + 1 by omega]; rfl
    have hB := B256_le (8 - j) (by omega)
    have hidx : IntKind.i64.wrap (a + (((j + 1 : Nat) : Int) - 1)) = a + (j : Int) := by rw [w64 (by omega) (by omega)]; omega
    rw [hidx]
    obtain ⟨p, hp, hc⟩ := h.at (i := a + (j : Int)) (by omega) (by omega)
    refine ⟨by omega, by omega, p, hp, _, hc, ?_⟩
    rw [wu64 (n := byt m (a + (j : Int))) (by omega) (by omega), wu64 (n := x * 256) (by omega) (by omega), wu64 (by omega) (by omega), w64 (by omega) (by omega)]
    exact hJ _ _ _ ⟨j, by omega, by omega, hx, by omega, by omega, rfl⟩ (by omega)
  · have hk0 : k = 0 := by omega
    subst hk0
    refine BIf.f rfl ⟨?_, rfl⟩
    have hx : x = word m a := hx
    rw [hx]
theorem c89 {s : Sl} {m : List Int} {a : Int} {w : World} (h : Bytes w s m) (h0 : 0 ≤ a) (h1 : a + 8 ≤ m.length) : CallW Tryz.prog 89 #[.slice s.a s.len s.cap, .int .i64 a, .int .i64 8, .bool false] w (fun v w' => v = .tuple #[.int .u64 (word m a), .bool true] ∧ w' = w) := by
  refine go89 ?_
  unfold W89
  refine c118.mono ?_
  rintro _ w ⟨rfl, rfl⟩
  have hl := h.len
  have hsm := h.small
  refine ⟨true, rfl, JoinW.each (BIf.f rfl ((c119 h0 (by omega) (by omega)).mono ?_))⟩
  rintro _ w ⟨rfl, rfl⟩
  refine ⟨true, rfl, BIf.f rfl ?_⟩
  refine LoopW.m2 (fun (x i : Int) w' => ∃ k : Nat, k ≤ 8 ∧ i = (k : Int) - 1 ∧ hornr m a k x = word m a ∧ 0 ≤ x ∧ x < B256 (8 - k) ∧ w' = w) (fun _ (i : Int) _ => (i + 1).toNat) ⟨8, by omega, by rw [w64 (by omega) (by omega)]; rfl, rfl, by omega, by decide, rfl⟩ ?_
  rintro (x : Int) (i : Int) w ⟨k, hk, rfl, hx, hx0, hx1, rfl⟩ J hJ
  refine BIf.dec (fun hge => ?_) (fun hlt => ?_)
  · obtain ⟨j, rfl⟩ : ∃ j, k = j + 1 := ⟨k - 1, by omega⟩
    have hb := byt_rng h.rng (a + (j : Int))
    have e : B256 (8 - j) = 256 * B256 (8 - (j + 1)) := by rw [show 8 - j = (8 - (j + 1)) + 1 by omega]; rfl
    have hB := B256_le (8 - j) (by omega)
    have hidx : IntKind.i64.wrap (a + (((j + 1 : Nat) : Int) - 1)) = a + (j : Int) := by rw [w64 (by omega) (by omega)]; omega
    rw [hidx]
    obtain ⟨p, hp, hc⟩ := h.at (i := a + (j : Int)) (by omega) (by omega)
    refine ⟨by omega, by omega, by omega, p, hp, _, hc, ?_⟩
    rw [or_byte hx0 (by omega) (by omega) (by omega), w64 (by omega) (by omega)]
    exact hJ _ _ _ ⟨j, by omega, by omega, hx, by omega, by omega, rfl⟩ (by omega)
  · have hk0 : k = 0 := by omega
    subst hk0
    refine BIf.f rfl ⟨?_, rfl⟩
    have hx : x = word m a := hx
    rw [hx]
end Go.Proofs.YtkgoanjemhbjgaaGreat

/- Spaces: an entry's bits, on both sides. Conditions: none. -/
set_option linter.unusedVariables false
set_option linter.unusedSimpArgs false
namespace Go.Proofs.YtkgoanjemhbjgaaGreat
open Go Go.Den
def ebit (x : Int) (n : Nat) : Bool := x / ((2 ^ n : Nat) : Int) % 2 == 1
def efr (x : Int) : Int := x / 256 % 4096
def eCells (x : Int) : List Value := [.bool (ebit x 0), .bool (ebit x 1), .bool (ebit x 2), .bool (ebit x 3), .bool (ebit x 4), .bool (ebit x 5), .bool (ebit x 6), .bool (ebit x 7), .int .i64 (efr x)]
theorem pow_le {a b : Nat} (h : a ≤ b) : 2 ^ a ≤ 2 ^ b := Nat.pow_le_pow_right (by omega) h
theorem c124 {n : Nat} {w : World} (hn : n ≤ 63) : CallW Tryz.prog 124 #[.int .i64 (n : Int)] w (fun v w' => v = .int .u64 ((2 ^ n : Nat) : Int) ∧ w' = w) := by
  refine go124 ?_
  unfold W124
  refine LoopW.m2 (fun (x i : Int) w' => ∃ k : Nat, k ≤ n ∧ i = k ∧ x = ((2 ^ k : Nat) : Int) ∧ w' = w) (fun _ (i : Int) _ => ((n : Int) - i).toNat) ⟨0, by omega, rfl, rfl, rfl⟩ ?_
  rintro (x : Int) (i : Int) w ⟨k, hk, rfl, rfl, rfl⟩ J hJ
  refine BIf.dec (fun hlt => ?_) (fun hge => ?_)
  · have h1 : 2 ^ (k + 1) ≤ 2 ^ 63 := pow_le (by omega)
    have h2 : 2 ^ (k + 1) = 2 ^ k * 2 := Nat.pow_succ 2 k
    rw [wu64 (by omega) (by omega), w64 (by omega) (by omega)]
    exact hJ _ _ _ ⟨k + 1, by omega, by omega, by rw [h2]; omega, rfl⟩ (by omega)
  · have : k = n := by omega
    subst this
    exact ⟨rfl, rfl⟩
theorem c115 {x : Int} {n : Nat} {w : World} (h0 : 0 ≤ x) (h1 : x < 18446744073709551616) (hn : n ≤ 63) : CallW Tryz.prog 115 #[.int .u64 x, .int .i64 (n : Int)] w (fun v w' => v = .int .u64 (x / ((2 ^ n : Nat) : Int) % 2) ∧ w' = w) := by
  refine go115 ?_
  unfold W115
  refine (c124 hn).mono ?_
  rintro _ w ⟨rfl, rfl⟩
  have hp : 1 ≤ 2 ^ n := Nat.one_le_two_pow
  have hd0 : 0 ≤ x / ((2 ^ n : Nat) : Int) := Int.ediv_nonneg h0 (by omega)
  have hd1 : x / ((2 ^ n : Nat) : Int) ≤ x := Int.ediv_le_self _ h0
  refine ⟨_, rfl, by omega, by omega, ?_, rfl⟩
  rw [Int.tdiv_eq_ediv_of_nonneg h0, wu64 hd0 (by omega), Int.tmod_eq_emod_of_nonneg hd0]
theorem c80 {x : Int} {n : Nat} {w : World} (h0 : 0 ≤ x) (h1 : x < 18446744073709551616) (hn : n ≤ 63) : CallW Tryz.prog 80 #[.int .u64 x, .int .i64 (n : Int)] w (fun v w' => v = .bool (ebit x n) ∧ w' = w) := by
  refine go80 ?_
  unfold W80
  refine (c115 h0 h1 hn).mono ?_
  rintro _ w ⟨rfl, rfl⟩
  exact ⟨_, rfl, rfl, rfl⟩
theorem c90 {x : Int} {n : Nat} {c : Addr} {w : World} (hc : w.cell? c = some (.int .u64 x)) (h0 : 0 ≤ x) (h1 : x < 18446744073709551616) (hn : n ≤ 63) : CallW Tryz.prog 90 #[.int .i64 (n : Int), .pointer (some c)] w (fun v w' => v = .bool (ebit x n) ∧ w' = w) := by
  refine go90 ?_
  unfold W90
  have hp : 1 ≤ 2 ^ n := Nat.one_le_two_pow
  have hd0 : 0 ≤ x / ((2 ^ n : Nat) : Int) := Int.ediv_nonneg h0 (by omega)
  have hd1 : x / ((2 ^ n : Nat) : Int) ≤ x := Int.ediv_le_self _ h0
  refine ⟨x, hc, by omega, ?_, rfl⟩
  rw [shr_u64 hn, and_one hd0 (by omega)]
  rfl
def zE : List Value := [.bool false, .bool false, .bool false, .bool false, .bool false, .bool false, .bool false, .bool false, .int .i64 0]
theorem efr_small {x : Int} (h0 : 0 ≤ x) (h1 : x < 1048576) : efr x = x / 256 := by unfold efr; omega
theorem c28f {x : Int} {w : World} (h1 : 1048576 ≤ x) : CallW Tryz.prog 28 #[.int .u64 x] w (fun v w' => v = .tuple #[.agg ⟨zE⟩, .bool false] ∧ Ext w w') := by
  refine go28 ?_
  unfold W28
  refine alloc_step (fun w1 e1 hb n1 => ?_)
  refine BIf.t (decide_eq_true h1) ?_
  refine put_step hb rfl rfl (fun w2 o2 hb n2 => ?_)
  refine ⟨_, hb.cell 0, _, hb.cell 1, _, hb.cell 2, _, hb.cell 3, _, hb.cell 4, _, hb.cell 5, _, hb.cell 6, _, hb.cell 7, _, hb.cell 8, ?_⟩
  exact ⟨rfl, Ext.own e1 o2 (fun k hk => by omega)⟩
theorem c28 {x : Int} {w : World} (h0 : 0 ≤ x) (h1 : x < 1048576) : CallW Tryz.prog 28 #[.int .u64 x] w (fun v w' => v = .tuple #[.agg ⟨eCells x⟩, .bool true] ∧ Ext w w') := by
  refine go28 ?_
  unfold W28
  refine alloc_step (fun w1 e1 ha n1 => ?_)
  refine BIf.f (decide_eq_false (by omega)) ⟨by omega, ?_⟩
  rw [Int.tdiv_eq_ediv_of_nonneg h0, wu64 (by omega) (by omega), w64 (by omega) (by omega)]
  refine alloc_step (fun w2 e2 hb n2 => ?_)
  have ha := ha.ext e2
  refine put_step hb rfl rfl (fun w3 o3 hb n3 => ?_)
  have ha := ha.only o3 (by omega)
  have e := Ext.own (Only.trans e1 e2) o3 (fun k hk => by omega)
  refine (c80 (n := 0) h0 (by omega) (by omega)).mono ?_
  rintro _ w10 ⟨rfl, rfl⟩
  refine ⟨_, rfl, ?_⟩
  refine set_step hb (by simp) (fun v0 o10 hb m0 => ?_)
  have ha := ha.only o10 (by omega)
  have e := Ext.own e o10 (fun k hk => by omega)
  refine (c80 (n := 1) h0 (by omega) (by omega)).mono ?_
  rintro _ w11 ⟨rfl, rfl⟩
  refine ⟨_, rfl, ?_⟩
  refine set_step hb (by simp) (fun v1 o11 hb m1 => ?_)
  have ha := ha.only o11 (by omega)
  have e := Ext.own e o11 (fun k hk => by omega)
  refine (c80 (n := 2) h0 (by omega) (by omega)).mono ?_
  rintro _ w12 ⟨rfl, rfl⟩
  refine ⟨_, rfl, ?_⟩
  refine set_step hb (by simp) (fun v2 o12 hb m2 => ?_)
  have ha := ha.only o12 (by omega)
  have e := Ext.own e o12 (fun k hk => by omega)
  refine (c80 (n := 3) h0 (by omega) (by omega)).mono ?_
  rintro _ w13 ⟨rfl, rfl⟩
  refine ⟨_, rfl, ?_⟩
  refine set_step hb (by simp) (fun v3 o13 hb m3 => ?_)
  have ha := ha.only o13 (by omega)
  have e := Ext.own e o13 (fun k hk => by omega)
  refine (c80 (n := 4) h0 (by omega) (by omega)).mono ?_
  rintro _ w14 ⟨rfl, rfl⟩
  refine ⟨_, rfl, ?_⟩
  refine set_step hb (by simp) (fun v4 o14 hb m4 => ?_)
  have ha := ha.only o14 (by omega)
  have e := Ext.own e o14 (fun k hk => by omega)
  refine (c80 (n := 5) h0 (by omega) (by omega)).mono ?_
  rintro _ w15 ⟨rfl, rfl⟩
  refine ⟨_, rfl, ?_⟩
  refine set_step hb (by simp) (fun v5 o15 hb m5 => ?_)
  have ha := ha.only o15 (by omega)
  have e := Ext.own e o15 (fun k hk => by omega)
  refine (c80 (n := 6) h0 (by omega) (by omega)).mono ?_
  rintro _ w16 ⟨rfl, rfl⟩
  refine ⟨_, rfl, ?_⟩
  refine set_step hb (by simp) (fun v6 o16 hb m6 => ?_)
  have ha := ha.only o16 (by omega)
  have e := Ext.own e o16 (fun k hk => by omega)
  refine (c80 (n := 7) h0 (by omega) (by omega)).mono ?_
  rintro _ w17 ⟨rfl, rfl⟩
  refine ⟨_, rfl, ?_⟩
  refine set_step hb (by simp) (fun v7 o17 hb m7 => ?_)
  have ha := ha.only o17 (by omega)
  have e := Ext.own e o17 (fun k hk => by omega)
  refine ⟨_, hb.cell 0, _, hb.cell 1, _, hb.cell 2, _, hb.cell 3, _, hb.cell 4, _, hb.cell 5, _, hb.cell 6, _, hb.cell 7, _, hb.cell 8, ?_⟩
  refine put_step ha rfl rfl (fun w30 o30 ha n30 => ?_)
  have e := Ext.own e o30 (fun k hk => by omega)
  refine ⟨_, ha.cell 0, _, ha.cell 1, _, ha.cell 2, _, ha.cell 3, _, ha.cell 4, _, ha.cell 5, _, ha.cell 6, _, ha.cell 7, _, ha.cell 8, ?_⟩
  refine ⟨?_, e⟩
  show _ = Value.tuple #[.agg ⟨eCells x⟩, .bool true]
  unfold eCells
  rw [efr_small h0 h1]
theorem c38 {x : Int} {w : World} (h0 : 0 ≤ x) (h1 : x < 18446744073709551616) : CallW Tryz.prog 38 #[.int .u64 x] w (fun v w' => v = .agg ⟨eCells x⟩ ∧ Ext w w') := by
  refine go38 ?_
  unfold W38
  refine alloc_step (fun w1 e1 ha n1 => ?_)
  refine alloc_step (fun w2 e2 hb n2 => ?_)
  have ha := (ha.ext e2).ext (ext_drew w2)
  have hb := hb.ext (ext_drew w2)
  have e := Only.trans (Only.trans e1 e2) (ext_drew w2)
  generalize w2.drew = w2d at *
  have hf : IntKind.i64.wrap (andI .u64 (shrI .u64 x 8) 4095) = efr x := by
    rw [show (8 : Int) = ((8 : Nat) : Int) from rfl, shr_u64 (by omega)]
    rw [and_4095 (by omega) (by omega), w64 (by omega) (by omega)]
    rfl
  refine ⟨x, ha.cell 0, by omega, ?_⟩
  refine (c90 (n := 0) (ha.cell 0) h0 h1 (by omega)).mono ?_
  rintro _ w10 ⟨rfl, rfl⟩
  refine ⟨_, rfl, rfl, ⟨_, ha.cell 0, rfl⟩, ?_⟩
  refine (c90 (n := 1) (ha.cell 0) h0 h1 (by omega)).mono ?_
  rintro _ w11 ⟨rfl, rfl⟩
  refine ⟨_, rfl, rfl, ⟨_, ha.cell 0, rfl⟩, ?_⟩
  refine (c90 (n := 2) (ha.cell 0) h0 h1 (by omega)).mono ?_
  rintro _ w12 ⟨rfl, rfl⟩
  refine ⟨_, rfl, rfl, ⟨_, ha.cell 0, rfl⟩, ?_⟩
  refine (c90 (n := 3) (ha.cell 0) h0 h1 (by omega)).mono ?_
  rintro _ w13 ⟨rfl, rfl⟩
  refine ⟨_, rfl, rfl, ⟨_, ha.cell 0, rfl⟩, ?_⟩
  refine (c90 (n := 4) (ha.cell 0) h0 h1 (by omega)).mono ?_
  rintro _ w14 ⟨rfl, rfl⟩
  refine ⟨_, rfl, rfl, ⟨_, ha.cell 0, rfl⟩, ?_⟩
  refine (c90 (n := 5) (ha.cell 0) h0 h1 (by omega)).mono ?_
  rintro _ w15 ⟨rfl, rfl⟩
  refine ⟨_, rfl, rfl, ⟨_, ha.cell 0, rfl⟩, ?_⟩
  refine (c90 (n := 6) (ha.cell 0) h0 h1 (by omega)).mono ?_
  rintro _ w16 ⟨rfl, rfl⟩
  refine ⟨_, rfl, rfl, ⟨_, ha.cell 0, rfl⟩, ?_⟩
  refine (c90 (n := 7) (ha.cell 0) h0 h1 (by omega)).mono ?_
  rintro _ w17 ⟨rfl, rfl⟩
  refine ⟨_, rfl, rfl, ⟨_, ha.cell 0, rfl⟩, ?_⟩
  rw [hf]
  refine put_step hb rfl rfl (fun w30 o30 hb n30 => ?_)
  refine ⟨_, hb.cell 0, _, hb.cell 1, _, hb.cell 2, _, hb.cell 3, _, hb.cell 4, _, hb.cell 5, _, hb.cell 6, _, hb.cell 7, _, hb.cell 8, rfl, ?_⟩
  exact Ext.own e o30 (fun k hk => by omega)
theorem c110z {w : World} : CallW Tryz.prog 110 #[.int .i64 0] w (fun v w' => v = .int .i64 1 ∧ w' = w) := by
  refine go110 ?_
  unfold W110
  exact BIf.t rfl ⟨rfl, rfl⟩
theorem c110s {n k : Int} {w : World} (h : ∀ {w : World}, CallW Tryz.prog 110 #[.int .i64 n] w (fun v w' => v = .int .i64 k ∧ w' = w)) (h0 : 0 ≤ n) (h1 : n ≤ 100) (hk0 : 0 ≤ k) (hk : k ≤ 100000) : CallW Tryz.prog 110 #[.int .i64 (n + 1)] w (fun v w' => v = .int .i64 (32 * k) ∧ w' = w) := by
  refine go110 ?_
  unfold W110
  refine BIf.f (by simp; omega) ?_
  rw [w64 (by omega) (by omega), show n + 1 - 1 = n by omega]
  refine h.mono ?_
  rintro _ w ⟨rfl, rfl⟩
  refine ⟨_, rfl, ?_, rfl⟩
  rw [w64 (by omega) (by omega)]
def pgs (n : Int) : Int := if n = 0 then 1 else if n = 1 then 32 else 1024
theorem c110 {n : Int} {w : World} (h0 : 0 ≤ n) (h2 : n ≤ 2) : CallW Tryz.prog 110 #[.int .i64 n] w (fun v w' => v = .int .i64 (pgs n) ∧ w' = w) := by
  have hn : n = 0 ∨ n = 1 ∨ n = 2 := by omega
  have h1 : ∀ {w : World}, CallW Tryz.prog 110 #[.int .i64 1] w (fun v w' => v = .int .i64 32 ∧ w' = w) := fun {w} => c110s (n := 0) (k := 1) (fun {w} => c110z) (by omega) (by omega) (by omega) (by omega)
  rcases hn with rfl | rfl | rfl
  · exact c110z
  · exact h1
  · exact c110s (n := 1) (k := 32) (fun {w} => h1) (by omega) (by omega) (by omega) (by omega)
theorem pgs_pos {n : Int} (h0 : 0 ≤ n) : 0 < pgs n := by unfold pgs; split <;> (try split) <;> omega
/-- What an entry is, at a level. -/
def kindS (x lvl : Int) : Int :=
  if ebit x 0 = false then -4 else if 1048576 ≤ x then -5 else if (ebit x 2 && !ebit x 1) = true then -5
  else if (!ebit x 1 && !ebit x 2 && !ebit x 3) = true then (if (ebit x 4 || ebit x 5 || ebit x 6 || lvl == 0) = true then -5 else 0)
  else if efr x % pgs lvl ≠ 0 then -6 else 1
theorem c113 {x lvl : Int} {w : World} (h0 : 0 ≤ x) (h1 : x < 18446744073709551616) (hl0 : 0 ≤ lvl) (hl2 : lvl ≤ 2) : CallW Tryz.prog 113 #[.int .u64 x, .int .i64 lvl] w (fun v w' => v = .int .i64 (kindS x lvl) ∧ Ext w w') := by
  refine go113 ?_
  unfold W113
  refine (c80 (n := 0) h0 h1 (by omega)).mono ?_
  rintro _ w ⟨rfl, rfl⟩
  refine ⟨_, rfl, BIf.of (fun hb => ⟨?_, Only.refl _ _⟩) (fun hb => ?_)⟩
  · have hb : ebit x 0 = false := by simpa using hb
    unfold kindS; rw [if_pos hb]
  have hb0 : ¬ (ebit x 0 = false) := by simpa using hb
  have hk0 := kindS.eq_1 x lvl
  rw [if_neg hb0] at hk0
  by_cases hx : 1048576 ≤ x
  · refine (c28f hx).mono ?_
    rintro _ w2 ⟨rfl, e2⟩
    refine ⟨_, _, _, _, _, _, _, _, _, _, rfl, ?_⟩
    refine alloc_step (fun w3 e3 hb n3 => ?_)
    refine put_step hb rfl rfl (fun w4 o4 hb n4 => ?_)
    have e := Ext.own (Only.trans e2 e3) o4 (fun k hk => by have := e2.size; omega)
    refine JoinW.each (BIf.t rfl (BIf.t rfl ⟨?_, e⟩))
    rw [hk0, if_pos hx]
  · refine (c28 h0 (by omega)).mono ?_
    rintro _ w2 ⟨rfl, e2⟩
    refine ⟨_, _, _, _, _, _, _, _, _, _, rfl, ?_⟩
    refine alloc_step (fun w3 e3 hb n3 => ?_)
    refine put_step hb rfl rfl (fun w4 o4 hb n4 => ?_)
    have e := Ext.own (Only.trans e2 e3) o4 (fun k hk => by have := e2.size; omega)
    rw [if_neg hx] at hk0
    have hb' : Blk w4 w2.heap.size (eCells x) := hb
    clear hb
    refine JoinW.cut1 (fun (b : Bool) w' => b = (ebit x 2 && !ebit x 1) ∧ w' = w4) ?_ ?_
    · exact BIf.f rfl ⟨_, hb'.cell 2, BIf.of (fun hW => ⟨_, hb'.cell 1, by rw [hW]; rfl, rfl⟩) (fun hW => ⟨by rw [hW]; rfl, rfl⟩)⟩
    rintro (b : Bool) w5 ⟨rfl, rfl⟩
    refine BIf.of (fun h => ⟨by rw [hk0, if_pos h], e⟩) (fun h => ?_)
    rw [if_neg (by rw [h]; simp)] at hk0
    refine ⟨_, hb'.cell 1, join_and_ex _ (hb'.cell 2) (join_and_ex _ (hb'.cell 3) ?_)⟩
    refine BIf.of (fun h2 => ?_) (fun h2 => ?_)
    · rw [if_pos h2] at hk0
      refine ⟨_, hb'.cell 4, join_or_ex _ (hb'.cell 5) (join_or_ex _ (hb'.cell 6) ?_)⟩
      rw [join_or]
      refine BIf.of (fun h3 => ⟨by rw [hk0, if_pos h3], e⟩) (fun h3 => ⟨by rw [hk0, if_neg (by rw [h3]; simp)], e⟩)
    · rw [if_neg (by rw [h2]; simp)] at hk0
      have hb2 := hb'.ext (ext_drew w5)
      have e2 := Only.trans e (ext_drew w5)
      generalize w5.drew = w6 at *
      refine ⟨_, hb2.cell 8, (c110 hl0 hl2).mono ?_⟩
      rintro _ w6 ⟨rfl, rfl⟩
      have hp := pgs_pos hl0
      have hf0 : 0 ≤ efr x := by unfold efr; omega
      refine ⟨_, rfl, ⟨_, hb2.cell 8, rfl⟩, by omega, ?_⟩
      rw [Int.tmod_eq_emod_of_nonneg hf0]
      refine BIf.ne (fun h3 => ⟨by rw [hk0, if_pos h3], e2⟩) (fun h3 => ⟨by rw [hk0, if_neg (by rw [h3]; simp)], e2⟩)
/-! ## An entry of a table -/
theorem Bytes.cut {w : World} {s : Sl} {m : List Int} (h : Bytes w s m) {a : Nat} (ha : a + 8 ≤ m.length) : Bytes w ⟨cutA s.a s.cap a 1, 8, s.cap - a⟩ ((m.drop a).take 8) := by
  have hl := h.len
  have hc := h.cap
  refine ⟨by simp; omega, by show 8 ≤ s.cap - a; omega, ?_, fun x hx => h.rng x (List.mem_of_mem_drop (List.mem_of_mem_take hx)), by simp; omega⟩
  obtain ⟨p, hp, hcell⟩ := h.row.2 (by omega)
  refine ⟨by simp; omega, fun _ => ⟨p.add (a * 1), ?_, fun j v hj => ?_⟩⟩
  · show cutA s.a s.cap a 1 = _
    unfold cutA
    rw [hp]
    first
      | rfl
      | (simp; omega)
      | (rw [if_neg (by omega)])
  · rw [add_add, Nat.mul_one]
    refine hcell _ v ?_
    rw [List.map_take, List.map_drop, List.getElem?_take] at hj
    split at hj
    · rw [List.getElem?_drop] at hj; exact hj
    · cases hj
end Go.Proofs.YtkgoanjemhbjgaaGreat

/- Spaces: frames that can be, on both sides. Conditions: none. -/
set_option linter.unusedVariables false
set_option linter.unusedSimpArgs false
namespace Go.Proofs.YtkgoanjemhbjgaaGreat
open Go Go.Den
/-- The list of free blocks, lent. -/
structure FrAt (w : World) (l : Sl) (fr : List DBlock) : Prop where
  len : l.len = fr.length
  row : RowAt w l.a (l.len * 2) (fr.flatMap DBlock.cells)
  few : fr.length ≤ 1099511627776
theorem FrAt.ext {w w' : World} {l : Sl} {fr : List DBlock} (h : FrAt w l fr) (e : Ext w w') : FrAt w' l fr := ⟨h.len, e.row h.row, h.few⟩
theorem FrAt.get {w : World} {l : Sl} {fr : List DBlock} (h : FrAt w l fr) {i : Nat} {x : DBlock} (hx : fr[i]? = some x) :
    ∃ p, l.a = some p ∧ w.cell? ((p.add (i * 2)).add 0) = some (.int .i64 x.At) ∧ w.cell? ((p.add (i * 2)).add 1) = some (.int .i64 x.Order) := by
  obtain ⟨p, hp, hc⟩ := RowAt.elem (f := DBlock.cells) (z := 2) (fun _ => rfl) h.row hx (by omega)
  exact ⟨p, hp, hc 0 _ rfl, hc 1 _ rfl⟩
def pw (o : Int) : Int := ((2 ^ o.toNat : Nat) : Int)
theorem pw_rng {o : Int} (h1 : o ≤ 11) : 1 ≤ pw o ∧ pw o ≤ 2048 := by
  unfold pw
  have h1 : 2 ^ o.toNat ≤ 2 ^ 11 := pow_le (by omega)
  have h2 : 1 ≤ 2 ^ o.toNat := Nat.one_le_two_pow
  omega
theorem c77 {o : Int} {w : World} (h0 : 0 ≤ o) (h1 : o ≤ 11) : CallW Tryz.prog 77 #[.int .i64 o] w (fun v w' => v = .int .i64 (pw o) ∧ w' = w) := by
  refine go77 ?_
  unfold W77
  obtain ⟨n, rfl⟩ := Int.eq_ofNat_of_zero_le h0
  refine LoopW.m2 (fun (x i : Int) w' => ∃ k : Nat, k ≤ n ∧ i = k ∧ x = ((2 ^ k : Nat) : Int) ∧ w' = w) (fun _ (i : Int) _ => ((n : Int) - i).toNat) ⟨0, by omega, rfl, rfl, rfl⟩ ?_
  rintro (x : Int) (i : Int) w ⟨k, hk, rfl, rfl, rfl⟩ J hJ
  refine BIf.dec (fun hlt => ?_) (fun hge => ?_)
  · have h1 : 2 ^ (k + 1) ≤ 2 ^ 11 := pow_le (by omega)
    have h2 : 2 ^ (k + 1) = 2 ^ k * 2 := Nat.pow_succ 2 k
    rw [w64 (by omega) (by omega), w64 (by omega) (by omega)]
    exact hJ _ _ _ ⟨k + 1, by omega, by omega, by rw [h2]; omega, rfl⟩ (by omega)
  · have : k = n := by omega
    subst this
    refine ⟨?_, rfl⟩
    unfold pw; rw [Int.toNat_natCast]
theorem shl_pw {o : Int} (h0 : 0 ≤ o) (h1 : o ≤ 11) : shlI .i64 1 o = pw o := by
  have hp := pw_rng h1
  unfold shlI
  rw [show min o.toNat (IntKind.i64.bits) = o.toNat from Nat.min_eq_left (by show o.toNat ≤ 64; omega)]
  have : (1 : Int) * 2 ^ o.toNat = pw o := by unfold pw; norm_cast; omega
  rw [this, w64 (by omega) (by omega)]
def blkOk (T a o : Int) : Bool := decide (0 ≤ o ∧ o ≤ 10 ∧ 0 ≤ a ∧ a < T ∧ a % pw o = 0 ∧ a + pw o ≤ T)
theorem c103 {T a o : Int} {w : World} (hT : T ≤ 1099511627776) : CallW Tryz.prog 103 #[.int .i64 T, .agg #[.int .i64 a, .int .i64 o]] w (fun v w' => v = .bool (blkOk T a o) ∧ Ext w w') := by
  refine go103 ?_
  unfold W103
  refine alloc_step (fun w1 e hb n1 => ?_)
  refine ⟨_, hb.cell 1, join_or_ex _ (hb.cell 1) ?_⟩
  refine BIf.of (fun h => ⟨?_, e⟩) (fun h => ?_)
  · simp only [Bool.or_eq_true, decide_eq_true_eq] at h
    unfold blkOk
    rw [decide_eq_false (by omega)]
  · simp only [Bool.or_eq_false_iff, decide_eq_false_iff_not] at h
    have hp := pw_rng (o := o) (by omega)
    refine ⟨_, hb.cell 1, (c77 (by omega) (by omega)).mono ?_⟩
    rintro _ w1 ⟨rfl, rfl⟩
    refine ⟨_, rfl, _, hb.cell 0, join_and_ex _ (hb.cell 0) ?_⟩
    refine JoinW.cut1 (fun (b : Bool) w' => b = ((decide (a ≥ 0) && decide (a < T)) && decide (a % pw o = 0)) ∧ w' = w1) ?_ ?_
    · refine BIf.of (fun h2 => ⟨_, hb.cell 0, by omega, ?_, rfl⟩) (fun h2 => ⟨by rw [h2]; rfl, rfl⟩)
      rw [h2]
      simp only [Bool.and_eq_true, decide_eq_true_eq] at h2
      rw [Int.tmod_eq_emod_of_nonneg h2.1]
      rfl
    rintro (b : Bool) w1 ⟨rfl, rfl⟩
    refine join_and_ex _ (hb.cell 0) ⟨?_, e⟩
    congr 1
    apply Bool.eq_iff_iff.2
    unfold blkOk
    simp only [Bool.and_eq_true, decide_eq_true_eq]
    constructor
    · rintro ⟨⟨⟨h1, h2⟩, h3⟩, h4⟩
      rw [w64 (by omega) (by omega)] at h4
      exact ⟨by omega, by omega, by omega, by omega, h3, h4⟩
    · rintro ⟨h1, h2, h3, h4, h5, h6⟩
      exact ⟨⟨⟨by omega, by omega⟩, h5⟩, by rw [w64 (by omega) (by omega)]; omega⟩
theorem c112 {T a o : Int} {w : World} (hT : T ≤ 1099511627776) : CallW Tryz.prog 112 #[.int .i64 T, .agg #[.int .i64 a, .int .i64 o]] w (fun v w' => v = .bool (blkOk T a o) ∧ Ext w w') := by
  refine go112 ?_
  unfold W112
  refine alloc_step (fun w1 e hb n1 => ?_)
  refine ⟨_, hb.cell 1, join_or_ex _ (hb.cell 1) (join_or_ex _ (hb.cell 0) (join_or_ex _ (hb.cell 0) ?_))⟩
  refine BIf.of (fun h => ⟨?_, e⟩) (fun h => ?_)
  · simp only [Bool.or_eq_true, decide_eq_true_eq] at h
    unfold blkOk
    rw [decide_eq_false (by omega)]
  · simp only [Bool.or_eq_false_iff, decide_eq_false_iff_not] at h
    have hp := pw_rng (o := o) (by omega)
    refine ⟨_, hb.cell 1, by omega, _, hb.cell 0, ?_⟩
    rw [shl_pw (by omega) (by omega)]
    refine ⟨by omega, join_and_ex _ (hb.cell 0) ⟨?_, e⟩⟩
    congr 1
    apply Bool.eq_iff_iff.2
    rw [Int.tmod_eq_emod_of_nonneg (by omega), w64 (by omega) (by omega)]
    unfold blkOk
    simp only [Bool.and_eq_true, decide_eq_true_eq, beq_iff_eq]
    constructor
    · rintro ⟨h3, h4⟩
      exact ⟨by omega, by omega, by omega, by omega, h3, h4⟩
    · rintro ⟨h1, h2, h3, h4, h5, h6⟩
      exact ⟨h5, h6⟩
/-! ## Frames that can be -/
def BlkAfter (c b : DBlock) : Prop := c.At + pw c.Order ≤ b.At ∧ ¬ (c.Order = b.Order ∧ b.Order < 10 ∧ c.At + pw c.Order = b.At ∧ c.At % (2 * pw b.Order) = 0)
def BlkP (T : Int) (fr : List DBlock) (i : Nat) (b : DBlock) : Prop := blkOk T b.At b.Order = true ∧ ∀ c, 0 < i → fr[i - 1]? = some c → BlkAfter c b
def FOk (T : Int) (fr : List DBlock) : Prop := 0 ≤ T ∧ T ≤ 1024 ∧ ∀ i b, fr[i]? = some b → BlkP T fr i b
def KB (P : Prop) (w : World) (v : Value) (w' : World) : Prop := ∃ b, v = .bool b ∧ (b = true ↔ P) ∧ Ext w w'
def EndAt (fr : List DBlock) (k : Nat) (e : Int) : Prop := (k = 0 ∧ e = 0) ∨ ∃ c, 0 < k ∧ fr[k - 1]? = some c ∧ e = c.At + pw c.Order
theorem blkOk_out {T a o : Int} (h : blkOk T a o = true) : 0 ≤ o ∧ o ≤ 10 ∧ 0 ≤ a ∧ a < T ∧ a % pw o = 0 ∧ a + pw o ≤ T := of_decide_eq_true h
theorem blk_put2 {w : World} {b : Nat} {x : DBlock} {k : World → Prop} (hb : Blk w b [.int .i64 0, .int .i64 0]) (h : ∀ w2, Only (fun j => j = b) w w2 → Blk w2 b [.int .i64 x.At, .int .i64 x.Order] → w2.heap.size = w.heap.size → k w2) :
    MayN w ⟨b, 0, none⟩ 2 ∧ LetW (Den.puts w ⟨b, 0, none⟩ 0 [.int .i64 x.At, .int .i64 x.Order]) k := put_step hb rfl rfl h
theorem c55 {l : Sl} {T : Int} {fr : List DBlock} {w : World} (h : FrAt w l fr) : CallW Tryz.prog 55 #[.agg #[.int .i64 T, .slice l.a l.len l.cap]] w (KB (FOk T fr) w) := by
  refine go55 ?_
  unfold W55
  refine alloc_step (fun w1 e hb n1 => ?_)
  have h1 := h.ext e
  have hl := h.len
  have hfew := h.few
  refine ⟨_, hb.cell 0, join_or_ex _ (hb.cell 0) ?_⟩
  refine BIf.of (fun hbad => ⟨false, rfl, ⟨(fun h => nomatch h), fun hf => ?_⟩, e⟩) (fun hgood => ?_)
  · simp only [Bool.or_eq_true, decide_eq_true_eq] at hbad
    have := hf.1; have := hf.2.1; omega
  simp only [Bool.or_eq_false_iff, decide_eq_false_iff_not] at hgood
  refine LoopW.m2 (fun (en i : Int) w' => ∃ k : Nat, i = k ∧ k ≤ fr.length ∧ (∀ j b, j < k → fr[j]? = some b → BlkP T fr j b) ∧ EndAt fr k en ∧ Ext w1 w') (fun _ (i : Int) _ => ((fr.length : Int) - i).toNat) ⟨0, rfl, by omega, fun j b hj => absurd hj (Nat.not_lt_zero _), .inl ⟨rfl, rfl⟩, Only.refl _ _⟩ ?_
  rintro (en : Int) (i : Int) w2 ⟨k, rfl, hk, hall, hend, e2⟩ J hJ
  have hb2 := hb.ext e2
  have h2 := h1.ext e2
  have z2 := e2.size
  refine ⟨l, hb2.cell 1, ?_⟩
  rw [hl]
  refine BIf.dec (fun hlt => ?_) (fun hge => ?_)
  · obtain ⟨x, hx⟩ : ∃ x, fr[k]? = some x := ⟨_, List.getElem?_eq_getElem (by omega)⟩
    obtain ⟨p, hp, hc0, hc1⟩ := h2.get hx
    have no : ∀ w', Ext w1 w' → ¬ BlkP T fr k x → KB (FOk T fr) w (.bool false) w' := fun w' e' hn => ⟨false, rfl, ⟨(fun h => nomatch h), fun hf => absurd (hf.2.2 k x hx) hn⟩, Only.trans e e'⟩
    refine ⟨l, hb2.cell 1, by omega, by omega, p, hp, _, hc0, _, hc1, alloc_step (fun w3 e3 hz n3 => blk_put2 hz (fun w4 o4 hz n4 => ?_))⟩
    have e24 : Ext w2 w4 := Ext.own e3 o4 (fun k hk => by omega)
    have hb4 := hb2.ext e24
    refine ⟨_, hb4.cell 0, _, hz.cell 0, _, hz.cell 1, (c103 (by omega)).mono ?_⟩
    rintro _ w5 ⟨rfl, e5⟩
    have hz5 := hz.ext e5
    have e25 := Only.trans e24 e5
    refine ⟨_, rfl, join_or_ex _ (hz5.cell 0) ?_⟩
    refine BIf.of (fun hbad => no _ (Only.trans e2 e25) (fun hP => ?_)) (fun hok => ?_)
    · simp only [Bool.or_eq_true, Bool.not_eq_true', decide_eq_true_eq] at hbad
      rcases hbad with hbad | hbad
      · rw [hP.1] at hbad; cases hbad
      · rcases hend with ⟨_, rfl⟩ | ⟨c, hk0, hc, rfl⟩
        · have := (blkOk_out hP.1).2.2.1; omega
        · have := (hP.2 c hk0 hc).1; omega
    simp only [Bool.or_eq_false_iff, Bool.not_eq_false', decide_eq_false_iff_not] at hok
    obtain ⟨hok, hend2⟩ := hok
    have hbo := blkOk_out hok
    have hpw := pw_rng (o := x.Order) (by omega)
    refine ⟨_, hz5.cell 1, (c77 hbo.1 (by omega)).mono ?_⟩
    rintro _ w5 ⟨rfl, rfl⟩
    refine ⟨_, rfl, ?_⟩
    refine JoinW.cut1 (fun (b : Bool) w' => (b = true ↔ ∃ c, 0 < k ∧ fr[k - 1]? = some c ∧ c.Order = x.Order ∧ x.Order < 10 ∧ en = x.At ∧ c.At % (2 * pw x.Order) = 0) ∧ Ext w5 w') ?_ ?_
    · refine BIf.dec (fun hk0 => ?_) (fun hk0 => ⟨⟨(fun h => nomatch h), fun ⟨c, h, _⟩ => by omega⟩, ext_drew w5⟩)
      have ed := ext_drew w5
      generalize w5.drew = w6 at *
      have hb6 := (hb4.ext e5).ext ed
      have hz6 := hz5.ext ed
      obtain ⟨c, hc⟩ : ∃ c, fr[k - 1]? = some c := ⟨_, List.getElem?_eq_getElem (by omega)⟩
      have hidx : IntKind.i64.wrap ((k : Int) - 1) = ((k - 1 : Nat) : Int) := by rw [w64 (by omega) (by omega)]; omega
      rw [hidx, Int.toNat_natCast]
      obtain ⟨q, hq, hd0, hd1⟩ := (h2.ext (Only.trans e25 ed)).get hc
      have uq : ∀ c', fr[k - 1]? = some c' → c' = c := fun c' h => by rw [hc] at h; injection h with h; exact h.symm
      refine ⟨l, hb6.cell 1, by omega, by omega, q, hq, _, hd1, _, hz6.cell 1, ?_⟩
      refine BIf.eq (fun h3 => ⟨_, hz6.cell 1, BIf.dec (fun h4 => ⟨_, hz6.cell 0, BIf.eq (fun h5 => ?_) (fun h5 => ?_)⟩) (fun h4 => ?_)⟩) (fun h3 => ?_)
      · refine ⟨l, hb6.cell 1, by omega, by omega, q, hq, _, hd0, ?_⟩
        have hcP := (hall (k - 1) c (by omega) hc).1
        have hcb := blkOk_out hcP
        rw [w64 (by omega) (by omega)]
        refine ⟨by omega, ⟨?_, ed⟩⟩
        rw [Int.tmod_eq_emod_of_nonneg hcb.2.2.1, beq_iff_eq]
        exact ⟨fun h6 => ⟨c, by omega, hc, h3, h4, h5.symm, h6⟩, fun ⟨c', _, hc', _, _, _, h6⟩ => by rw [uq c' hc'] at h6; exact h6⟩
      · exact ⟨⟨(fun h => nomatch h), fun ⟨c', _, hc', _, _, h6, _⟩ => absurd h6.symm h5⟩, ed⟩
      · exact ⟨⟨(fun h => nomatch h), fun ⟨c', _, hc', _, h6, _, _⟩ => absurd h6 h4⟩, ed⟩
      · exact ⟨⟨(fun h => nomatch h), fun ⟨c', _, hc', h6, _, _, _⟩ => absurd (by rw [← uq c' hc']; exact h6) h3⟩, ed⟩
    rintro (b : Bool) w6 ⟨hiff, e6⟩
    have e26 := Only.trans e25 e6
    refine BIf.of (fun hbt => no _ (Only.trans e2 e26) (fun hP => ?_)) (fun hbf => ?_)
    · obtain ⟨c, hk0, hc, g1, g2, g3, g4⟩ := hiff.1 hbt
      rcases hend with ⟨hz, _⟩ | ⟨c', _, hc', rfl⟩
      · omega
      · rw [hc] at hc'; injection hc' with hc'; subst hc'
        exact (hP.2 c hk0 hc).2 ⟨g1, g2, g3, g4⟩
    · have hP : BlkP T fr k x := by
        refine ⟨hok, fun c hk0 hc => ?_⟩
        rcases hend with ⟨hz, _⟩ | ⟨c', _, hc', rfl⟩
        · omega
        · rw [hc] at hc'; injection hc' with hc'; subst hc'
          refine ⟨by omega, fun ⟨g1, g2, g3, g4⟩ => ?_⟩
          rw [hiff.2 ⟨c, hk0, hc, g1, g2, g3, g4⟩] at hbf; cases hbf
      refine ⟨_, (hz5.ext e6).cell 0, ?_⟩
      rw [w64 (by omega) (by omega), w64 (by omega) (by omega)]
      refine hJ _ _ _ ⟨k + 1, by omega, by omega, fun j b hj hb => ?_, .inr ⟨x, by omega, hx, rfl⟩, Only.trans e2 e26⟩ (by omega)
      by_cases hjk : j = k
      · subst hjk; rw [hx] at hb; cases hb; exact hP
      · exact hall j b (by omega) hb
  · exact ⟨true, rfl, ⟨fun _ => ⟨by omega, by omega, fun j b hb => hall j b (by have := (List.getElem?_eq_some_iff.1 hb).1; omega) hb⟩, fun _ => rfl⟩, Only.trans e e2⟩
theorem c71 {l : Sl} {T : Int} {fr : List DBlock} {w : World} (h : FrAt w l fr) : CallW Tryz.prog 71 #[.agg #[.int .i64 T, .slice l.a l.len l.cap]] w (KB (FOk T fr) w) := by
  refine go71 ?_
  unfold W71
  refine alloc_step (fun w1 e hb n1 => ?_)
  have h1 := h.ext e
  have hl := h.len
  have hfew := h.few
  refine ⟨_, hb.cell 0, join_or_ex _ (hb.cell 0) ?_⟩
  refine BIf.of (fun hbad => ⟨false, rfl, ⟨(fun h => nomatch h), fun hf => ?_⟩, e⟩) (fun hgood => ?_)
  · simp only [Bool.or_eq_true, decide_eq_true_eq] at hbad
    have := hf.1; have := hf.2.1; omega
  simp only [Bool.or_eq_false_iff, decide_eq_false_iff_not] at hgood
  refine ⟨l, hb.cell 1, ?_⟩
  rw [hl]
  refine LoopW.m2 (fun (en i : Int) w' => ∃ k : Nat, i = k ∧ k ≤ fr.length ∧ (∀ j b, j < k → fr[j]? = some b → BlkP T fr j b) ∧ EndAt fr k en ∧ Ext w1 w') (fun _ (i : Int) _ => ((fr.length : Int) - i).toNat) ⟨0, rfl, by omega, fun j b hj => absurd hj (Nat.not_lt_zero _), .inl ⟨rfl, rfl⟩, Only.refl _ _⟩ ?_
  rintro (en : Int) (i : Int) w2 ⟨k, rfl, hk, hall, hend, e2⟩ J hJ
  have hb2 := hb.ext e2
  have h2 := h1.ext e2
  have z2 := e2.size
  refine BIf.dec (fun hlt => ?_) (fun hge => ?_)
  · obtain ⟨x, hx⟩ : ∃ x, fr[k]? = some x := ⟨_, List.getElem?_eq_getElem (by omega)⟩
    obtain ⟨p, hp, hc0, hc1⟩ := h2.get hx
    have no : ∀ w', Ext w1 w' → ¬ BlkP T fr k x → KB (FOk T fr) w (.bool false) w' := fun w' e' hn => ⟨false, rfl, ⟨(fun h => nomatch h), fun hf => absurd (hf.2.2 k x hx) hn⟩, Only.trans e e'⟩
    refine ⟨by omega, by omega, p, hp, _, hc0, _, hc1, alloc_step (fun w3 e3 hz n3 => blk_put2 hz (fun w4 o4 hz n4 => ?_))⟩
    have e24 : Ext w2 w4 := Ext.own e3 o4 (fun k hk => by omega)
    have hb4 := hb2.ext e24
    refine ⟨_, hb4.cell 0, _, hz.cell 0, _, hz.cell 1, (c112 (by omega)).mono ?_⟩
    rintro _ w5 ⟨rfl, e5⟩
    have hz5 := hz.ext e5
    have e25 := Only.trans e24 e5
    refine ⟨_, rfl, join_or_ex _ (hz5.cell 0) ?_⟩
    refine BIf.of (fun hbad => no _ (Only.trans e2 e25) (fun hP => ?_)) (fun hok => ?_)
    · simp only [Bool.or_eq_true, Bool.not_eq_true', decide_eq_true_eq] at hbad
      rcases hbad with hbad | hbad
      · rw [hP.1] at hbad; cases hbad
      · rcases hend with ⟨_, rfl⟩ | ⟨c, hk0, hc, rfl⟩
        · have := (blkOk_out hP.1).2.2.1; omega
        · have := (hP.2 c hk0 hc).1; omega
    simp only [Bool.or_eq_false_iff, Bool.not_eq_false', decide_eq_false_iff_not] at hok
    obtain ⟨hok, hend2⟩ := hok
    have hbo := blkOk_out hok
    have hpw := pw_rng (o := x.Order) (by omega)
    have z25 := e25.size
    refine ⟨_, hz5.cell 1, by omega, _, hz5.cell 0, ?_⟩
    rw [shl_pw hbo.1 (by omega)]
    have done : ∀ w', Ext w1 w' → (∀ c, 0 < k → fr[k - 1]? = some c → ¬ (c.Order = x.Order ∧ x.Order < 10 ∧ c.At = x.At - pw x.Order ∧ c.At % (2 * pw x.Order) = 0)) → (J : Int → Int → World → Prop) (IntKind.wrap .i64 (x.At + pw x.Order)) (IntKind.wrap .i64 ((k : Int) + 1)) w' := by
      intro w' e' hno
      have hP : BlkP T fr k x := by
        refine ⟨hok, fun c hk0 hc => ?_⟩
        rcases hend with ⟨hz, _⟩ | ⟨c', _, hc', rfl⟩
        · omega
        · rw [hc] at hc'; injection hc' with hc'; subst hc'
          refine ⟨by omega, fun ⟨g1, g2, g3, g4⟩ => hno c hk0 hc ⟨g1, g2, by rw [g1] at g3; omega, g4⟩⟩
      rw [w64 (by omega) (by omega), w64 (by omega) (by omega)]
      refine hJ _ _ _ ⟨k + 1, by omega, by omega, fun j b hj hb => ?_, .inr ⟨x, by omega, hx, rfl⟩, e'⟩ (by omega)
      by_cases hjk : j = k
      · subst hjk; rw [hx] at hb; cases hb; exact hP
      · exact hall j b (by omega) hb
    refine BIf.dec (fun hk0 => ?_) (fun hk0 => done _ (Only.trans e2 e25) (fun c h => by omega))
    obtain ⟨c, hc⟩ : ∃ c, fr[k - 1]? = some c := ⟨_, List.getElem?_eq_getElem (by omega)⟩
    have hidx : IntKind.i64.wrap ((k : Int) - 1) = ((k - 1 : Nat) : Int) := by rw [w64 (by omega) (by omega)]; omega
    obtain ⟨q, hq, hd0, hd1⟩ := (h2.ext e25).get hc
    have uq : ∀ c', fr[k - 1]? = some c' → c' = c := fun c' h => by rw [hc] at h; injection h with h; exact h.symm
    refine ⟨l, (hb4.ext e5).cell 1, ?_⟩
    rw [hidx, Int.toNat_natCast]
    refine ⟨by omega, by omega, q, hq, _, hd0, _, hd1, alloc_step (fun w6 e6 hy n6 => blk_put2 hy (fun w7 o7 hy n7 => ?_))⟩
    have e57 : Ext w5 w7 := Ext.own e6 o7 (fun k hk => by omega)
    have hz7 := hz5.ext e57
    have e27 := Only.trans e25 e57
    refine ⟨_, hy.cell 1, _, hz7.cell 1, join_and_ex _ (hz7.cell 1) ?_⟩
    refine JoinW.cut1 (fun (b : Bool) w' => b = ((c.Order == x.Order && decide (x.Order < 10)) && decide (c.At = x.At - pw x.Order)) ∧ w' = w7) ?_ ?_
    · refine BIf.of (fun h3 => ⟨_, hy.cell 0, _, hz7.cell 0, ?_, rfl⟩) (fun h3 => ⟨by rw [h3]; rfl, rfl⟩)
      rw [h3, w64 (by omega) (by omega)]
      rfl
    rintro (b : Bool) w7 ⟨rfl, rfl⟩
    have hcP := (hall (k - 1) c (by omega) hc).1
    have hcb := blkOk_out hcP
    refine JoinW.cut1 (fun (b : Bool) w' => b = (((c.Order == x.Order && decide (x.Order < 10)) && decide (c.At = x.At - pw x.Order)) && decide (c.At % (2 * pw x.Order) = 0)) ∧ w' = w7) ?_ ?_
    · refine BIf.of (fun h3 => ⟨_, hy.cell 0, ?_⟩) (fun h3 => ⟨by rw [h3]; rfl, rfl⟩)
      rw [w64 (by omega) (by omega), h3, Int.tmod_eq_emod_of_nonneg hcb.2.2.1]
      exact ⟨by omega, rfl, rfl⟩
    rintro (b : Bool) w7 ⟨rfl, rfl⟩
    refine BIf.of (fun hbt => no _ (Only.trans e2 e27) (fun hP => ?_)) (fun hbf => done _ (Only.trans e2 e27) (fun c' h0 hc' => ?_))
    · simp only [Bool.and_eq_true, decide_eq_true_eq, beq_iff_eq] at hbt
      obtain ⟨⟨⟨g1, g2⟩, g3⟩, g4⟩ := hbt
      exact (hP.2 c (by omega) hc).2 ⟨g1, g2, by rw [g1]; omega, g4⟩
    · rw [uq c' hc']
      rintro ⟨g1, g2, g3, g4⟩
      rw [g1, decide_eq_true g2, decide_eq_true g3, decide_eq_true g4] at hbf
      simp at hbf
  · exact ⟨true, rfl, ⟨fun _ => ⟨by omega, by omega, fun j b hb => hall j b (by have := (List.getElem?_eq_some_iff.1 hb).1; omega) hb⟩, fun _ => rfl⟩, Only.trans e e2⟩
end Go.Proofs.YtkgoanjemhbjgaaGreat

/- Spaces: pools that can be, which frames are free, copies, an entry read. Conditions: none. -/
set_option linter.unusedVariables false
set_option linter.unusedSimpArgs false
namespace Go.Proofs.YtkgoanjemhbjgaaGreat
open Go Go.Den
def mOk (m : List Int) : Bool := decide (m.length % 256 = 0) && decide (m.length ≤ 262144)
theorem c78 {s : Sl} {m : List Int} {w : World} (h : s.len = m.length) : CallW Tryz.prog 78 #[.slice s.a s.len s.cap] w (fun v w' => v = .bool (mOk m) ∧ w' = w) := by
  refine go78 ?_
  unfold W78
  refine ⟨by omega, ?_⟩
  simp only [join_and]
  refine ⟨?_, by trivial⟩
  congr 1
  rw [h, Int.tmod_eq_emod_of_nonneg (by omega)]
  unfold mOk
  apply Bool.eq_iff_iff.2
  simp only [Bool.and_eq_true, decide_eq_true_eq, beq_iff_eq]
  omega
theorem c83 {s : Sl} {m : List Int} {w : World} (h : s.len = m.length) : CallW Tryz.prog 83 #[.slice s.a s.len s.cap] w (fun v w' => v = .bool (mOk m) ∧ w' = w) := by
  refine go83 ?_
  unfold W83
  refine ⟨by omega, ?_⟩
  simp only [join_and]
  refine ⟨?_, by trivial⟩
  congr 1
  rw [h, Int.tmod_eq_emod_of_nonneg (by omega)]
  unfold mOk
  apply Bool.eq_iff_iff.2
  simp only [Bool.and_eq_true, decide_eq_true_eq, beq_iff_eq]
  omega
def POk (m : List Int) (T : Int) (fr : List DBlock) : Prop := m.length % 256 = 0 ∧ m.length ≤ 262144 ∧ FOk T fr ∧ T = ((m.length / 256 : Nat) : Int)
theorem c73 {sm sf : Sl} {m : List Int} {T : Int} {fr : List DBlock} {w : World} (hm : Bytes w sm m) (hf : FrAt w sf fr) : CallW Tryz.prog 73 #[.agg #[.slice sm.a sm.len sm.cap, .int .i64 T, .slice sf.a sf.len sf.cap]] w (KB (POk m T fr) w) := by
  refine go73 ?_
  unfold W73
  have hl := hm.len
  have hsm := hm.small
  refine alloc_step (fun w1 e hb n1 => ?_)
  refine ⟨sm, hb.cell 0, (c78 hl).mono ?_⟩
  rintro _ w1 ⟨rfl, rfl⟩
  refine ⟨_, rfl, ?_⟩
  refine JoinW.cut1 (fun (b : Bool) w' => (b = true ↔ m.length % 256 = 0 ∧ m.length ≤ 262144 ∧ FOk T fr) ∧ Ext w1 w') ?_ ?_
  · refine BIf.of (fun h => ⟨_, hb.cell 1, sf, hb.cell 2, (c55 (hf.ext e)).mono ?_⟩) (fun h => ⟨⟨(fun h => nomatch h), fun hp => ?_⟩, Only.refl _ _⟩)
    · rintro _ w2 ⟨b, rfl, hiff, e2⟩
      refine ⟨b, rfl, ?_, e2⟩
      rw [hiff]
      simp only [mOk, Bool.and_eq_true, decide_eq_true_eq] at h
      exact ⟨fun hp => ⟨h.1, h.2, hp⟩, fun hp => hp.2.2⟩
    · simp only [mOk, Bool.and_eq_false_iff, decide_eq_false_iff_not] at h
      have := hp.1; have := hp.2.1
      omega
  rintro (b : Bool) w2 ⟨hiff, e2⟩
  have hb2 := hb.ext e2
  refine JoinW.cut1 (fun (b : Bool) w' => (b = true ↔ POk m T fr) ∧ w' = w2) ?_ ?_
  · refine BIf.of (fun h => ⟨_, hb2.cell 1, sm, hb2.cell 0, by omega, ?_, rfl⟩) (fun h => ⟨⟨(fun h => nomatch h), fun hp => ?_⟩, rfl⟩)
    · have hp := hiff.1 h
      rw [hl, Int.tdiv_eq_ediv_of_nonneg (by omega), w64 (by omega) (by omega), beq_iff_eq]
      exact ⟨fun hT => ⟨hp.1, hp.2.1, hp.2.2, by omega⟩, fun h => by have := h.2.2.2; omega⟩
    · rw [hiff.2 ⟨hp.1, hp.2.1, hp.2.2.1⟩] at h; cases h
  rintro (b : Bool) w2 ⟨hiff2, rfl⟩
  exact ⟨b, rfl, hiff2, Only.trans e e2⟩
theorem c33 {sm sf : Sl} {m : List Int} {T : Int} {fr : List DBlock} {w : World} (hm : Bytes w sm m) (hf : FrAt w sf fr) : CallW Tryz.prog 33 #[.agg #[.slice sm.a sm.len sm.cap, .int .i64 T, .slice sf.a sf.len sf.cap]] w (KB (POk m T fr) w) := by
  refine go33 ?_
  unfold W33
  have hl := hm.len
  have hsm := hm.small
  refine alloc_step (fun w1 e hb n1 => ?_)
  refine ⟨sm, hb.cell 0, (c83 hl).mono ?_⟩
  rintro _ w1 ⟨rfl, rfl⟩
  refine ⟨_, rfl, ?_⟩
  refine JoinW.cut1 (fun (b : Bool) w' => (b = true ↔ m.length % 256 = 0 ∧ m.length ≤ 262144 ∧ FOk T fr) ∧ Ext w1 w') ?_ ?_
  · refine BIf.of (fun h => ⟨_, hb.cell 1, sf, hb.cell 2, (c71 (hf.ext e)).mono ?_⟩) (fun h => ⟨⟨(fun h => nomatch h), fun hp => ?_⟩, Only.refl _ _⟩)
    · rintro _ w2 ⟨b, rfl, hiff, e2⟩
      refine ⟨b, rfl, ?_, e2⟩
      rw [hiff]
      simp only [mOk, Bool.and_eq_true, decide_eq_true_eq] at h
      exact ⟨fun hp => ⟨h.1, h.2, hp⟩, fun hp => hp.2.2⟩
    · simp only [mOk, Bool.and_eq_false_iff, decide_eq_false_iff_not] at h
      have := hp.1; have := hp.2.1
      omega
  rintro (b : Bool) w2 ⟨hiff, e2⟩
  have hb2 := hb.ext e2
  refine JoinW.cut1 (fun (b : Bool) w' => (b = true ↔ POk m T fr) ∧ w' = w2) ?_ ?_
  · refine BIf.of (fun h => ⟨_, hb2.cell 1, sm, hb2.cell 0, by omega, ?_, rfl⟩) (fun h => ⟨⟨(fun h => nomatch h), fun hp => ?_⟩, rfl⟩)
    · have hp := hiff.1 h
      rw [hl, Int.tdiv_eq_ediv_of_nonneg (by omega), w64 (by omega) (by omega), beq_iff_eq]
      exact ⟨fun hT => ⟨hp.1, hp.2.1, hp.2.2, by omega⟩, fun h => by have := h.2.2.2; omega⟩
    · rw [hiff.2 ⟨hp.1, hp.2.1, hp.2.2.1⟩] at h; cases h
  rintro (b : Bool) w2 ⟨hiff2, rfl⟩
  exact ⟨b, rfl, hiff2, Only.trans e e2⟩
/-! ## Which frames are free -/
def setR (l : List Bool) (a : Nat) : Nat → List Bool
  | 0 => l
  | k + 1 => (setR l a k).set (a + k) true
def fmapF : List DBlock → List Bool → List Bool
  | [], l => l
  | b :: r, l => fmapF r (setR l b.At.toNat (pw b.Order).toNat)
def freeL (T : Int) (fr : List DBlock) : List Bool := fmapF fr (List.replicate T.toNat false)
theorem setR_len (l : List Bool) (a : Nat) : ∀ k, (setR l a k).length = l.length
  | 0 => rfl
  | k + 1 => by unfold setR; rw [List.length_set, setR_len l a k]
theorem fmapF_app : ∀ (a b : List DBlock) (l : List Bool), fmapF (a ++ b) l = fmapF b (fmapF a l)
  | [], b, l => rfl
  | x :: a, b, l => fmapF_app a b (setR l x.At.toNat (pw x.Order).toNat)
theorem fmapF_len : ∀ (a : List DBlock) (l : List Bool), (fmapF a l).length = l.length
  | [], l => rfl
  | x :: a, l => by unfold fmapF; rw [fmapF_len a, setR_len]
theorem freeL_len (T : Int) (fr : List DBlock) : (freeL T fr).length = T.toNat := by unfold freeL; rw [fmapF_len, List.length_replicate]
theorem fmapF_take {fr : List DBlock} {k : Nat} {x : DBlock} (hx : fr[k]? = some x) (l : List Bool) : fmapF (fr.take (k + 1)) l = setR (fmapF (fr.take k) l) x.At.toNat (pw x.Order).toNat := by
  rw [List.take_add_one, hx, fmapF_app]; rfl
def bools (l : List Bool) : List Value := l.map Value.bool
theorem bools_len (l : List Bool) : (bools l).length = l.length := by unfold bools; simp
theorem bools_set (l : List Bool) (i : Nat) (b : Bool) : (bools l).set i (.bool b) = bools (l.set i b) := by unfold bools; rw [List.map_set]
theorem zeros_bool : ∀ n, zerosOf [Value.bool false] n = bools (List.replicate n false)
  | 0 => rfl
  | n + 1 => by rw [zerosOf, zeros_bool n, List.replicate_succ]; rfl
theorem set1_step {w : World} {b i : Nat} {vs : List Value} {v : Value} {k : World → Prop} (hb : Blk w b vs) (hi : i < vs.length) (h : ∀ w2, Only (fun j => j = b) w w2 → Blk w2 b (vs.set i v) → w2.heap.size = w.heap.size → k w2) :
    May w ((⟨b, 0, none⟩ : Addr).add (i * 1)) ∧ LetW (w.setCell ((⟨b, 0, none⟩ : Addr).add (i * 1)) v) k := by
  rw [add_mk, Nat.zero_add, Nat.mul_one]
  exact set_step hb hi h
/-- The map of free frames, made. -/
def FreeV (T : Int) (fr : List DBlock) (w : World) (v : Value) (w' : World) : Prop := ∃ b, v = .slice (some ⟨b, 0, none⟩) T.toNat T.toNat ∧ w.heap.size ≤ b ∧ Blk w' b (bools (freeL T fr)) ∧ Ext w w'
theorem c75 {l : Sl} {T : Int} {fr : List DBlock} {w : World} (h : FrAt w l fr) (hf : FOk T fr) : CallW Tryz.prog 75 #[.agg #[.int .i64 T, .slice l.a l.len l.cap]] w (FreeV T fr w) := by
  refine go75 ?_
  unfold W75
  have hT0 := hf.1
  have hT1 := hf.2.1
  refine alloc_step (fun w1 e hb n1 => ?_)
  refine ⟨_, hb.cell 0, by omega, by omega, by omega, by omega, alloc_step (fun w3 e3 hm n3 => ?_)⟩
  have hm : Blk w3 w1.heap.size (bools (fmapF (fr.take 0) (List.replicate T.toNat false))) := by
    rw [show zerosOf ti4.zero T.toNat = bools (List.replicate T.toNat false) from zeros_bool _] at hm
    exact hm
  have hb3 := hb.ext e3
  have h3 := h.ext (Only.trans e e3)
  have hl := h.len
  have hfew := h.few
  refine LoopW.m1 (fun (i : Int) w' => ∃ k : Nat, i = k ∧ k ≤ fr.length ∧ Blk w' w1.heap.size (bools (fmapF (fr.take k) (List.replicate T.toNat false))) ∧ Only (fun j => j = w1.heap.size) w3 w') (fun (i : Int) _ => ((fr.length : Int) - i).toNat) ⟨0, rfl, by omega, hm, Only.refl _ _⟩ ?_
  rintro (i : Int) w6 ⟨k, rfl, hk, hm6, o6⟩ J hJ
  have e16 : Ext w1 w6 := e3.own o6 (fun j hj => by omega)
  have hb6 := hb.ext e16
  refine ⟨l, hb6.cell 1, ?_⟩
  rw [hl]
  refine BIf.dec (fun hlt => ?_) (fun hge => ?_)
  · obtain ⟨x, hx⟩ : ∃ x, fr[k]? = some x := ⟨_, List.getElem?_eq_getElem (by omega)⟩
    have hbo := blkOk_out (hf.2.2 k x hx).1
    have hpw := pw_rng (o := x.Order) (by omega)
    refine LoopW.m1 (fun (i : Int) w' => ∃ q : Nat, i = q ∧ q ≤ (pw x.Order).toNat ∧ Blk w' w1.heap.size (bools (setR (fmapF (fr.take k) (List.replicate T.toNat false)) x.At.toNat q)) ∧ Only (fun j => j = w1.heap.size) w3 w') (fun (i : Int) _ => (pw x.Order - i).toNat) ⟨0, rfl, by omega, hm6, o6⟩ ?_
    rintro (i : Int) w10 ⟨q, rfl, hq, hm10, o10⟩ J2 hJ2
    have e10 : Ext w1 w10 := e3.own o10 (fun j hj => by omega)
    have hb10 := hb.ext e10
    obtain ⟨p, hp, hc0, hc1⟩ := (h.ext (Only.trans e e10)).get hx
    refine ⟨l, hb10.cell 1, by omega, by omega, p, hp, _, hc1, (c77 hbo.1 (by omega)).mono ?_⟩
    rintro _ w10 ⟨rfl, rfl⟩
    refine ⟨_, rfl, BIf.dec (fun hq2 => ?_) (fun hq2 => ?_)⟩
    · have hidx : IntKind.i64.wrap (x.At + (q : Int)) = ((x.At.toNat + q : Nat) : Int) := by rw [w64 (by omega) (by omega)]; omega
      refine ⟨l, hb10.cell 1, by omega, by omega, p, hp, _, hc0, ?_⟩
      rw [hidx, Int.toNat_natCast]
      refine ⟨by omega, by omega, _, rfl, set1_step hm10 (by rw [bools_len, setR_len, fmapF_len, List.length_replicate]; omega) (fun w21 o21 hm21 n21 => ?_)⟩
      rw [w64 (by omega) (by omega)]
      rw [bools_set] at hm21
      exact hJ2 _ _ ⟨q + 1, by omega, by omega, hm21, Only.trans o10 o21⟩ (by omega)
    · have hq3 : q = (pw x.Order).toNat := by omega
      subst hq3
      rw [w64 (by omega) (by omega)]
      refine hJ _ _ ⟨k + 1, by omega, by omega, ?_, o10⟩ (by omega)
      rw [fmapF_take hx]; exact hm10
  · rw [List.take_of_length_le (by omega)] at hm6
    exact ⟨_, rfl, by omega, hm6, Only.trans e e16⟩
theorem c86 {l : Sl} {T : Int} {fr : List DBlock} {w : World} (h : FrAt w l fr) (hf : FOk T fr) : CallW Tryz.prog 86 #[.agg #[.int .i64 T, .slice l.a l.len l.cap]] w (FreeV T fr w) := by
  refine go86 ?_
  unfold W86
  have hT0 := hf.1
  have hT1 := hf.2.1
  refine alloc_step (fun w1 e hb n1 => ?_)
  refine ⟨_, hb.cell 0, by omega, by omega, by omega, by omega, alloc_step (fun w3 e3 hm n3 => ?_)⟩
  have hm : Blk w3 w1.heap.size (bools (fmapF (fr.take 0) (List.replicate T.toNat false))) := by
    rw [show zerosOf ti4.zero T.toNat = bools (List.replicate T.toNat false) from zeros_bool _] at hm
    exact hm
  have hb3 := hb.ext e3
  have hl := h.len
  have hfew := h.few
  refine ⟨l, hb3.cell 1, ?_⟩
  rw [hl]
  refine LoopW.m1 (fun (i : Int) w' => ∃ k : Nat, i = k ∧ k ≤ fr.length ∧ Blk w' w1.heap.size (bools (fmapF (fr.take k) (List.replicate T.toNat false))) ∧ Ext w1 w' ∧ w1.heap.size < w'.heap.size) (fun (i : Int) _ => ((fr.length : Int) - i).toNat) ⟨0, rfl, by omega, hm, e3, by omega⟩ ?_
  rintro (i : Int) w6 ⟨k, rfl, hk, hm6, e16, z6⟩ J hJ
  have hb6 := hb.ext e16
  refine BIf.dec (fun hlt => ?_) (fun hge => ?_)
  · obtain ⟨x, hx⟩ : ∃ x, fr[k]? = some x := ⟨_, List.getElem?_eq_getElem (by omega)⟩
    have hbo := blkOk_out (hf.2.2 k x hx).1
    have hpw := pw_rng (o := x.Order) (by omega)
    obtain ⟨p, hp, hc0, hc1⟩ := (h.ext (Only.trans e e16)).get hx
    refine ⟨by omega, by omega, p, hp, _, hc0, _, hc1, alloc_step (fun w11 e11 hz n11 => blk_put2 hz (fun w12 o12 hz n12 => ?_))⟩
    have e12 : Ext w6 w12 := e11.own o12 (fun j hj => by omega)
    have hm12 := hm6.ext e12
    refine ⟨_, hz.cell 1, ?_⟩
    rw [shl_pw hbo.1 (by omega)]
    refine ⟨by omega, ?_⟩
    refine LoopW.m1 (fun (i : Int) w' => ∃ q : Nat, i = q ∧ q ≤ (pw x.Order).toNat ∧ Blk w' w1.heap.size (bools (setR (fmapF (fr.take k) (List.replicate T.toNat false)) x.At.toNat q)) ∧ Blk w' w6.heap.size [.int .i64 x.At, .int .i64 x.Order] ∧ Ext w1 w' ∧ w6.heap.size < w'.heap.size) (fun (i : Int) _ => (pw x.Order - i).toNat) ⟨0, rfl, by omega, hm12, hz, Only.trans e16 e12, by omega⟩ ?_
    rintro (i : Int) w16 ⟨q, rfl, hq, hm16, hz16, e116, z16⟩ J2 hJ2
    refine BIf.dec (fun hq2 => ?_) (fun hq2 => ?_)
    · have hidx : IntKind.i64.wrap (x.At + (q : Int)) = ((x.At.toNat + q : Nat) : Int) := by rw [w64 (by omega) (by omega)]; omega
      refine ⟨_, hz16.cell 0, ?_⟩
      rw [hidx, Int.toNat_natCast]
      refine ⟨by omega, by omega, _, rfl, set1_step hm16 (by rw [bools_len, setR_len, fmapF_len, List.length_replicate]; omega) (fun w21 o21 hm21 n21 => ?_)⟩
      rw [w64 (by omega) (by omega)]
      rw [bools_set] at hm21
      exact hJ2 _ _ ⟨q + 1, by omega, by omega, hm21, hz16.only o21 (by omega), e116.own o21 (fun j hj => by omega), by omega⟩ (by omega)
    · have hq3 : q = (pw x.Order).toNat := by omega
      subst hq3
      rw [w64 (by omega) (by omega)]
      refine hJ _ _ ⟨k + 1, by omega, by omega, ?_, e116, by omega⟩ (by omega)
      rw [fmapF_take hx]; exact hm16
  · rw [List.take_of_length_le (by omega)] at hm6
    exact ⟨_, rfl, by omega, hm6, Only.trans e e16⟩
/-! ## Copies -/
theorem OwnS.capLe {w : World} {b0 z : Nat} {s : Sl} {vs : List Value} (h : OwnS w b0 s z vs) : s.len ≤ s.cap := by
  rcases h.2 with ⟨h1, h2⟩ | ⟨b, cs, _, _, _, _, h, _⟩
  · omega
  · exact h
theorem blocks_len (fr : List DBlock) : (fr.flatMap DBlock.cells).length = fr.length * 2 := flatMap_length DBlock.cells 2 (fun _ => rfl) fr
theorem plain_int {k : IntKind} {l : List Int} : ∀ v, v ∈ l.map (Value.int k) → plainB v = true := fun v hv => by obtain ⟨x, _, rfl⟩ := List.mem_map.1 hv; rfl
theorem plain_blk {fr : List DBlock} : ∀ v, v ∈ fr.flatMap DBlock.cells → plainB v = true := fun v hv => by
  obtain ⟨x, _, hx⟩ := List.mem_flatMap.1 hv
  simp only [DBlock.cells, List.mem_cons, List.not_mem_nil, or_false] at hx
  rcases hx with rfl | rfl <;> rfl
theorem c84 {s : Sl} {m : List Int} {w : World} (h : Bytes w s m) : CallW Tryz.prog 84 #[.slice s.a s.len s.cap] w (fun v w' => ∃ t : Sl, v = .slice t.a t.len t.cap ∧ OwnS w' w.heap.size t 1 (m.map (Value.int .u8)) ∧ Ext w w') := by
  refine go84 ?_
  unfold W84
  have hl := h.len
  have hs := h.small
  refine AppendW.own (b0 := w.heap.size) (z := 1) (os := []) (vs := m.map (Value.int .u8)) (OwnS.none _ _ _ _) (by rw [Nat.mul_one]; exact h.row) rfl rfl (by decide) (by show (0 + s.len) * 1 ≤ _; omega) plain_int (Nat.le_refl _) (fun s' w' h1 h2 h3 h4 => ?_)
  refine ⟨s', rfl, h2, h3.mono (fun k hk hh => ?_)⟩
  exact absurd hh.2 (by simp)
theorem c85 {l : Sl} {T : Int} {fr : List DBlock} {w : World} (h : FrAt w l fr) : CallW Tryz.prog 85 #[.agg #[.int .i64 T, .slice l.a l.len l.cap]] w (fun v w' => ∃ t : Sl, v = .agg #[.int .i64 T, .slice t.a t.len t.cap] ∧ OwnS w' w.heap.size t 2 (fr.flatMap DBlock.cells) ∧ Ext w w') := by
  refine go85 ?_
  unfold W85
  have hl := h.len
  have hs := h.few
  refine alloc_step (fun w1 e1 hb n1 => ?_)
  refine alloc_step (fun w2 e2 hz n2 => ?_)
  have hb := hb.ext e2
  have e := Only.trans e1 e2
  refine ⟨l, hb.cell 1, ?_⟩
  refine AppendW.own (b0 := w2.heap.size) (z := 2) (os := []) (vs := fr.flatMap DBlock.cells) (OwnS.none _ _ _ _) ((h.ext e).row) rfl rfl (by decide) (by show (0 + l.len) * 16 ≤ _; omega) plain_blk (Nat.le_refl _) (fun s' w5 h1 h2 h3 h4 => ?_)
  have e5 : Ext w2 w5 := h3.mono (fun k hk hh => absurd hh.2 (by simp))
  have hb := hb.ext e5
  have hz := hz.ext e5
  have e := Only.trans e e5
  have z5 := e5.size
  refine set_step hb (by simp) (fun w6 o6 hb n6 => ?_)
  have hz := hz.only o6 (by omega)
  have e := Ext.own e o6 (fun k hk => by omega)
  have h2 : OwnS w6 w2.heap.size s' 2 (fr.flatMap DBlock.cells) := h2.only o6 (fun b _ hb0 _ => by omega)
  refine ⟨_, hb.cell 0, s', hb.cell 1, put_step hz rfl rfl (fun w9 o9 hz n9 => ?_)⟩
  have e := Ext.own e o9 (fun k hk => by omega)
  have h2 := h2.only o9 (fun b _ hb0 _ => by omega)
  exact ⟨_, hz.cell 0, s', hz.cell 1, s', rfl, h2.mono (by omega), e⟩
/-- A slice's row does not lie in that block. -/
def Apart (s : Sl) (q : Nat) : Prop := 0 < s.cap → s.a ≠ some ⟨q, 0, none⟩
theorem OwnS.where_ {w : World} {b0 z : Nat} {s : Sl} {vs : List Value} (h : OwnS w b0 s z vs) (hc : 0 < s.cap) : ∃ q, s.a = some ⟨q, 0, none⟩ ∧ b0 ≤ q ∧ q < w.heap.size := by
  rcases h.2 with ⟨h1, h2⟩ | ⟨b, cs, ha, hb, hbl, _⟩
  · omega
  · exact ⟨b, ha, hb, hbl.lt⟩
/-- A pool that is worked on. -/
structure PoolAt (w : World) (b0 b : Nat) (sm sf : Sl) (m : List Int) (T : Int) (fr : List DBlock) : Prop where
  blk : Blk w b [.slice sm.a sm.len sm.cap, .int .i64 T, .slice sf.a sf.len sf.cap]
  mem : OwnS w b0 sm 1 (m.map (Value.int .u8))
  frs : OwnS w b0 sf 2 (fr.flatMap DBlock.cells)
  hb : b0 ≤ b
  mb : Apart sm b
  fb : Apart sf b
  mf : ∀ q, 0 < sm.cap → sm.a = some ⟨q, 0, none⟩ → Apart sf q
theorem c34 {sm sf : Sl} {m : List Int} {T : Int} {fr : List DBlock} {w : World} (hm : Bytes w sm m) (hf : FrAt w sf fr) : CallW Tryz.prog 34 #[.agg #[.slice sm.a sm.len sm.cap, .int .i64 T, .slice sf.a sf.len sf.cap]] w
    (fun v w' => ∃ b tm tf, v = .pointer (some ⟨b, 0, none⟩) ∧ PoolAt w' w.heap.size b tm tf m T fr ∧ Ext w w') := by
  refine go34 ?_
  unfold W34
  refine alloc_step (fun w1 e1 hb n1 => ?_)
  have e := Only.trans e1 (ext_drew w1)
  have hb := hb.ext (ext_drew w1)
  have z1 : w1.drew.heap.size = w1.heap.size := rfl
  generalize w1.drew = w2 at *
  refine ⟨sm, hb.cell 0, _, hb.cell 1, sf, hb.cell 2, (c84 (hm.ext e)).mono ?_⟩
  rintro _ w6 ⟨tm, rfl, om, e6⟩
  have hb := hb.ext e6
  have e := Only.trans e e6
  refine ⟨tm, rfl, ⟨_, hb.cell 1, sf, hb.cell 2, rfl⟩, (c85 (hf.ext e)).mono ?_⟩
  rintro _ w11 ⟨tf, rfl, of, e11⟩
  refine ⟨_, tf, rfl, alloc_step (fun w14 e14 hp n14 => ?_)⟩
  have z6 := e6.size
  have z11 := e11.size
  refine ⟨_, tm, tf, rfl, ⟨hp, (om.ext (Only.trans e11 e14)).mono (by omega), (of.ext e14).mono (by omega), by omega, fun hc ha => ?_, fun hc ha => ?_, fun q hc hq hc2 ha => ?_⟩, Only.trans e (Only.trans e11 e14)⟩
  · obtain ⟨q, hq, _, hlt⟩ := OwnS.where_ om hc
    rw [hq] at ha; cases ha; omega
  · obtain ⟨q, hq, _, hlt⟩ := OwnS.where_ of hc
    rw [hq] at ha; cases ha; omega
  · obtain ⟨q1, hq1, _, hlt1⟩ := OwnS.where_ om hc
    obtain ⟨q2, hq2, hge, _⟩ := OwnS.where_ of hc2
    rw [hq1] at hq; cases hq
    rw [hq2] at ha; cases ha; omega
/-! ## An entry read -/
theorem byt_cut {m : List Int} {a : Nat} {i : Int} (h0 : 0 ≤ i) (h1 : i < 8) : byt ((m.drop a).take 8) i = byt m ((a : Int) + i) := by
  obtain ⟨n, rfl⟩ := Int.eq_ofNat_of_zero_le h0
  unfold byt
  rw [Int.toNat_natCast, show ((a : Int) + (n : Int)).toNat = a + n by omega]
  simp only [List.getD_eq_getElem?_getD, List.getElem?_take, List.getElem?_drop]
  rw [if_pos (by omega)]
theorem hornr_congr {m m' : List Int} {a a' : Int} : ∀ (k : Nat) (x : Int), (∀ i : Int, 0 ≤ i → i < k → byt m (a + i) = byt m' (a' + i)) → hornr m a k x = hornr m' a' k x
  | 0, x, h => rfl
  | k + 1, x, h => by
    unfold hornr
    rw [h (k : Int) (by omega) (by omega)]
    exact hornr_congr k _ (fun i h0 h1 => h i h0 (by omega))
theorem word_cut (m : List Int) (a : Nat) : word ((m.drop a).take 8) 0 = word m a := by
  unfold word
  refine hornr_congr 8 0 (fun i h0 h1 => ?_)
  rw [Int.zero_add]
  exact byt_cut h0 h1
theorem c108 {s : Sl} {m : List Int} {a : Int} {w : World} (h : Bytes w s m) (h0 : 0 ≤ a) (h1 : a + 8 ≤ m.length) : CallW Tryz.prog 108 #[.slice s.a s.len s.cap, .int .i64 a] w (fun v w' => v = .int .u64 (word m a) ∧ w' = w) := by
  refine go108 ?_
  unfold W108
  have hl := h.len
  have hc := h.cap
  have hs := h.small
  rw [w64 (by omega) (by omega)]
  refine ⟨by omega, by omega, by omega, by omega, ?_⟩
  obtain ⟨n, rfl⟩ := Int.eq_ofNat_of_zero_le h0
  rw [Int.toNat_natCast, show ((n : Int) + 8).toNat - n = 8 by omega]
  refine (c114 (h.cut (a := n) (by omega)) (by omega) (by simp; omega)).mono ?_
  rintro _ w ⟨rfl, rfl⟩
  exact ⟨_, _, rfl, by rw [word_cut], rfl⟩
theorem c69 {b : Nat} {sm : Sl} {x y : Value} {m : List Int} {t i : Int} {w : World} (hp : Blk w b [.slice sm.a sm.len sm.cap, x, y]) (h : Bytes w sm m) (h0 : 0 ≤ t) (hi : 0 ≤ i) (hi2 : i < 32) (h1 : t * 256 + 256 ≤ m.length) : CallW Tryz.prog 69 #[.pointer (some ⟨b, 0, none⟩), .int .i64 t, .int .i64 i] w (fun v w' => v = .int .u64 (word m (t * 256 + 8 * i)) ∧ w' = w) := by
  refine go69 ?_
  unfold W69
  have hs := h.small
  refine ⟨_, rfl, sm, hp.cell 0, ?_⟩
  rw [w64 (n := t * 256) (by omega) (by omega), w64 (n := 8 * i) (by omega) (by omega), w64 (by omega) (by omega)]
  refine (c89 h (by omega) (by omega)).mono ?_
  rintro _ w ⟨rfl, rfl⟩
  exact ⟨_, _, rfl, rfl, rfl⟩
end Go.Proofs.YtkgoanjemhbjgaaGreat
