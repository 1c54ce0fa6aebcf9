/- Part 4 of 6: plain readings of code, rules for them, and a proof over them, joined by a program. Conditions: none. -/
import Derived.Test.YtkgoanjemhbjgaaSpMa3
import Derived.Test.YtkgoanjemhbjgaaProg
/- The plainer reading of functions of the program, each held against its code. Conditions: none. -/
set_option linter.unusedVariables false
set_option maxRecDepth 100000
namespace Go.Proofs.Ytkgoanjemhbjgaa
open Go Go.Den
/- loop.example/g00008/impl.copyFrames -/
def an149 : Ann := (.seq .leaf (.seq .leaf (.seq .leaf .leaf)))
def W149 (a0_0 : Int) (a0_1 : Sl) (w : World) (K : Value → World → Prop) : Prop :=
  LetW (w.alloc (.cells #[.int .i64 a0_0, .slice a0_1.a a0_1.len a0_1.cap] 63)) fun w1 => LetW (w1.alloc (.cells #[.int .i64 0, .slice none 0 0] 63)) fun w2 => ∃ l3 : Sl, w2.cell? ⟨w.heap.size, 1, none⟩ = some (.slice l3.a l3.len l3.cap) ∧ AppendW 123 ti123 ⟨none, 0, 0⟩ l3 w2 fun l4 w5 => May w5 ⟨w.heap.size, 1, none⟩ ∧ LetW (w5.setCell ⟨w.heap.size, 1, none⟩ (.slice l4.a l4.len l4.cap)) fun w6 => ∃ n7 : Int, w6.cell? ⟨w.heap.size, 0, none⟩ = some (.int .i64 n7) ∧ ∃ l8 : Sl, w6.cell? ⟨w.heap.size, 1, none⟩ = some (.slice l8.a l8.len l8.cap) ∧ MayN w6 ⟨w1.heap.size, 0, none⟩ 2 ∧ LetW (puts w6 ⟨w1.heap.size, 0, none⟩ 0 [.int .i64 n7, .slice l8.a l8.len l8.cap]) fun w9 => ∃ n10 : Int, w9.cell? ⟨w1.heap.size, 0, none⟩ = some (.int .i64 n10) ∧ ∃ l11 : Sl, w9.cell? ⟨w1.heap.size, 1, none⟩ = some (.slice l11.a l11.len l11.cap) ∧ K (.agg #[.int .i64 n10, .slice l11.a l11.len l11.cap]) w9
theorem eq149 (a0_0 : Int) (a0_1 : Sl) (w : World) (K : Value → World → Prop) : denFn Try.prog tt Try.f149 an149 [.agg #[.int .i64 a0_0, .slice a0_1.a a0_1.len a0_1.cap]] w K = W149 a0_0 a0_1 w K := by kernel_rfl
theorem ok149 : OkFn Try.prog 149 := ⟨Try.f149, Try.func149, by kernel_rfl, by kernel_rfl⟩
theorem go149 {a0_0 : Int} {a0_1 : Sl} {w : World} {K : Value → World → Prop} (h : W149 a0_0 a0_1 w K) : CallW Try.prog 149 #[.agg #[.int .i64 a0_0, .slice a0_1.a a0_1.len a0_1.cap]] w K :=
  .inl ⟨ok149, denFn_sound tt_ok mix Try.func149 (by kernel_rfl) (eq149 a0_0 a0_1 w K ▸ h)⟩

/- loop.example/g00008/impl.freeMap -/
def an150 : Ann := (.seq .leaf (.seq .leaf (.seq (.seq .leaf (.in_ (.loop 6152 [(13, .int .i64)] (.seq .leaf (.seq (.cond .leaf .leaf) (.seq (.in_ (.seq .leaf (.seq .leaf (.in_ (.loop 538664 [(20, .int .i64)] (.seq .leaf (.seq (.cond .leaf .leaf) (.seq (.in_ (.seq .leaf .leaf)) .leaf)))))))) .leaf)))))) (.seq .leaf .leaf))))
def W150 (a0_0 : Int) (a0_1 : Sl) (w : World) (K : Value → World → Prop) : Prop :=
  LetW (w.alloc (.cells #[.int .i64 a0_0, .slice a0_1.a a0_1.len a0_1.cap] 63)) fun w1 => ∃ n2 : Int, w1.cell? ⟨w.heap.size, 0, none⟩ = some (.int .i64 n2) ∧ 0 ≤ (n2 : Int) ∧ (n2 : Int) ≤ (n2 : Int) ∧ (n2 : Int) * 1 ≤ (140737488355328 : Int) ∧ 0 < 1 ∧ LetW (w1.alloc (.cells ⟨zerosOf ti4.zero (Int.toNat n2)⟩ 4)) fun w3 => ∃ l4 : Sl, w3.cell? ⟨w.heap.size, 1, none⟩ = some (.slice l4.a l4.len l4.cap) ∧ LoopW [.int .i64] (fun J6 => fun (n5 : Int) w7 => BIf (decide ((n5 : Int) < ((l4.len : Nat) : Int))) (0 ≤ (n5 : Int) ∧ (n5 : Int) < ((l4.len : Nat) : Int) ∧ ∃ q8 : Addr, (l4.a : Option Addr) = some q8 ∧ ∃ n9 : Int, w7.cell? ((q8.add (Int.toNat n5 * 2)).add 0) = some (.int .i64 n9) ∧ ∃ n10 : Int, w7.cell? ((q8.add (Int.toNat n5 * 2)).add 1) = some (.int .i64 n10) ∧ LetW (w7.alloc (.cells #[.int .i64 0, .int .i64 0] 123)) fun w11 => MayN w11 ⟨w7.heap.size, 0, none⟩ 2 ∧ LetW (puts w11 ⟨w7.heap.size, 0, none⟩ 0 [.int .i64 n9, .int .i64 n10]) fun w12 => ∃ n13 : Int, w12.cell? ⟨w7.heap.size, 1, none⟩ = some (.int .i64 n13) ∧ 0 ≤ (n13 : Int) ∧ LoopW [.int .i64] (fun J15 => fun (n14 : Int) w16 => BIf (decide ((n14 : Int) < (shlI .i64 1 n13))) (∃ n17 : Int, w16.cell? ⟨w7.heap.size, 0, none⟩ = some (.int .i64 n17) ∧ 0 ≤ (IntKind.wrap .i64 (n17 + n14) : Int) ∧ (IntKind.wrap .i64 (n17 + n14) : Int) < ((Int.toNat n2 : Nat) : Int) ∧ ∃ q18 : Addr, (some ⟨w1.heap.size, 0, none⟩ : Option Addr) = some q18 ∧ May w16 (q18.add (Int.toNat (IntKind.wrap .i64 (n17 + n14)) * 1)) ∧ LetW (w16.setCell (q18.add (Int.toNat (IntKind.wrap .i64 (n17 + n14)) * 1)) (.bool true)) fun w19 => J15 (IntKind.wrap .i64 (n14 + 1)) w19) (J6 (IntKind.wrap .i64 (n5 + 1)) w16)) ((0 : Int), ()) w12) (K (.slice (some ⟨w1.heap.size, 0, none⟩) (Int.toNat n2) (Int.toNat n2)) w7)) ((0 : Int), ()) w3
theorem eq150 (a0_0 : Int) (a0_1 : Sl) (w : World) (K : Value → World → Prop) : denFn Try.prog tt Try.f150 an150 [.agg #[.int .i64 a0_0, .slice a0_1.a a0_1.len a0_1.cap]] w K = W150 a0_0 a0_1 w K := by kernel_rfl
theorem ok150 : OkFn Try.prog 150 := ⟨Try.f150, Try.func150, by kernel_rfl, by kernel_rfl⟩
theorem go150 {a0_0 : Int} {a0_1 : Sl} {w : World} {K : Value → World → Prop} (h : W150 a0_0 a0_1 w K) : CallW Try.prog 150 #[.agg #[.int .i64 a0_0, .slice a0_1.a a0_1.len a0_1.cap]] w K :=
  .inl ⟨ok150, denFn_sound tt_ok mix Try.func150 (by kernel_rfl) (eq150 a0_0 a0_1 w K ▸ h)⟩

/- loop.example/g00008/laws.szBlockS -/
def an151 : Ann := (.seq .leaf (.seq .leaf (.seq (.seq .leaf (.cond (.seq .leaf .leaf) .leaf)) (.seq .leaf .leaf))))
def W151 (a0 : Sl) (a1 : Int) (w : World) (K : Value → World → Prop) : Prop :=
  BIf (decide ((IntKind.wrap .i64 (a1 - ((a0.len : Nat) : Int)) : Int) < 0)) (K (.int .i64 (-1)) w) (K (.int .i64 (IntKind.wrap .i64 (a1 - ((a0.len : Nat) : Int)))) w)
theorem eq151 (a0 : Sl) (a1 : Int) (w : World) (K : Value → World → Prop) : denFn Try.prog tt Try.f151 an151 [.slice a0.a a0.len a0.cap, .int .i64 a1] w K = W151 a0 a1 w K := by kernel_rfl
theorem ok151 : OkFn Try.prog 151 := ⟨Try.f151, Try.func151, by kernel_rfl, by kernel_rfl⟩
theorem go151 {a0 : Sl} {a1 : Int} {w : World} {K : Value → World → Prop} (h : W151 a0 a1 w K) : CallW Try.prog 151 #[.slice a0.a a0.len a0.cap, .int .i64 a1] w K :=
  .inl ⟨ok151, denFn_sound tt_ok mix Try.func151 (by kernel_rfl) (eq151 a0 a1 w K ▸ h)⟩

/- loop.example/g00008/spec.l9Tables -/
def an152 : Ann := (.seq .leaf (.seq (.seq (.reg [(3, none), (5, some (31, [(28, .bool)])), (1, none), (5, some (31, [(34, .bool)])), (1, none), (5, some (31, [(40, .bool)]))]) (.cond (.seq .leaf .leaf) .leaf)) (.seq .leaf (.seq .leaf (.seq .leaf (.seq (.seq .leaf (.in_ (.loop 31 [(12, .slice), (13, .bool), (14, .int .i64)] (.seq (.seq .leaf (.cond .leaf .leaf)) (.seq (.in_ (.seq .leaf (.seq (.seq .leaf (.cond .leaf .leaf)) (.seq .leaf (.seq .leaf (.seq (.seq (.reg [(3, none), (7, some (127007, [(72, .bool)]))]) (.cond (.seq .leaf .leaf) .leaf)) (.seq .leaf (.cond (.seq .leaf (.seq .leaf (.seq (.seq .leaf (.cond (.seq .leaf .leaf) .leaf)) .leaf))) .leaf)))))))) .leaf))))) (.seq (.reg [(3, none), (3, some (316912650057057350374175801344, [(103, .bool)])), (2, none)]) .leaf)))))))
def W152 (a0 : Sl) (a1 : Sl) (a2 : Sl) (a3 : Int) (a4 : Int) (w : World) (K : Value → World → Prop) : Prop :=
  JoinW [.bool] (fun J2 => BIf (decide ((a3 : Int) < 0)) (J2 true w) (J2 (decide ((a3 : Int) ≥ ((a1.len : Nat) : Int))) w)) (fun (b1 : Bool) w3 => JoinW [.bool] (fun J5 => BIf b1 (J5 true w3) (0 ≤ (a3 : Int) ∧ (a3 : Int) < ((a1.len : Nat) : Int) ∧ ∃ q54 : Addr, (a1.a : Option Addr) = some q54 ∧ ∃ b55 : Bool, w3.cell? (q54.add (Int.toNat a3 * 1)) = some (.bool b55) ∧ J5 b55 w3)) (fun (b4 : Bool) w6 => JoinW [.bool] (fun J8 => BIf b4 (J8 true w6) (0 ≤ (a3 : Int) ∧ (a3 : Int) < ((a2.len : Nat) : Int) ∧ ∃ q52 : Addr, (a2.a : Option Addr) = some q52 ∧ ∃ b53 : Bool, w6.cell? (q52.add (Int.toNat a3 * 1)) = some (.bool b53) ∧ J8 b53 w6)) (fun (b7 : Bool) w9 => BIf b7 (LetW (w9.alloc (.cells #[] 2)) fun w10 => K (.tuple #[.slice (some ⟨w9.heap.size, 0, none⟩) 0 0, .bool false]) w10) (0 ≤ (a3 : Int) ∧ (a3 : Int) < ((a2.len : Nat) : Int) ∧ ∃ q11 : Addr, (a2.a : Option Addr) = some q11 ∧ May w9 (q11.add (Int.toNat a3 * 1)) ∧ LetW (w9.setCell (q11.add (Int.toNat a3 * 1)) (.bool true)) fun w12 => LetW (w12.alloc (.cells #[.int .i64 a3] 2)) fun w13 => LoopW [.slice, .bool, .int .i64] (fun J17 => fun (l14 : Sl) (b15 : Bool) (n16 : Int) w18 => BIf (decide ((n16 : Int) < 32)) (CallW Try.prog 124 #[.slice a0.a a0.len a0.cap, .int .i64 (IntKind.wrap .i64 ((IntKind.wrap .i64 (a3 * 256)) + (IntKind.wrap .i64 (8 * n16))))] w18 fun v19 w20 => ∃ n21 : Int, v19 = .int .u64 n21 ∧ BIf ((n21 : Int) == 0) (J17 l14 b15 (IntKind.wrap .i64 (n16 + 1)) w20) (CallW Try.prog 186 #[.int .u64 n21, .int .i64 a4] w20 fun v22 w23 => ∃ n24 : Int, v22 = .int .i64 n24 ∧ JoinW [.bool] (fun J26 => BIf (decide ((n24 : Int) < 0)) (J26 true w23) (BIf ((n24 : Int) == 1) (J26 (decide ((a4 : Int) > 0)) w23) (J26 false w23))) (fun (b25 : Bool) w27 => BIf b25 (K (.tuple #[.slice l14.a l14.len l14.cap, .bool false]) w27) (BIf ((n24 : Int) == 0) (CallW Try.prog 123 #[.int .u64 n21] w27 fun v28 w29 => ∃ b30 : Bool, ∃ b31 : Bool, ∃ b32 : Bool, ∃ b33 : Bool, ∃ b34 : Bool, ∃ b35 : Bool, ∃ b36 : Bool, ∃ b37 : Bool, ∃ n38 : Int, ∃ b39 : Bool, v28 = .tuple #[.agg #[.bool b30, .bool b31, .bool b32, .bool b33, .bool b34, .bool b35, .bool b36, .bool b37, .int .i64 n38], .bool b39] ∧ LetW (w29.alloc (.cells #[.bool false, .bool false, .bool false, .bool false, .bool false, .bool false, .bool false, .bool false, .int .i64 0] 81)) fun w40 => MayN w40 ⟨w29.heap.size, 0, none⟩ 9 ∧ LetW (puts w40 ⟨w29.heap.size, 0, none⟩ 0 [.bool b30, .bool b31, .bool b32, .bool b33, .bool b34, .bool b35, .bool b36, .bool b37, .int .i64 n38]) fun w41 => ∃ n42 : Int, w41.cell? ⟨w29.heap.size, 8, none⟩ = some (.int .i64 n42) ∧ CallW Try.prog 152 #[.slice a0.a a0.len a0.cap, .slice a1.a a1.len a1.cap, .slice a2.a a2.len a2.cap, .int .i64 n42, .int .i64 (IntKind.wrap .i64 (a4 - 1))] w41 fun v43 w44 => ∃ l45 : Sl, ∃ b46 : Bool, v43 = .tuple #[.slice l45.a l45.len l45.cap, .bool b46] ∧ BIf (!b46) (K (.tuple #[.slice l14.a l14.len l14.cap, .bool false]) w44) (AppendW 2 ti2 l14 l45 w44 fun l47 w48 => J17 l47 true (IntKind.wrap .i64 (n16 + 1)) w48)) (J17 l14 true (IntKind.wrap .i64 (n16 + 1)) w27))))) (JoinW [.bool] (fun J50 => BIf b15 (J50 true w18) (J50 ((a4 : Int) == 2) w18)) (fun (b49 : Bool) w51 => K (.tuple #[.slice l14.a l14.len l14.cap, .bool b49]) w51))) ((⟨some ⟨w12.heap.size, 0, none⟩, 1, 1⟩ : Sl), ((false : Bool), ((0 : Int), ()))) w13))))
theorem eq152 (a0 : Sl) (a1 : Sl) (a2 : Sl) (a3 : Int) (a4 : Int) (w : World) (K : Value → World → Prop) : denFn Try.prog tt Try.f152 an152 [.slice a0.a a0.len a0.cap, .slice a1.a a1.len a1.cap, .slice a2.a a2.len a2.cap, .int .i64 a3, .int .i64 a4] w K = W152 a0 a1 a2 a3 a4 w K := by kernel_rfl
theorem ok152 : OkFn Try.prog 152 := ⟨Try.f152, Try.func152, by kernel_rfl, by kernel_rfl⟩
theorem go152 {a0 : Sl} {a1 : Sl} {a2 : Sl} {a3 : Int} {a4 : Int} {w : World} {K : Value → World → Prop} (h : W152 a0 a1 a2 a3 a4 w K) : CallW Try.prog 152 #[.slice a0.a a0.len a0.cap, .slice a1.a a1.len a1.cap, .slice a2.a a2.len a2.cap, .int .i64 a3, .int .i64 a4] w K :=
  .inl ⟨ok152, denFn_sound tt_ok mix Try.func152 (by kernel_rfl) (eq152 a0 a1 a2 a3 a4 w K ▸ h)⟩

/- loop.example/g00008/spec.l8Set -/
def an153 : Ann := (.seq .leaf (.seq .leaf (.seq (.seq .leaf (.in_ (.loop 10 [(4, .int .i64)] (.seq (.seq .leaf (.cond .leaf .leaf)) (.seq (.in_ (.seq .leaf (.in_ (.loop 26 [(5, .int .i64)] (.seq (.seq .leaf (.cond .leaf .leaf)) (.seq (.in_ .leaf) .leaf)))))) .leaf))))) (.seq .leaf .leaf))))
def W153 (a0_0 : Int) (a0_1 : Sl) (w : World) (K : Value → World → Prop) : Prop :=
  LetW (w.alloc (.cells #[.int .i64 a0_0, .slice a0_1.a a0_1.len a0_1.cap] 63)) fun w1 => ∃ n2 : Int, w1.cell? ⟨w.heap.size, 0, none⟩ = some (.int .i64 n2) ∧ 0 ≤ (n2 : Int) ∧ (n2 : Int) ≤ (n2 : Int) ∧ (n2 : Int) * 1 ≤ (140737488355328 : Int) ∧ 0 < 1 ∧ LetW (w1.alloc (.cells ⟨zerosOf ti4.zero (Int.toNat n2)⟩ 4)) fun w3 => LoopW [.int .i64] (fun J5 => fun (n4 : Int) w6 => ∃ l7 : Sl, w6.cell? ⟨w.heap.size, 1, none⟩ = some (.slice l7.a l7.len l7.cap) ∧ BIf (decide ((n4 : Int) < ((l7.len : Nat) : Int))) (LoopW [.int .i64] (fun J9 => fun (n8 : Int) w10 => ∃ l11 : Sl, w10.cell? ⟨w.heap.size, 1, none⟩ = some (.slice l11.a l11.len l11.cap) ∧ 0 ≤ (n4 : Int) ∧ (n4 : Int) < ((l11.len : Nat) : Int) ∧ ∃ q12 : Addr, (l11.a : Option Addr) = some q12 ∧ ∃ n13 : Int, w10.cell? ((q12.add (Int.toNat n4 * 2)).add 1) = some (.int .i64 n13) ∧ CallW Try.prog 176 #[.int .i64 n13] w10 fun v14 w15 => ∃ n16 : Int, v14 = .int .i64 n16 ∧ BIf (decide ((n8 : Int) < n16)) (∃ l17 : Sl, w15.cell? ⟨w.heap.size, 1, none⟩ = some (.slice l17.a l17.len l17.cap) ∧ 0 ≤ (n4 : Int) ∧ (n4 : Int) < ((l17.len : Nat) : Int) ∧ ∃ q18 : Addr, (l17.a : Option Addr) = some q18 ∧ ∃ n19 : Int, w15.cell? ((q18.add (Int.toNat n4 * 2)).add 0) = some (.int .i64 n19) ∧ 0 ≤ (IntKind.wrap .i64 (n19 + n8) : Int) ∧ (IntKind.wrap .i64 (n19 + n8) : Int) < ((Int.toNat n2 : Nat) : Int) ∧ ∃ q20 : Addr, (some ⟨w1.heap.size, 0, none⟩ : Option Addr) = some q20 ∧ May w15 (q20.add (Int.toNat (IntKind.wrap .i64 (n19 + n8)) * 1)) ∧ LetW (w15.setCell (q20.add (Int.toNat (IntKind.wrap .i64 (n19 + n8)) * 1)) (.bool true)) fun w21 => J9 (IntKind.wrap .i64 (n8 + 1)) w21) (J5 (IntKind.wrap .i64 (n4 + 1)) w15)) ((0 : Int), ()) w6) (K (.slice (some ⟨w1.heap.size, 0, none⟩) (Int.toNat n2) (Int.toNat n2)) w6)) ((0 : Int), ()) w3
theorem eq153 (a0_0 : Int) (a0_1 : Sl) (w : World) (K : Value → World → Prop) : denFn Try.prog tt Try.f153 an153 [.agg #[.int .i64 a0_0, .slice a0_1.a a0_1.len a0_1.cap]] w K = W153 a0_0 a0_1 w K := by kernel_rfl
theorem ok153 : OkFn Try.prog 153 := ⟨Try.f153, Try.func153, by kernel_rfl, by kernel_rfl⟩
theorem go153 {a0_0 : Int} {a0_1 : Sl} {w : World} {K : Value → World → Prop} (h : W153 a0_0 a0_1 w K) : CallW Try.prog 153 #[.agg #[.int .i64 a0_0, .slice a0_1.a a0_1.len a0_1.cap]] w K :=
  .inl ⟨ok153, denFn_sound tt_ok mix Try.func153 (by kernel_rfl) (eq153 a0_0 a0_1 w K ▸ h)⟩

/- loop.example/g00008/laws.toBlockS -/
def an154 : Ann := (.seq .leaf (.seq .leaf (.seq (.seq .leaf (.in_ (.loop 9 [(4, .int .i64)] (.seq (.seq .leaf (.cond .leaf .leaf)) (.seq (.in_ .leaf) .leaf))))) (.seq .leaf .leaf))))
def W154 (a0 : Sl) (w : World) (K : Value → World → Prop) : Prop :=
  0 ≤ ((a0.len : Nat) : Int) ∧ ((a0.len : Nat) : Int) ≤ ((a0.len : Nat) : Int) ∧ ((a0.len : Nat) : Int) * 16 ≤ (140737488355328 : Int) ∧ 0 < 16 ∧ LetW (w.alloc (.cells ⟨zerosOf ti123.zero (Int.toNat ((a0.len : Nat) : Int))⟩ 123)) fun w1 => LoopW [.int .i64] (fun J3 => fun (n2 : Int) w4 => BIf (decide ((n2 : Int) < ((a0.len : Nat) : Int))) (0 ≤ (n2 : Int) ∧ (n2 : Int) < ((a0.len : Nat) : Int) ∧ ∃ q5 : Addr, (a0.a : Option Addr) = some q5 ∧ ∃ n6 : Int, w4.cell? ((q5.add (Int.toNat n2 * 2)).add 0) = some (.int .i64 n6) ∧ ∃ n7 : Int, w4.cell? ((q5.add (Int.toNat n2 * 2)).add 1) = some (.int .i64 n7) ∧ CallW Try.prog 187 #[.agg #[.int .i64 n6, .int .i64 n7]] w4 fun v8 w9 => ∃ n10 : Int, ∃ n11 : Int, v8 = .agg #[.int .i64 n10, .int .i64 n11] ∧ 0 ≤ (n2 : Int) ∧ (n2 : Int) < ((Int.toNat ((a0.len : Nat) : Int) : Nat) : Int) ∧ ∃ q12 : Addr, (some ⟨w.heap.size, 0, none⟩ : Option Addr) = some q12 ∧ MayN w9 (q12.add (Int.toNat n2 * 2)) 2 ∧ LetW (puts w9 (q12.add (Int.toNat n2 * 2)) 0 [.int .i64 n10, .int .i64 n11]) fun w13 => J3 (IntKind.wrap .i64 (n2 + 1)) w13) (K (.slice (some ⟨w.heap.size, 0, none⟩) (Int.toNat ((a0.len : Nat) : Int)) (Int.toNat ((a0.len : Nat) : Int))) w4)) ((0 : Int), ()) w1
theorem eq154 (a0 : Sl) (w : World) (K : Value → World → Prop) : denFn Try.prog tt Try.f154 an154 [.slice a0.a a0.len a0.cap] w K = W154 a0 w K := by kernel_rfl
theorem ok154 : OkFn Try.prog 154 := ⟨Try.f154, Try.func154, by kernel_rfl, by kernel_rfl⟩
theorem go154 {a0 : Sl} {w : World} {K : Value → World → Prop} (h : W154 a0 w K) : CallW Try.prog 154 #[.slice a0.a a0.len a0.cap] w K :=
  .inl ⟨ok154, denFn_sound tt_ok mix Try.func154 (by kernel_rfl) (eq154 a0 w K ▸ h)⟩

/- loop.example/g00008/impl.memOk -/
def an155 : Ann := (.seq .leaf (.seq (.reg [(5, none), (4, some (0, [(11, .bool)])), (1, none)]) .leaf))
def W155 (a0 : Sl) (w : World) (K : Value → World → Prop) : Prop :=
  (256 : Int) ≠ 0 ∧ JoinW [.bool] (fun J2 => BIf ((Int.tmod ((a0.len : Nat) : Int) 256 : Int) == 0) (J2 (decide ((((a0.len : Nat) : Int) : Int) ≤ 262144)) w) (J2 false w)) (fun (b1 : Bool) w3 => K (.bool b1) w3)
theorem eq155 (a0 : Sl) (w : World) (K : Value → World → Prop) : denFn Try.prog tt Try.f155 an155 [.slice a0.a a0.len a0.cap] w K = W155 a0 w K := by kernel_rfl
theorem ok155 : OkFn Try.prog 155 := ⟨Try.f155, Try.func155, by kernel_rfl, by kernel_rfl⟩
theorem go155 {a0 : Sl} {w : World} {K : Value → World → Prop} (h : W155 a0 w K) : CallW Try.prog 155 #[.slice a0.a a0.len a0.cap] w K :=
  .inl ⟨ok155, denFn_sound tt_ok mix Try.func155 (by kernel_rfl) (eq155 a0 w K ▸ h)⟩

/- loop.example/g00008/impl.copied -/
def an156 : Ann := (.seq .leaf (.seq .leaf .leaf))
def W156 (a0 : Sl) (w : World) (K : Value → World → Prop) : Prop :=
  AppendW 5 ti5 ⟨none, 0, 0⟩ a0 w fun l1 w2 => K (.slice l1.a l1.len l1.cap) w2
theorem eq156 (a0 : Sl) (w : World) (K : Value → World → Prop) : denFn Try.prog tt Try.f156 an156 [.slice a0.a a0.len a0.cap] w K = W156 a0 w K := by kernel_rfl
theorem ok156 : OkFn Try.prog 156 := ⟨Try.f156, Try.func156, by kernel_rfl, by kernel_rfl⟩
theorem go156 {a0 : Sl} {w : World} {K : Value → World → Prop} (h : W156 a0 w K) : CallW Try.prog 156 #[.slice a0.a a0.len a0.cap] w K :=
  .inl ⟨ok156, denFn_sound tt_ok mix Try.func156 (by kernel_rfl) (eq156 a0 w K ▸ h)⟩

/- (*loop.example/g00008/impl.pool).tables$1 -/
def an157 : Ann := (.seq .leaf (.seq (.seq (.reg [(3, none), (5, some (127, [(21, .bool)])), (1, none), (5, some (123, [(27, .bool)])), (1, none), (4, some (123, [(32, .bool)]))]) (.cond (.seq .leaf .leaf) .leaf)) (.seq .leaf (.seq .leaf (.seq .leaf (.seq (.seq .leaf (.in_ (.loop 99 [(10, .bool), (41, .int .i64)] (.seq .leaf (.seq (.cond .leaf .leaf) (.seq (.in_ (.seq .leaf (.seq .leaf (.seq (.seq .leaf (.cond .leaf .leaf)) (.seq .leaf (.seq .leaf (.seq (.seq (.reg [(4, none), (4, some (2199023264867, [(59, .bool)]))]) (.cond (.seq .leaf .leaf) .leaf)) (.seq (.seq (.reg [(3, none), (3, some (2199023264867, [(65, .bool)])), (1, none), (3, some (2199023264867, [(69, .bool)]))]) (.cond (.seq (.seq (.reg [(3, none), (8, some (2199023256675, [(80, .bool)]))]) (.cond (.seq .leaf .leaf) .leaf)) .leaf) .leaf)) (.seq (.reg [(3, none), (3, some (2199023264867, [(86, .bool)])), (1, none), (3, some (2199023264867, [(90, .bool)])), (1, none), (3, some (2199023264867, [(94, .bool)])), (1, none), (8, some (2199023256675, [(103, .bool)]))]) (.cond (.seq .leaf .leaf) .leaf)))))))))) .leaf)))))) (.seq .leaf .leaf)))))))
def W157 (a0 : Int) (a1 : Int) (c0 : Addr) (c1 : Addr) (c2 : Addr) (c3 : Addr) (c4 : Addr) (w : World) (K : Value → World → Prop) : Prop :=
  JoinW [.bool] (fun J2 => BIf (decide ((a0 : Int) < 0)) (J2 true w) (∃ l82 : Sl, w.cell? c0 = some (.slice l82.a l82.len l82.cap) ∧ J2 (decide ((a0 : Int) ≥ ((l82.len : Nat) : Int))) w)) (fun (b1 : Bool) w3 => JoinW [.bool] (fun J5 => BIf b1 (J5 true w3) (∃ l79 : Sl, w3.cell? c0 = some (.slice l79.a l79.len l79.cap) ∧ 0 ≤ (a0 : Int) ∧ (a0 : Int) < ((l79.len : Nat) : Int) ∧ ∃ q80 : Addr, (l79.a : Option Addr) = some q80 ∧ ∃ b81 : Bool, w3.cell? (q80.add (Int.toNat a0 * 1)) = some (.bool b81) ∧ J5 b81 w3)) (fun (b4 : Bool) w6 => JoinW [.bool] (fun J8 => BIf b4 (J8 true w6) (∃ m76 : Option Nat, w6.cell? c1 = some (.map m76) ∧ MapGetW w6 m76 (.int .i64 a0) fun o77 => ∃ b78 : Bool, valOr o77 (.bool false) = (.bool b78 : Value) ∧ J8 b78 w6)) (fun (b7 : Bool) w9 => BIf b7 (K (.bool false) w9) (∃ m10 : Option Nat, w9.cell? c1 = some (.map m10) ∧ MapPutW w9 m10 (.int .i64 a0) (.bool true) fun w11 => ∃ l12 : Sl, w11.cell? c2 = some (.slice l12.a l12.len l12.cap) ∧ LetW (w11.alloc (.cells #[.int .i64 a0] 2)) fun w13 => AppendW 2 ti2 l12 ⟨some ⟨w11.heap.size, 0, none⟩, 1, 1⟩ w13 fun l14 w15 => May w15 c2 ∧ LetW (w15.setCell c2 (.slice l14.a l14.len l14.cap)) fun w16 => LoopW [.bool, .int .i64] (fun J19 => fun (b17 : Bool) (n18 : Int) w20 => BIf (decide ((n18 : Int) < 32)) (∃ p21 : Option Addr, w20.cell? c3 = some (.pointer p21) ∧ CallW Try.prog 126 #[.pointer p21, .int .i64 a0, .int .i64 n18] w20 fun v22 w23 => ∃ n24 : Int, v22 = .int .u64 n24 ∧ BIf ((n24 : Int) == 0) (J19 b17 (IntKind.wrap .i64 (n18 + 1)) w23) (CallW Try.prog 127 #[.int .u64 n24] w23 fun v25 w26 => ∃ b27 : Bool, ∃ b28 : Bool, ∃ b29 : Bool, ∃ b30 : Bool, ∃ b31 : Bool, ∃ b32 : Bool, ∃ b33 : Bool, ∃ b34 : Bool, ∃ n35 : Int, v25 = .agg #[.bool b27, .bool b28, .bool b29, .bool b30, .bool b31, .bool b32, .bool b33, .bool b34, .int .i64 n35] ∧ LetW (w26.alloc (.cells #[.bool false, .bool false, .bool false, .bool false, .bool false, .bool false, .bool false, .bool false, .int .i64 0] 81)) fun w36 => MayN w36 ⟨w26.heap.size, 0, none⟩ 9 ∧ LetW (puts w36 ⟨w26.heap.size, 0, none⟩ 0 [.bool b27, .bool b28, .bool b29, .bool b30, .bool b31, .bool b32, .bool b33, .bool b34, .int .i64 n35]) fun w37 => ∃ b38 : Bool, w37.cell? ⟨w26.heap.size, 0, none⟩ = some (.bool b38) ∧ JoinW [.bool] (fun J40 => BIf (!b38) (J40 true w37) (0 ≤ (20 : Int) ∧ J40 ((shrI .u64 n24 20 : Int) != 0) w37)) (fun (b39 : Bool) w41 => BIf b39 (K (.bool false) w41) (∃ b42 : Bool, w41.cell? ⟨w26.heap.size, 1, none⟩ = some (.bool b42) ∧ JoinW [.bool] (fun J44 => BIf b42 (J44 true w41) (∃ b75 : Bool, w41.cell? ⟨w26.heap.size, 2, none⟩ = some (.bool b75) ∧ J44 b75 w41)) (fun (b43 : Bool) w45 => JoinW [.bool] (fun J47 => BIf b43 (J47 true w45) (∃ b74 : Bool, w45.cell? ⟨w26.heap.size, 3, none⟩ = some (.bool b74) ∧ J47 b74 w45)) (fun (b46 : Bool) w48 => BIf b46 (JoinW [.bool] (fun J50 => BIf ((a1 : Int) != 0) (J50 true w48) (∃ b52 : Bool, w48.cell? ⟨w26.heap.size, 2, none⟩ = some (.bool b52) ∧ BIf b52 (∃ b53 : Bool, w48.cell? ⟨w26.heap.size, 1, none⟩ = some (.bool b53) ∧ J50 (!b53) w48) (J50 false w48))) (fun (b49 : Bool) w51 => BIf b49 (K (.bool false) w51) (J19 true (IntKind.wrap .i64 (n18 + 1)) w51))) (JoinW [.bool] (fun J55 => BIf ((a1 : Int) == 0) (J55 true w48) (∃ b73 : Bool, w48.cell? ⟨w26.heap.size, 4, none⟩ = some (.bool b73) ∧ J55 b73 w48)) (fun (b54 : Bool) w56 => JoinW [.bool] (fun J58 => BIf b54 (J58 true w56) (∃ b72 : Bool, w56.cell? ⟨w26.heap.size, 5, none⟩ = some (.bool b72) ∧ J58 b72 w56)) (fun (b57 : Bool) w59 => JoinW [.bool] (fun J61 => BIf b57 (J61 true w59) (∃ b71 : Bool, w59.cell? ⟨w26.heap.size, 6, none⟩ = some (.bool b71) ∧ J61 b71 w59)) (fun (b60 : Bool) w62 => JoinW [.bool] (fun J64 => BIf b60 (J64 true w62) (∃ f66 : FnV, w62.cell? c4 = some (.func (.func f66.g) ⟨f66.x⟩ ⟨f66.c⟩) ∧ ∃ n67 : Int, w62.cell? ⟨w26.heap.size, 8, none⟩ = some (.int .i64 n67) ∧ CallW Try.prog f66.g ⟨f66.x ++ ([.int .i64 n67, .int .i64 (IntKind.wrap .i64 (a1 - 1))] ++ f66.c)⟩ w62 fun v68 w69 => ∃ b70 : Bool, v68 = .bool b70 ∧ J64 (!b70) w69)) (fun (b63 : Bool) w65 => BIf b63 (K (.bool false) w65) (J19 true (IntKind.wrap .i64 (n18 + 1)) w65)))))))))))) (K (.bool b17) w20)) (((a1 : Int) == 2 : Bool), ((0 : Int), ())) w16))))
theorem eq157 (a0 : Int) (a1 : Int) (c0 : Addr) (c1 : Addr) (c2 : Addr) (c3 : Addr) (c4 : Addr) (w : World) (K : Value → World → Prop) : denFn Try.prog tt Try.f157 an157 [.int .i64 a0, .int .i64 a1, .pointer (some c0), .pointer (some c1), .pointer (some c2), .pointer (some c3), .pointer (some c4)] w K = W157 a0 a1 c0 c1 c2 c3 c4 w K := by kernel_rfl
theorem ok157 : OkFn Try.prog 157 := ⟨Try.f157, Try.func157, by kernel_rfl, by kernel_rfl⟩
theorem go157 {a0 : Int} {a1 : Int} {c0 : Addr} {c1 : Addr} {c2 : Addr} {c3 : Addr} {c4 : Addr} {w : World} {K : Value → World → Prop} (h : W157 a0 a1 c0 c1 c2 c3 c4 w K) : CallW Try.prog 157 #[.int .i64 a0, .int .i64 a1, .pointer (some c0), .pointer (some c1), .pointer (some c2), .pointer (some c3), .pointer (some c4)] w K :=
  .inl ⟨ok157, denFn_sound tt_ok mix Try.func157 (by kernel_rfl) (eq157 a0 a1 c0 c1 c2 c3 c4 w K ▸ h)⟩

/- loop.example/g00008/laws.eqBlockS -/
def an158 : Ann := (.seq .leaf (.seq (.seq .leaf (.cond (.seq .leaf .leaf) .leaf)) (.seq (.seq .leaf (.in_ (.loop 3 [(5, .int .i64)] (.seq (.seq .leaf (.cond .leaf .leaf)) (.seq (.in_ (.seq (.draw [0, 0, 3, 7, 0, 0, 48, 112, 255, 511] [0, 1, 2, 3, 4, 5, 6, 7, 8, 9]) (.cond (.seq .leaf .leaf) .leaf))) .leaf))))) (.seq .leaf .leaf))))
def W158 (a0 : Sl) (a1 : Sl) (w : World) (K : Value → World → Prop) : Prop :=
  BIf ((((a0.len : Nat) : Int) : Int) != ((a1.len : Nat) : Int)) (K (.bool false) w) (LoopW [.int .i64] (fun J2 => fun (n1 : Int) w3 => BIf (decide ((n1 : Int) < ((a0.len : Nat) : Int))) (0 ≤ (n1 : Int) ∧ (n1 : Int) < ((a0.len : Nat) : Int) ∧ ∃ q4 : Addr, (a0.a : Option Addr) = some q4 ∧ ∃ n5 : Int, w3.drew.cell? ((q4.add (Int.toNat n1 * 2)).add 0) = some (.int .i64 n5) ∧ ∃ n6 : Int, w3.drew.cell? ((q4.add (Int.toNat n1 * 2)).add 1) = some (.int .i64 n6) ∧ 0 ≤ (n1 : Int) ∧ (n1 : Int) < ((a1.len : Nat) : Int) ∧ ∃ q7 : Addr, (a1.a : Option Addr) = some q7 ∧ ∃ n8 : Int, w3.drew.cell? ((q7.add (Int.toNat n1 * 2)).add 0) = some (.int .i64 n8) ∧ ∃ n9 : Int, w3.drew.cell? ((q7.add (Int.toNat n1 * 2)).add 1) = some (.int .i64 n9) ∧ CallW Try.prog 188 #[.agg #[.int .i64 n5, .int .i64 n6], .agg #[.int .i64 n8, .int .i64 n9]] w3.drew fun v10 w11 => ∃ b12 : Bool, v10 = .bool b12 ∧ BIf (!b12) (K (.bool false) w11) (J2 (IntKind.wrap .i64 (n1 + 1)) w11)) (K (.bool true) w3)) ((0 : Int), ()) w)
theorem eq158 (a0 : Sl) (a1 : Sl) (w : World) (K : Value → World → Prop) : denFn Try.prog tt Try.f158 an158 [.slice a0.a a0.len a0.cap, .slice a1.a a1.len a1.cap] w K = W158 a0 a1 w K := by kernel_rfl
theorem ok158 : OkFn Try.prog 158 := ⟨Try.f158, Try.func158, by kernel_rfl, by kernel_rfl⟩
theorem go158 {a0 : Sl} {a1 : Sl} {w : World} {K : Value → World → Prop} (h : W158 a0 a1 w K) : CallW Try.prog 158 #[.slice a0.a a0.len a0.cap, .slice a1.a a1.len a1.cap] w K :=
  .inl ⟨ok158, denFn_sound tt_ok mix Try.func158 (by kernel_rfl) (eq158 a0 a1 w K ▸ h)⟩

/- loop.example/g00008/spec.l6MemOk -/
def an159 : Ann := (.seq .leaf (.seq (.reg [(5, none), (4, some (0, [(11, .bool)])), (1, none)]) .leaf))
def W159 (a0 : Sl) (w : World) (K : Value → World → Prop) : Prop :=
  (256 : Int) ≠ 0 ∧ JoinW [.bool] (fun J2 => BIf ((Int.tmod ((a0.len : Nat) : Int) 256 : Int) == 0) (J2 (decide ((((a0.len : Nat) : Int) : Int) ≤ 262144)) w) (J2 false w)) (fun (b1 : Bool) w3 => K (.bool b1) w3)
theorem eq159 (a0 : Sl) (w : World) (K : Value → World → Prop) : denFn Try.prog tt Try.f159 an159 [.slice a0.a a0.len a0.cap] w K = W159 a0 w K := by kernel_rfl
theorem ok159 : OkFn Try.prog 159 := ⟨Try.f159, Try.func159, by kernel_rfl, by kernel_rfl⟩
theorem go159 {a0 : Sl} {w : World} {K : Value → World → Prop} (h : W159 a0 w K) : CallW Try.prog 159 #[.slice a0.a a0.len a0.cap] w K :=
  .inl ⟨ok159, denFn_sound tt_ok mix Try.func159 (by kernel_rfl) (eq159 a0 w K ▸ h)⟩

/- loop.example/g00008/spec.FramesOk -/
def an160 : Ann := (.seq .leaf (.seq (.seq (.reg [(4, none), (4, some (2, [(14, .bool)]))]) (.cond (.seq .leaf .leaf) .leaf)) (.seq .leaf (.seq (.seq .leaf (.in_ (.loop 2 [(3, .int .i64), (4, .int .i64)] (.seq (.seq .leaf (.cond .leaf .leaf)) (.seq (.in_ (.seq .leaf (.seq (.seq (.reg [(6, none), (5, some (58, [(37, .bool)]))]) (.cond (.seq .leaf .leaf) .leaf)) (.seq .leaf (.seq (.join 114 [(78, .bool)] (.draw [0, 1, 3, 7, 15, 7, 39, 127, 255, 511, 7, 1031, 4095, 8191, 16383, 32767, 65535, 131071, 262143, 524287, 1048575, 2097151, 1048575, 8388607, 16777215, 33554431, 67108863, 134217727, 67108863, 335544319, 1073741823, 2147483647, 4294967295, 67108863, 8657043455, 34359738367, 68719476735, 137438953471] [0, 1, 2, 3, 4, 5, 6, 7, 8, 9, 10, 11, 12, 13, 14, 15, 16, 17, 18, 19, 20, 21, 22, 23, 24, 25, 26, 27, 28, 29, 30, 31, 32, 33, 34, 35, 36, 37]) (.cond (.seq .leaf .leaf) .leaf)) .leaf))))) .leaf))))) (.seq .leaf .leaf)))))
def W160 (a0_0 : Int) (a0_1 : Sl) (w : World) (K : Value → World → Prop) : Prop :=
  LetW (w.alloc (.cells #[.int .i64 a0_0, .slice a0_1.a a0_1.len a0_1.cap] 63)) fun w1 => ∃ n2 : Int, w1.cell? ⟨w.heap.size, 0, none⟩ = some (.int .i64 n2) ∧ JoinW [.bool] (fun J4 => BIf (decide ((n2 : Int) < 0)) (J4 true w1) (∃ n44 : Int, w1.cell? ⟨w.heap.size, 0, none⟩ = some (.int .i64 n44) ∧ J4 (decide ((n44 : Int) > 1024)) w1)) (fun (b3 : Bool) w5 => BIf b3 (K (.bool false) w5) (LoopW [.int .i64, .int .i64] (fun J8 => fun (n6 : Int) (n7 : Int) w9 => ∃ l10 : Sl, w9.cell? ⟨w.heap.size, 1, none⟩ = some (.slice l10.a l10.len l10.cap) ∧ BIf (decide ((n7 : Int) < ((l10.len : Nat) : Int))) (∃ l11 : Sl, w9.cell? ⟨w.heap.size, 1, none⟩ = some (.slice l11.a l11.len l11.cap) ∧ 0 ≤ (n7 : Int) ∧ (n7 : Int) < ((l11.len : Nat) : Int) ∧ ∃ q12 : Addr, (l11.a : Option Addr) = some q12 ∧ ∃ n13 : Int, w9.cell? ((q12.add (Int.toNat n7 * 2)).add 0) = some (.int .i64 n13) ∧ ∃ n14 : Int, w9.cell? ((q12.add (Int.toNat n7 * 2)).add 1) = some (.int .i64 n14) ∧ LetW (w9.alloc (.cells #[.int .i64 0, .int .i64 0] 123)) fun w15 => MayN w15 ⟨w9.heap.size, 0, none⟩ 2 ∧ LetW (puts w15 ⟨w9.heap.size, 0, none⟩ 0 [.int .i64 n13, .int .i64 n14]) fun w16 => ∃ n17 : Int, w16.cell? ⟨w.heap.size, 0, none⟩ = some (.int .i64 n17) ∧ ∃ n18 : Int, w16.cell? ⟨w9.heap.size, 0, none⟩ = some (.int .i64 n18) ∧ ∃ n19 : Int, w16.cell? ⟨w9.heap.size, 1, none⟩ = some (.int .i64 n19) ∧ CallW Try.prog 145 #[.int .i64 n17, .agg #[.int .i64 n18, .int .i64 n19]] w16 fun v20 w21 => ∃ b22 : Bool, v20 = .bool b22 ∧ JoinW [.bool] (fun J24 => BIf (!b22) (J24 true w21) (∃ n43 : Int, w21.cell? ⟨w9.heap.size, 0, none⟩ = some (.int .i64 n43) ∧ J24 (decide ((n43 : Int) < n6)) w21)) (fun (b23 : Bool) w25 => BIf b23 (K (.bool false) w25) (∃ n26 : Int, w25.cell? ⟨w9.heap.size, 1, none⟩ = some (.int .i64 n26) ∧ CallW Try.prog 176 #[.int .i64 n26] w25 fun v27 w28 => ∃ n29 : Int, v27 = .int .i64 n29 ∧ JoinW [.bool] (fun J31 => BIf (decide ((n7 : Int) > 0)) (∃ l34 : Sl, w28.drew.cell? ⟨w.heap.size, 1, none⟩ = some (.slice l34.a l34.len l34.cap) ∧ 0 ≤ (IntKind.wrap .i64 (n7 - 1) : Int) ∧ (IntKind.wrap .i64 (n7 - 1) : Int) < ((l34.len : Nat) : Int) ∧ ∃ q35 : Addr, (l34.a : Option Addr) = some q35 ∧ ∃ n36 : Int, w28.drew.cell? ((q35.add (Int.toNat (IntKind.wrap .i64 (n7 - 1)) * 2)).add 1) = some (.int .i64 n36) ∧ ∃ n37 : Int, w28.drew.cell? ⟨w9.heap.size, 1, none⟩ = some (.int .i64 n37) ∧ BIf ((n36 : Int) == n37) (∃ n38 : Int, w28.drew.cell? ⟨w9.heap.size, 1, none⟩ = some (.int .i64 n38) ∧ BIf (decide ((n38 : Int) < 10)) (∃ n39 : Int, w28.drew.cell? ⟨w9.heap.size, 0, none⟩ = some (.int .i64 n39) ∧ BIf ((n39 : Int) == n6) (∃ l40 : Sl, w28.drew.cell? ⟨w.heap.size, 1, none⟩ = some (.slice l40.a l40.len l40.cap) ∧ 0 ≤ (IntKind.wrap .i64 (n7 - 1) : Int) ∧ (IntKind.wrap .i64 (n7 - 1) : Int) < ((l40.len : Nat) : Int) ∧ ∃ q41 : Addr, (l40.a : Option Addr) = some q41 ∧ ∃ n42 : Int, w28.drew.cell? ((q41.add (Int.toNat (IntKind.wrap .i64 (n7 - 1)) * 2)).add 0) = some (.int .i64 n42) ∧ (IntKind.wrap .i64 (2 * n29) : Int) ≠ 0 ∧ J31 ((Int.tmod n42 (IntKind.wrap .i64 (2 * n29)) : Int) == 0) w28.drew) (J31 false w28.drew)) (J31 false w28.drew)) (J31 false w28.drew)) (J31 false w28.drew)) (fun (b30 : Bool) w32 => BIf b30 (K (.bool false) w32) (∃ n33 : Int, w32.cell? ⟨w9.heap.size, 0, none⟩ = some (.int .i64 n33) ∧ J8 (IntKind.wrap .i64 (n33 + n29)) (IntKind.wrap .i64 (n7 + 1)) w32))))) (K (.bool true) w9)) ((0 : Int), ((0 : Int), ())) w5))
theorem eq160 (a0_0 : Int) (a0_1 : Sl) (w : World) (K : Value → World → Prop) : denFn Try.prog tt Try.f160 an160 [.agg #[.int .i64 a0_0, .slice a0_1.a a0_1.len a0_1.cap]] w K = W160 a0_0 a0_1 w K := by kernel_rfl
theorem ok160 : OkFn Try.prog 160 := ⟨Try.f160, Try.func160, by kernel_rfl, by kernel_rfl⟩
theorem go160 {a0_0 : Int} {a0_1 : Sl} {w : World} {K : Value → World → Prop} (h : W160 a0_0 a0_1 w K) : CallW Try.prog 160 #[.agg #[.int .i64 a0_0, .slice a0_1.a a0_1.len a0_1.cap]] w K :=
  .inl ⟨ok160, denFn_sound tt_ok mix Try.func160 (by kernel_rfl) (eq160 a0_0 a0_1 w K ▸ h)⟩

/- loop.example/g00008/spec.l9Wipe -/
def an161 : Ann := (.seq .leaf (.seq .leaf (.in_ (.loop 6 [(4, .int .i64)] (.seq (.seq .leaf (.cond .leaf .leaf)) (.seq (.in_ .leaf) .leaf))))))
def W161 (a0_0 : Sl) (a0_1 : Int) (a0_2 : Sl) (a1 : Int) (w : World) (K : Value → World → Prop) : Prop :=
  LetW (w.alloc (.cells #[.slice a0_0.a a0_0.len a0_0.cap, .int .i64 a0_1, .slice a0_2.a a0_2.len a0_2.cap] 65)) fun w1 => LoopW [.int .i64] (fun J3 => fun (n2 : Int) w4 => BIf (decide ((n2 : Int) < 256)) (∃ l5 : Sl, w4.cell? ⟨w.heap.size, 0, none⟩ = some (.slice l5.a l5.len l5.cap) ∧ 0 ≤ (IntKind.wrap .i64 ((IntKind.wrap .i64 (a1 * 256)) + n2) : Int) ∧ (IntKind.wrap .i64 ((IntKind.wrap .i64 (a1 * 256)) + n2) : Int) < ((l5.len : Nat) : Int) ∧ ∃ q6 : Addr, (l5.a : Option Addr) = some q6 ∧ May w4 (q6.add (Int.toNat (IntKind.wrap .i64 ((IntKind.wrap .i64 (a1 * 256)) + n2)) * 1)) ∧ LetW (w4.setCell (q6.add (Int.toNat (IntKind.wrap .i64 ((IntKind.wrap .i64 (a1 * 256)) + n2)) * 1)) (.int .u8 0)) fun w7 => J3 (IntKind.wrap .i64 (n2 + 1)) w7) (K (.tuple #[]) w4)) ((0 : Int), ()) w1
theorem eq161 (a0_0 : Sl) (a0_1 : Int) (a0_2 : Sl) (a1 : Int) (w : World) (K : Value → World → Prop) : denFn Try.prog tt Try.f161 an161 [.agg #[.slice a0_0.a a0_0.len a0_0.cap, .int .i64 a0_1, .slice a0_2.a a0_2.len a0_2.cap], .int .i64 a1] w K = W161 a0_0 a0_1 a0_2 a1 w K := by kernel_rfl
theorem ok161 : OkFn Try.prog 161 := ⟨Try.f161, Try.func161, by kernel_rfl, by kernel_rfl⟩
theorem go161 {a0_0 : Sl} {a0_1 : Int} {a0_2 : Sl} {a1 : Int} {w : World} {K : Value → World → Prop} (h : W161 a0_0 a0_1 a0_2 a1 w K) : CallW Try.prog 161 #[.agg #[.slice a0_0.a a0_0.len a0_0.cap, .int .i64 a0_1, .slice a0_2.a a0_2.len a0_2.cap], .int .i64 a1] w K :=
  .inl ⟨ok161, denFn_sound tt_ok mix Try.func161 (by kernel_rfl) (eq161 a0_0 a0_1 a0_2 a1 w K ▸ h)⟩

/- loop.example/g00008/spec.l8Same -/
def an162 : Ann := (.seq .leaf (.seq (.draw [0, 1, 0, 0, 8, 28, 63, 127] [0, 1, 3, 4, 2, 5, 6, 7]) .leaf))
def W162 (a0_0 : Int) (a0_1 : Sl) (w : World) (K : Value → World → Prop) : Prop :=
  LetW (w.alloc (.cells #[.int .i64 a0_0, .slice a0_1.a a0_1.len a0_1.cap] 63)) fun w1 => LetW (w1.alloc (.cells #[.int .i64 0, .slice none 0 0] 63)) fun w2 => ∃ n3 : Int, w2.drew.cell? ⟨w.heap.size, 0, none⟩ = some (.int .i64 n3) ∧ ∃ l4 : Sl, w2.drew.cell? ⟨w.heap.size, 1, none⟩ = some (.slice l4.a l4.len l4.cap) ∧ LetW (w2.drew.alloc (.cells #[] 123)) fun w5 => (∃ l6 : Sl, w5.cell? ⟨w.heap.size, 1, none⟩ = some (.slice l6.a l6.len l6.cap) ∧ (.slice l6.a l6.len l6.cap : Value) = (.slice l4.a l4.len l4.cap : Value)) ∧ (∃ n7 : Int, w5.cell? ⟨w.heap.size, 0, none⟩ = some (.int .i64 n7) ∧ (.int .i64 n7 : Value) = (.int .i64 n3 : Value)) ∧ AppendW 123 ti123 ⟨some ⟨w2.drew.heap.size, 0, none⟩, 0, 0⟩ l4 w5 fun l8 w9 => (∃ n10 : Int, w9.cell? ⟨w.heap.size, 0, none⟩ = some (.int .i64 n10) ∧ (.int .i64 n10 : Value) = (.int .i64 n3 : Value)) ∧ MayN w9 ⟨w1.heap.size, 0, none⟩ 2 ∧ LetW (puts w9 ⟨w1.heap.size, 0, none⟩ 0 [.int .i64 n3, .slice l8.a l8.len l8.cap]) fun w11 => ∃ n12 : Int, w11.cell? ⟨w1.heap.size, 0, none⟩ = some (.int .i64 n12) ∧ ∃ l13 : Sl, w11.cell? ⟨w1.heap.size, 1, none⟩ = some (.slice l13.a l13.len l13.cap) ∧ K (.agg #[.int .i64 n12, .slice l13.a l13.len l13.cap]) w11
theorem eq162 (a0_0 : Int) (a0_1 : Sl) (w : World) (K : Value → World → Prop) : denFn Try.prog tt Try.f162 an162 [.agg #[.int .i64 a0_0, .slice a0_1.a a0_1.len a0_1.cap]] w K = W162 a0_0 a0_1 w K := by kernel_rfl
theorem ok162 : OkFn Try.prog 162 := ⟨Try.f162, Try.func162, by kernel_rfl, by kernel_rfl⟩
theorem go162 {a0_0 : Int} {a0_1 : Sl} {w : World} {K : Value → World → Prop} (h : W162 a0_0 a0_1 w K) : CallW Try.prog 162 #[.agg #[.int .i64 a0_0, .slice a0_1.a a0_1.len a0_1.cap]] w K :=
  .inl ⟨ok162, denFn_sound tt_ok mix Try.func162 (by kernel_rfl) (eq162 a0_0 a0_1 w K ▸ h)⟩

/- (*loop.example/g00008/impl.pool).clear -/
def an163 : Ann := (.seq .leaf (.in_ (.loop 3 [(5, .int .i64)] (.seq .leaf (.seq (.cond .leaf .leaf) (.seq (.in_ (.seq .leaf .leaf)) .leaf))))))
def W163 (a0 : Option Addr) (a1 : Int) (w : World) (K : Value → World → Prop) : Prop :=
  LoopW [.int .i64] (fun J2 => fun (n1 : Int) w3 => BIf (decide ((n1 : Int) < 256)) (∃ p4 : Addr, (a0 : Option Addr) = some p4 ∧ ∃ l5 : Sl, w3.cell? (p4.add 0) = some (.slice l5.a l5.len l5.cap) ∧ 0 ≤ (IntKind.wrap .i64 ((IntKind.wrap .i64 (a1 * 256)) + n1) : Int) ∧ (IntKind.wrap .i64 ((IntKind.wrap .i64 (a1 * 256)) + n1) : Int) < ((l5.len : Nat) : Int) ∧ ∃ q6 : Addr, (l5.a : Option Addr) = some q6 ∧ May w3 (q6.add (Int.toNat (IntKind.wrap .i64 ((IntKind.wrap .i64 (a1 * 256)) + n1)) * 1)) ∧ LetW (w3.setCell (q6.add (Int.toNat (IntKind.wrap .i64 ((IntKind.wrap .i64 (a1 * 256)) + n1)) * 1)) (.int .u8 0)) fun w7 => J2 (IntKind.wrap .i64 (n1 + 1)) w7) (K (.tuple #[]) w3)) ((0 : Int), ()) w
theorem eq163 (a0 : Option Addr) (a1 : Int) (w : World) (K : Value → World → Prop) : denFn Try.prog tt Try.f163 an163 [.pointer a0, .int .i64 a1] w K = W163 a0 a1 w K := by kernel_rfl
theorem ok163 : OkFn Try.prog 163 := ⟨Try.f163, Try.func163, by kernel_rfl, by kernel_rfl⟩
theorem go163 {a0 : Option Addr} {a1 : Int} {w : World} {K : Value → World → Prop} (h : W163 a0 a1 w K) : CallW Try.prog 163 #[.pointer a0, .int .i64 a1] w K :=
  .inl ⟨ok163, denFn_sound tt_ok mix Try.func163 (by kernel_rfl) (eq163 a0 a1 w K ▸ h)⟩

/- loop.example/g00008/laws.markBlockS -/
def an164 : Ann := (.seq .leaf (.seq (.seq .leaf (.in_ (.loop 1 [(1, .int .i64), (5, .int .i64)] (.seq (.seq .leaf (.cond .leaf .leaf)) (.seq (.in_ (.seq .leaf (.seq .leaf (.seq .leaf .leaf)))) .leaf))))) (.seq .leaf .leaf)))
def W164 (a0 : Sl) (a1 : Int) (w : World) (K : Value → World → Prop) : Prop :=
  LoopW [.int .i64, .int .i64] (fun J3 => fun (n1 : Int) (n2 : Int) w4 => BIf (decide ((n2 : Int) < ((a0.len : Nat) : Int))) (0 ≤ (n2 : Int) ∧ (n2 : Int) < ((a0.len : Nat) : Int) ∧ ∃ q5 : Addr, (a0.a : Option Addr) = some q5 ∧ May w4 ((q5.add (Int.toNat n2 * 2)).add 0) ∧ LetW (w4.setCell ((q5.add (Int.toNat n2 * 2)).add 0) (.int .i64 n1)) fun w6 => 0 ≤ (n2 : Int) ∧ (n2 : Int) < ((a0.len : Nat) : Int) ∧ ∃ q7 : Addr, (a0.a : Option Addr) = some q7 ∧ May w6 ((q7.add (Int.toNat n2 * 2)).add 1) ∧ LetW (w6.setCell ((q7.add (Int.toNat n2 * 2)).add 1) (.int .i64 (IntKind.wrap .i64 (n1 + 1)))) fun w8 => J3 (IntKind.wrap .i64 ((IntKind.wrap .i64 (n1 + 1)) + 1)) (IntKind.wrap .i64 (n2 + 1)) w8) (K (.int .i64 n1) w4)) ((a1 : Int), ((0 : Int), ())) w
theorem eq164 (a0 : Sl) (a1 : Int) (w : World) (K : Value → World → Prop) : denFn Try.prog tt Try.f164 an164 [.slice a0.a a0.len a0.cap, .int .i64 a1] w K = W164 a0 a1 w K := by kernel_rfl
theorem ok164 : OkFn Try.prog 164 := ⟨Try.f164, Try.func164, by kernel_rfl, by kernel_rfl⟩
theorem go164 {a0 : Sl} {a1 : Int} {w : World} {K : Value → World → Prop} (h : W164 a0 a1 w K) : CallW Try.prog 164 #[.slice a0.a a0.len a0.cap, .int .i64 a1] w K :=
  .inl ⟨ok164, denFn_sound tt_ok mix Try.func164 (by kernel_rfl) (eq164 a0 a1 w K ▸ h)⟩

/- loop.example/g00008/laws.heldBlockS -/
def an165 : Ann := (.seq .leaf (.seq (.seq .leaf (.in_ (.loop 1 [(1, .int .i64), (5, .int .i64)] (.seq (.seq .leaf (.cond .leaf .leaf)) (.seq (.in_ (.seq (.seq .leaf (.cond (.seq .leaf .leaf) .leaf)) (.seq .leaf (.seq (.seq .leaf (.cond (.seq .leaf .leaf) .leaf)) .leaf)))) .leaf))))) (.seq .leaf .leaf)))
def W165 (a0 : Sl) (a1 : Int) (w : World) (K : Value → World → Prop) : Prop :=
  LoopW [.int .i64, .int .i64] (fun J3 => fun (n1 : Int) (n2 : Int) w4 => BIf (decide ((n2 : Int) < ((a0.len : Nat) : Int))) (0 ≤ (n2 : Int) ∧ (n2 : Int) < ((a0.len : Nat) : Int) ∧ ∃ q5 : Addr, (a0.a : Option Addr) = some q5 ∧ ∃ n6 : Int, w4.cell? ((q5.add (Int.toNat n2 * 2)).add 0) = some (.int .i64 n6) ∧ BIf ((n6 : Int) != n1) (K (.int .i64 (-1)) w4) (0 ≤ (n2 : Int) ∧ (n2 : Int) < ((a0.len : Nat) : Int) ∧ ∃ q7 : Addr, (a0.a : Option Addr) = some q7 ∧ ∃ n8 : Int, w4.cell? ((q7.add (Int.toNat n2 * 2)).add 1) = some (.int .i64 n8) ∧ BIf ((n8 : Int) != (IntKind.wrap .i64 (n1 + 1))) (K (.int .i64 (-1)) w4) (J3 (IntKind.wrap .i64 ((IntKind.wrap .i64 (n1 + 1)) + 1)) (IntKind.wrap .i64 (n2 + 1)) w4))) (K (.int .i64 n1) w4)) ((a1 : Int), ((0 : Int), ())) w
theorem eq165 (a0 : Sl) (a1 : Int) (w : World) (K : Value → World → Prop) : denFn Try.prog tt Try.f165 an165 [.slice a0.a a0.len a0.cap, .int .i64 a1] w K = W165 a0 a1 w K := by kernel_rfl
theorem ok165 : OkFn Try.prog 165 := ⟨Try.f165, Try.func165, by kernel_rfl, by kernel_rfl⟩
theorem go165 {a0 : Sl} {a1 : Int} {w : World} {K : Value → World → Prop} (h : W165 a0 a1 w K) : CallW Try.prog 165 #[.slice a0.a a0.len a0.cap, .int .i64 a1] w K :=
  .inl ⟨ok165, denFn_sound tt_ok mix Try.func165 (by kernel_rfl) (eq165 a0 a1 w K ▸ h)⟩

/- loop.example/g00008/impl.LoadWord -/
def an168 : Ann := (.seq .leaf (.seq (.seq (.reg [(4, none), (7, some (15, [(22, .bool)]))]) (.cond (.seq .leaf .leaf) .leaf)) (.seq .leaf (.seq (.seq .leaf (.in_ (.loop 15 [(10, .int .u64), (11, .int .i64)] (.seq (.seq .leaf (.cond .leaf .leaf)) (.seq (.in_ .leaf) .leaf))))) (.seq (.seq .leaf (.cond .leaf .leaf)) (.seq .leaf .leaf))))))
def W168 (a0 : Sl) (a1 : Int) (a2 : Int) (a3 : Bool) (w : World) (K : Value → World → Prop) : Prop :=
  CallW Try.prog 190 #[.int .i64 a2] w fun v1 w2 => ∃ b3 : Bool, v1 = .bool b3 ∧ JoinW [.bool] (fun J5 => BIf (!b3) (J5 true w2) (CallW Try.prog 191 #[.int .i64 ((a0.len : Nat) : Int), .int .i64 a1, .int .i64 a2] w2 fun v16 w17 => ∃ b18 : Bool, v16 = .bool b18 ∧ J5 (!b18) w17)) (fun (b4 : Bool) w6 => BIf b4 (K (.tuple #[.int .u64 0, .bool false]) w6) (LoopW [.int .u64, .int .i64] (fun J9 => fun (n7 : Int) (n8 : Int) w10 => BIf (decide ((n8 : Int) ≥ 0)) (0 ≤ (8 : Int) ∧ 0 ≤ (IntKind.wrap .i64 (a1 + n8) : Int) ∧ (IntKind.wrap .i64 (a1 + n8) : Int) < ((a0.len : Nat) : Int) ∧ ∃ q11 : Addr, (a0.a : Option Addr) = some q11 ∧ ∃ n12 : Int, w10.cell? (q11.add (Int.toNat (IntKind.wrap .i64 (a1 + n8)) * 1)) = some (.int .u8 n12) ∧ J9 (orI .u64 (shlI .u64 n7 8) (IntKind.wrap .u64 n12)) (IntKind.wrap .i64 (n8 - 1)) w10) (BIf a3 (CallW Try.prog 192 #[.int .u64 n7, .int .i64 (IntKind.wrap .i64 (8 * a2))] w10 fun v13 w14 => ∃ n15 : Int, v13 = .int .u64 n15 ∧ K (.tuple #[.int .u64 n15, .bool true]) w14) (K (.tuple #[.int .u64 n7, .bool true]) w10))) ((0 : Int), ((IntKind.wrap .i64 (a2 - 1) : Int), ())) w6))
theorem eq168 (a0 : Sl) (a1 : Int) (a2 : Int) (a3 : Bool) (w : World) (K : Value → World → Prop) : denFn Try.prog tt Try.f168 an168 [.slice a0.a a0.len a0.cap, .int .i64 a1, .int .i64 a2, .bool a3] w K = W168 a0 a1 a2 a3 w K := by kernel_rfl
theorem ok168 : OkFn Try.prog 168 := ⟨Try.f168, Try.func168, by kernel_rfl, by kernel_rfl⟩
theorem go168 {a0 : Sl} {a1 : Int} {a2 : Int} {a3 : Bool} {w : World} {K : Value → World → Prop} (h : W168 a0 a1 a2 a3 w K) : CallW Try.prog 168 #[.slice a0.a a0.len a0.cap, .int .i64 a1, .int .i64 a2, .bool a3] w K :=
  .inl ⟨ok168, denFn_sound tt_ok mix Try.func168 (by kernel_rfl) (eq168 a0 a1 a2 a3 w K ▸ h)⟩

/- loop.example/g00008/spec.l9Way -/
def an169 : Ann := (.seq .leaf (.seq .leaf (.seq .leaf (.seq (.seq .leaf (.in_ (.loop 12 [(7, .slice), (8, .int .i64), (9, .int .i64)] (.seq (.seq .leaf (.cond .leaf .leaf)) (.seq (.in_ (.seq .leaf (.seq .leaf (.seq .leaf (.seq (.seq .leaf (.cond (.seq .leaf .leaf) .leaf)) (.seq .leaf .leaf)))))) .leaf))))) (.seq .leaf .leaf)))))
def W169 (a0_0 : Sl) (a0_1 : Int) (a0_2 : Sl) (a1 : Int) (a2 : Int) (w : World) (K : Value → World → Prop) : Prop :=
  LetW (w.alloc (.cells #[.slice a0_0.a a0_0.len a0_0.cap, .int .i64 a0_1, .slice a0_2.a a0_2.len a0_2.cap] 65)) fun w1 => LetW (w1.alloc (.cells #[] 2)) fun w2 => LoopW [.slice, .int .i64, .int .i64] (fun J6 => fun (l3 : Sl) (n4 : Int) (n5 : Int) w7 => BIf (decide ((n5 : Int) ≥ 0)) (CallW Try.prog 129 #[.int .i64 n4, .int .i64 n5, .int .i64 a2] w7 fun v8 w9 => ∃ n10 : Int, v8 = .int .i64 n10 ∧ LetW (w9.alloc (.cells #[.int .i64 n10] 2)) fun w11 => AppendW 2 ti2 l3 ⟨some ⟨w9.heap.size, 0, none⟩, 1, 1⟩ w11 fun l12 w13 => ∃ l14 : Sl, w13.cell? ⟨w.heap.size, 0, none⟩ = some (.slice l14.a l14.len l14.cap) ∧ CallW Try.prog 124 #[.slice l14.a l14.len l14.cap, .int .i64 n10] w13 fun v15 w16 => ∃ n17 : Int, v15 = .int .u64 n17 ∧ BIf ((n17 : Int) == 0) (K (.slice l12.a l12.len l12.cap) w16) (CallW Try.prog 123 #[.int .u64 n17] w16 fun v18 w19 => ∃ b20 : Bool, ∃ b21 : Bool, ∃ b22 : Bool, ∃ b23 : Bool, ∃ b24 : Bool, ∃ b25 : Bool, ∃ b26 : Bool, ∃ b27 : Bool, ∃ n28 : Int, ∃ b29 : Bool, v18 = .tuple #[.agg #[.bool b20, .bool b21, .bool b22, .bool b23, .bool b24, .bool b25, .bool b26, .bool b27, .int .i64 n28], .bool b29] ∧ LetW (w19.alloc (.cells #[.bool false, .bool false, .bool false, .bool false, .bool false, .bool false, .bool false, .bool false, .int .i64 0] 81)) fun w30 => MayN w30 ⟨w19.heap.size, 0, none⟩ 9 ∧ LetW (puts w30 ⟨w19.heap.size, 0, none⟩ 0 [.bool b20, .bool b21, .bool b22, .bool b23, .bool b24, .bool b25, .bool b26, .bool b27, .int .i64 n28]) fun w31 => ∃ n32 : Int, w31.cell? ⟨w19.heap.size, 8, none⟩ = some (.int .i64 n32) ∧ J6 l12 n32 (IntKind.wrap .i64 (n5 - 1)) w31)) (K (.slice l3.a l3.len l3.cap) w7)) ((⟨some ⟨w1.heap.size, 0, none⟩, 0, 0⟩ : Sl), ((a1 : Int), ((2 : Int), ()))) w2
theorem eq169 (a0_0 : Sl) (a0_1 : Int) (a0_2 : Sl) (a1 : Int) (a2 : Int) (w : World) (K : Value → World → Prop) : denFn Try.prog tt Try.f169 an169 [.agg #[.slice a0_0.a a0_0.len a0_0.cap, .int .i64 a0_1, .slice a0_2.a a0_2.len a0_2.cap], .int .i64 a1, .int .i64 a2] w K = W169 a0_0 a0_1 a0_2 a1 a2 w K := by kernel_rfl
theorem ok169 : OkFn Try.prog 169 := ⟨Try.f169, Try.func169, by kernel_rfl, by kernel_rfl⟩
theorem go169 {a0_0 : Sl} {a0_1 : Int} {a0_2 : Sl} {a1 : Int} {a2 : Int} {w : World} {K : Value → World → Prop} (h : W169 a0_0 a0_1 a0_2 a1 a2 w K) : CallW Try.prog 169 #[.agg #[.slice a0_0.a a0_0.len a0_0.cap, .int .i64 a0_1, .slice a0_2.a a0_2.len a0_2.cap], .int .i64 a1, .int .i64 a2] w K :=
  .inl ⟨ok169, denFn_sound tt_ok mix Try.func169 (by kernel_rfl) (eq169 a0_0 a0_1 a0_2 a1 a2 w K ▸ h)⟩

/- loop.example/g00008/spec.l6Flag -/
def an170 : Ann := (.seq .leaf (.seq (.seq .leaf (.cond (.seq .leaf .leaf) .leaf)) (.seq .leaf .leaf)))
def W170 (a0 : Bool) (a1 : Int) (w : World) (K : Value → World → Prop) : Prop :=
  BIf a0 (CallW Try.prog 193 #[.int .i64 a1] w fun v1 w2 => ∃ n3 : Int, v1 = .int .u64 n3 ∧ K (.int .u64 n3) w2) (K (.int .u64 0) w)
theorem eq170 (a0 : Bool) (a1 : Int) (w : World) (K : Value → World → Prop) : denFn Try.prog tt Try.f170 an170 [.bool a0, .int .i64 a1] w K = W170 a0 a1 w K := by kernel_rfl
theorem ok170 : OkFn Try.prog 170 := ⟨Try.f170, Try.func170, by kernel_rfl, by kernel_rfl⟩
theorem go170 {a0 : Bool} {a1 : Int} {w : World} {K : Value → World → Prop} (h : W170 a0 a1 w K) : CallW Try.prog 170 #[.bool a0, .int .i64 a1] w K :=
  .inl ⟨ok170, denFn_sound tt_ok mix Try.func170 (by kernel_rfl) (eq170 a0 a1 w K ▸ h)⟩

/- (*loop.example/g00008/impl.pool).way -/
def an171 : Ann := (.seq .leaf (.seq .leaf (.seq (.seq .leaf (.in_ (.loop 5 [(7, .slice), (8, .int .i64)] (.seq (.seq .leaf (.cond .leaf .leaf)) (.seq (.in_ (.seq (.draw [0, 0, 0, 4, 12, 30, 62, 0, 0, 384, 1023, 2047] [0, 1, 2, 3, 4, 5, 6, 7, 8, 9, 10, 11]) (.seq (.seq .leaf (.cond .leaf .leaf)) .leaf))) .leaf))))) (.seq .leaf .leaf))))
def W171 (a0 : Option Addr) (a1 : Int) (a2 : Int) (w : World) (K : Value → World → Prop) : Prop :=
  LetW (w.alloc (.cells #[.int .i64 a1] 2)) fun w1 => LoopW [.slice, .int .i64] (fun J4 => fun (l2 : Sl) (n3 : Int) w5 => BIf (decide ((n3 : Int) > 0)) (0 ≤ (IntKind.wrap .i64 (((l2.len : Nat) : Int) - 1) : Int) ∧ (IntKind.wrap .i64 (((l2.len : Nat) : Int) - 1) : Int) < ((l2.len : Nat) : Int) ∧ ∃ q6 : Addr, (l2.a : Option Addr) = some q6 ∧ ∃ n7 : Int, w5.drew.cell? (q6.add (Int.toNat (IntKind.wrap .i64 (((l2.len : Nat) : Int) - 1)) * 1)) = some (.int .i64 n7) ∧ CallW Try.prog 122 #[.int .i64 a2, .int .i64 n3] w5.drew fun v8 w9 => ∃ n10 : Int, v8 = .int .i64 n10 ∧ (∃ n11 : Int, w9.cell? (q6.add (Int.toNat (IntKind.wrap .i64 (((l2.len : Nat) : Int) - 1)) * 1)) = some (.int .i64 n11) ∧ (.int .i64 n11 : Value) = (.int .i64 n7 : Value)) ∧ ((.int .i64 ((l2.len : Nat) : Int) : Value) = (.int .i64 ((l2.len : Nat) : Int) : Value)) ∧ CallW Try.prog 126 #[.pointer a0, .int .i64 n7, .int .i64 n10] w9 fun v12 w13 => ∃ n14 : Int, v12 = .int .u64 n14 ∧ BIf ((n14 : Int) == 0) (K (.slice l2.a l2.len l2.cap) w13) (CallW Try.prog 127 #[.int .u64 n14] w13 fun v15 w16 => ∃ b17 : Bool, ∃ b18 : Bool, ∃ b19 : Bool, ∃ b20 : Bool, ∃ b21 : Bool, ∃ b22 : Bool, ∃ b23 : Bool, ∃ b24 : Bool, ∃ n25 : Int, v15 = .agg #[.bool b17, .bool b18, .bool b19, .bool b20, .bool b21, .bool b22, .bool b23, .bool b24, .int .i64 n25] ∧ LetW (w16.alloc (.cells #[.int .i64 n25] 2)) fun w26 => AppendW 2 ti2 l2 ⟨some ⟨w16.heap.size, 0, none⟩, 1, 1⟩ w26 fun l27 w28 => J4 l27 (IntKind.wrap .i64 (n3 - 1)) w28)) (K (.slice l2.a l2.len l2.cap) w5)) ((⟨some ⟨w.heap.size, 0, none⟩, 1, 1⟩ : Sl), ((2 : Int), ())) w1
theorem eq171 (a0 : Option Addr) (a1 : Int) (a2 : Int) (w : World) (K : Value → World → Prop) : denFn Try.prog tt Try.f171 an171 [.pointer a0, .int .i64 a1, .int .i64 a2] w K = W171 a0 a1 a2 w K := by kernel_rfl
theorem ok171 : OkFn Try.prog 171 := ⟨Try.f171, Try.func171, by kernel_rfl, by kernel_rfl⟩
theorem go171 {a0 : Option Addr} {a1 : Int} {a2 : Int} {w : World} {K : Value → World → Prop} (h : W171 a0 a1 a2 w K) : CallW Try.prog 171 #[.pointer a0, .int .i64 a1, .int .i64 a2] w K :=
  .inl ⟨ok171, denFn_sound tt_ok mix Try.func171 (by kernel_rfl) (eq171 a0 a1 a2 w K ▸ h)⟩

/- loop.example/g00008/impl.poke -/
def an172 : Ann := (.seq .leaf (.in_ (.loop 523 [(10, .int .i64)] (.seq .leaf (.seq (.cond .leaf .leaf) (.seq (.in_ (.seq .leaf .leaf)) .leaf))))))
def W172 (a0 : Sl) (a1 : Int) (a2 : Int) (a3 : Int) (w : World) (K : Value → World → Prop) : Prop :=
  LoopW [.int .i64] (fun J2 => fun (n1 : Int) w3 => BIf (decide ((n1 : Int) < a2)) (0 ≤ (IntKind.wrap .i64 (8 * n1) : Int) ∧ 0 ≤ (IntKind.wrap .i64 (a1 + n1) : Int) ∧ (IntKind.wrap .i64 (a1 + n1) : Int) < ((a0.len : Nat) : Int) ∧ ∃ q4 : Addr, (a0.a : Option Addr) = some q4 ∧ May w3 (q4.add (Int.toNat (IntKind.wrap .i64 (a1 + n1)) * 1)) ∧ LetW (w3.setCell (q4.add (Int.toNat (IntKind.wrap .i64 (a1 + n1)) * 1)) (.int .u8 (IntKind.wrap .u8 (shrI .u64 a3 (IntKind.wrap .i64 (8 * n1)))))) fun w5 => J2 (IntKind.wrap .i64 (n1 + 1)) w5) (K (.tuple #[]) w3)) ((0 : Int), ()) w
theorem eq172 (a0 : Sl) (a1 : Int) (a2 : Int) (a3 : Int) (w : World) (K : Value → World → Prop) : denFn Try.prog tt Try.f172 an172 [.slice a0.a a0.len a0.cap, .int .i64 a1, .int .i64 a2, .int .u64 a3] w K = W172 a0 a1 a2 a3 w K := by kernel_rfl
theorem ok172 : OkFn Try.prog 172 := ⟨Try.f172, Try.func172, by kernel_rfl, by kernel_rfl⟩
theorem go172 {a0 : Sl} {a1 : Int} {a2 : Int} {a3 : Int} {w : World} {K : Value → World → Prop} (h : W172 a0 a1 a2 a3 w K) : CallW Try.prog 172 #[.slice a0.a a0.len a0.cap, .int .i64 a1, .int .i64 a2, .int .u64 a3] w K :=
  .inl ⟨ok172, denFn_sound tt_ok mix Try.func172 (by kernel_rfl) (eq172 a0 a1 a2 a3 w K ▸ h)⟩

/- loop.example/g00008/spec.l6Is -/
def an173 : Ann := (.seq .leaf (.seq .leaf .leaf))
def W173 (a0 : Int) (a1 : Int) (w : World) (K : Value → World → Prop) : Prop :=
  CallW Try.prog 194 #[.int .u64 a0, .int .i64 a1] w fun v1 w2 => ∃ n3 : Int, v1 = .int .u64 n3 ∧ K (.bool ((n3 : Int) == 1)) w2
theorem eq173 (a0 : Int) (a1 : Int) (w : World) (K : Value → World → Prop) : denFn Try.prog tt Try.f173 an173 [.int .u64 a0, .int .i64 a1] w K = W173 a0 a1 w K := by kernel_rfl
theorem ok173 : OkFn Try.prog 173 := ⟨Try.f173, Try.func173, by kernel_rfl, by kernel_rfl⟩
theorem go173 {a0 : Int} {a1 : Int} {w : World} {K : Value → World → Prop} (h : W173 a0 a1 w K) : CallW Try.prog 173 #[.int .u64 a0, .int .i64 a1] w K :=
  .inl ⟨ok173, denFn_sound tt_ok mix Try.func173 (by kernel_rfl) (eq173 a0 a1 w K ▸ h)⟩

/- loop.example/g00008/spec.LoadWord -/
def an174 : Ann := (.seq .leaf (.seq (.seq (.reg [(4, none), (3, some (15, [(18, .bool)])), (1, none), (7, some (15, [(26, .bool)]))]) (.cond (.seq .leaf .leaf) .leaf)) (.seq .leaf (.seq (.seq .leaf (.in_ (.loop 15 [(10, .int .u64), (11, .int .i64)] (.seq (.seq .leaf (.cond .leaf .leaf)) (.seq (.in_ .leaf) .leaf))))) (.seq (.seq .leaf (.cond (.seq .leaf .leaf) .leaf)) (.seq .leaf .leaf))))))
def W174 (a0 : Sl) (a1 : Int) (a2 : Int) (a3 : Bool) (w : World) (K : Value → World → Prop) : Prop :=
  CallW Try.prog 195 #[.int .i64 a2] w fun v1 w2 => ∃ b3 : Bool, v1 = .bool b3 ∧ JoinW [.bool] (fun J5 => BIf (!b3) (J5 true w2) (J5 (decide ((a1 : Int) < 0)) w2)) (fun (b4 : Bool) w6 => JoinW [.bool] (fun J8 => BIf b4 (J8 true w6) (J8 (decide ((a1 : Int) > (IntKind.wrap .i64 (((a0.len : Nat) : Int) - a2)))) w6)) (fun (b7 : Bool) w9 => BIf b7 (K (.tuple #[.int .u64 0, .bool false]) w9) (LoopW [.int .u64, .int .i64] (fun J12 => fun (n10 : Int) (n11 : Int) w13 => BIf (decide ((n11 : Int) ≥ 0)) (0 ≤ (IntKind.wrap .i64 (a1 + n11) : Int) ∧ (IntKind.wrap .i64 (a1 + n11) : Int) < ((a0.len : Nat) : Int) ∧ ∃ q14 : Addr, (a0.a : Option Addr) = some q14 ∧ ∃ n15 : Int, w13.cell? (q14.add (Int.toNat (IntKind.wrap .i64 (a1 + n11)) * 1)) = some (.int .u8 n15) ∧ J12 (IntKind.wrap .u64 ((IntKind.wrap .u64 (n10 * 256)) + (IntKind.wrap .u64 n15))) (IntKind.wrap .i64 (n11 - 1)) w13) (BIf a3 (CallW Try.prog 196 #[.int .u64 n10, .int .i64 (IntKind.wrap .i64 (8 * a2))] w13 fun v16 w17 => ∃ n18 : Int, v16 = .int .u64 n18 ∧ K (.tuple #[.int .u64 n18, .bool true]) w17) (K (.tuple #[.int .u64 n10, .bool true]) w13))) ((0 : Int), ((IntKind.wrap .i64 (a2 - 1) : Int), ())) w9)))
theorem eq174 (a0 : Sl) (a1 : Int) (a2 : Int) (a3 : Bool) (w : World) (K : Value → World → Prop) : denFn Try.prog tt Try.f174 an174 [.slice a0.a a0.len a0.cap, .int .i64 a1, .int .i64 a2, .bool a3] w K = W174 a0 a1 a2 a3 w K := by kernel_rfl
theorem ok174 : OkFn Try.prog 174 := ⟨Try.f174, Try.func174, by kernel_rfl, by kernel_rfl⟩
theorem go174 {a0 : Sl} {a1 : Int} {a2 : Int} {a3 : Bool} {w : World} {K : Value → World → Prop} (h : W174 a0 a1 a2 a3 w K) : CallW Try.prog 174 #[.slice a0.a a0.len a0.cap, .int .i64 a1, .int .i64 a2, .bool a3] w K :=
  .inl ⟨ok174, denFn_sound tt_ok mix Try.func174 (by kernel_rfl) (eq174 a0 a1 a2 a3 w K ▸ h)⟩

/- loop.example/g00008/impl.entryOf$1 -/
def an175 : Ann := (.seq .leaf (.seq .leaf .leaf))
def W175 (a0 : Int) (c0 : Addr) (w : World) (K : Value → World → Prop) : Prop :=
  ∃ n1 : Int, w.cell? c0 = some (.int .u64 n1) ∧ 0 ≤ (a0 : Int) ∧ K (.bool ((andI .u64 (shrI .u64 n1 a0) 1 : Int) == 1)) w
theorem eq175 (a0 : Int) (c0 : Addr) (w : World) (K : Value → World → Prop) : denFn Try.prog tt Try.f175 an175 [.int .i64 a0, .pointer (some c0)] w K = W175 a0 c0 w K := by kernel_rfl
theorem ok175 : OkFn Try.prog 175 := ⟨Try.f175, Try.func175, by kernel_rfl, by kernel_rfl⟩
theorem go175 {a0 : Int} {c0 : Addr} {w : World} {K : Value → World → Prop} (h : W175 a0 c0 w K) : CallW Try.prog 175 #[.int .i64 a0, .pointer (some c0)] w K :=
  .inl ⟨ok175, denFn_sound tt_ok mix Try.func175 (by kernel_rfl) (eq175 a0 c0 w K ▸ h)⟩

/- loop.example/g00008/spec.l8Len -/
def an176 : Ann := (.seq .leaf (.seq .leaf (.seq (.seq .leaf (.in_ (.loop 1 [(3, .int .i64), (4, .int .i64)] (.seq (.seq .leaf (.cond .leaf .leaf)) (.seq (.in_ .leaf) .leaf))))) (.seq .leaf .leaf))))
def W176 (a0 : Int) (w : World) (K : Value → World → Prop) : Prop :=
  LoopW [.int .i64, .int .i64] (fun J3 => fun (n1 : Int) (n2 : Int) w4 => BIf (decide ((n2 : Int) < a0)) (J3 (IntKind.wrap .i64 (n1 * 2)) (IntKind.wrap .i64 (n2 + 1)) w4) (K (.int .i64 n1) w4)) ((1 : Int), ((0 : Int), ())) w
theorem eq176 (a0 : Int) (w : World) (K : Value → World → Prop) : denFn Try.prog tt Try.f176 an176 [.int .i64 a0] w K = W176 a0 w K := by kernel_rfl
theorem ok176 : OkFn Try.prog 176 := ⟨Try.f176, Try.func176, by kernel_rfl, by kernel_rfl⟩
theorem go176 {a0 : Int} {w : World} {K : Value → World → Prop} (h : W176 a0 w K) : CallW Try.prog 176 #[.int .i64 a0] w K :=
  .inl ⟨ok176, denFn_sound tt_ok mix Try.func176 (by kernel_rfl) (eq176 a0 w K ▸ h)⟩

/- loop.example/g00008/spec.l6Pages -/
def an177 : Ann := (.seq .leaf (.seq (.seq .leaf (.cond (.seq .leaf .leaf) .leaf)) (.seq .leaf .leaf)))
def W177 (a0 : Int) (w : World) (K : Value → World → Prop) : Prop :=
  BIf ((a0 : Int) == 0) (K (.int .i64 1) w) (CallW Try.prog 177 #[.int .i64 (IntKind.wrap .i64 (a0 - 1))] w fun v1 w2 => ∃ n3 : Int, v1 = .int .i64 n3 ∧ K (.int .i64 (IntKind.wrap .i64 (32 * n3))) w2)
theorem eq177 (a0 : Int) (w : World) (K : Value → World → Prop) : denFn Try.prog tt Try.f177 an177 [.int .i64 a0] w K = W177 a0 w K := by kernel_rfl
theorem ok177 : OkFn Try.prog 177 := ⟨Try.f177, Try.func177, by kernel_rfl, by kernel_rfl⟩
theorem go177 {a0 : Int} {w : World} {K : Value → World → Prop} (h : W177 a0 w K) : CallW Try.prog 177 #[.int .i64 a0] w K :=
  .inl ⟨ok177, denFn_sound tt_ok mix Try.func177 (by kernel_rfl) (eq177 a0 w K ▸ h)⟩

/- loop.example/g00008/spec.l8Whole -/
def an182 : Ann := (.seq .leaf (.seq (.seq .leaf (.cond (.seq .leaf .leaf) .leaf)) (.seq (.seq .leaf (.in_ (.loop 7 [(7, .int .i64)] (.seq (.seq .leaf (.cond .leaf .leaf)) (.seq (.in_ (.seq .leaf (.cond (.seq .leaf .leaf) .leaf))) .leaf))))) (.seq .leaf .leaf))))
def W182 (a0 : Sl) (a1 : Int) (a2 : Int) (w : World) (K : Value → World → Prop) : Prop :=
  BIf (decide ((IntKind.wrap .i64 (a1 + a2) : Int) > ((a0.len : Nat) : Int))) (K (.bool false) w) (LoopW [.int .i64] (fun J2 => fun (n1 : Int) w3 => BIf (decide ((n1 : Int) < a2)) (0 ≤ (IntKind.wrap .i64 (a1 + n1) : Int) ∧ (IntKind.wrap .i64 (a1 + n1) : Int) < ((a0.len : Nat) : Int) ∧ ∃ q4 : Addr, (a0.a : Option Addr) = some q4 ∧ ∃ b5 : Bool, w3.cell? (q4.add (Int.toNat (IntKind.wrap .i64 (a1 + n1)) * 1)) = some (.bool b5) ∧ BIf (!b5) (K (.bool false) w3) (J2 (IntKind.wrap .i64 (n1 + 1)) w3)) (K (.bool true) w3)) ((0 : Int), ()) w)
theorem eq182 (a0 : Sl) (a1 : Int) (a2 : Int) (w : World) (K : Value → World → Prop) : denFn Try.prog tt Try.f182 an182 [.slice a0.a a0.len a0.cap, .int .i64 a1, .int .i64 a2] w K = W182 a0 a1 a2 w K := by kernel_rfl
theorem ok182 : OkFn Try.prog 182 := ⟨Try.f182, Try.func182, by kernel_rfl, by kernel_rfl⟩
theorem go182 {a0 : Sl} {a1 : Int} {a2 : Int} {w : World} {K : Value → World → Prop} (h : W182 a0 a1 a2 w K) : CallW Try.prog 182 #[.slice a0.a a0.len a0.cap, .int .i64 a1, .int .i64 a2] w K :=
  .inl ⟨ok182, denFn_sound tt_ok mix Try.func182 (by kernel_rfl) (eq182 a0 a1 a2 w K ▸ h)⟩

/- loop.example/g00008/spec.l8Mark -/
def an183 : Ann := (.seq .leaf (.in_ (.loop 15 [(8, .int .i64)] (.seq (.seq .leaf (.cond .leaf .leaf)) (.seq (.in_ .leaf) .leaf)))))
def W183 (a0 : Sl) (a1 : Int) (a2 : Int) (a3 : Bool) (w : World) (K : Value → World → Prop) : Prop :=
  LoopW [.int .i64] (fun J2 => fun (n1 : Int) w3 => BIf (decide ((n1 : Int) < a2)) (0 ≤ (IntKind.wrap .i64 (a1 + n1) : Int) ∧ (IntKind.wrap .i64 (a1 + n1) : Int) < ((a0.len : Nat) : Int) ∧ ∃ q4 : Addr, (a0.a : Option Addr) = some q4 ∧ May w3 (q4.add (Int.toNat (IntKind.wrap .i64 (a1 + n1)) * 1)) ∧ LetW (w3.setCell (q4.add (Int.toNat (IntKind.wrap .i64 (a1 + n1)) * 1)) (.bool a3)) fun w5 => J2 (IntKind.wrap .i64 (n1 + 1)) w5) (K (.tuple #[]) w3)) ((0 : Int), ()) w
theorem eq183 (a0 : Sl) (a1 : Int) (a2 : Int) (a3 : Bool) (w : World) (K : Value → World → Prop) : denFn Try.prog tt Try.f183 an183 [.slice a0.a a0.len a0.cap, .int .i64 a1, .int .i64 a2, .bool a3] w K = W183 a0 a1 a2 a3 w K := by kernel_rfl
theorem ok183 : OkFn Try.prog 183 := ⟨Try.f183, Try.func183, by kernel_rfl, by kernel_rfl⟩
theorem go183 {a0 : Sl} {a1 : Int} {a2 : Int} {a3 : Bool} {w : World} {K : Value → World → Prop} (h : W183 a0 a1 a2 a3 w K) : CallW Try.prog 183 #[.slice a0.a a0.len a0.cap, .int .i64 a1, .int .i64 a2, .bool a3] w K :=
  .inl ⟨ok183, denFn_sound tt_ok mix Try.func183 (by kernel_rfl) (eq183 a0 a1 a2 a3 w K ▸ h)⟩

/- loop.example/g00008/impl.framesOf$1 -/
def an184 : Ann := (.seq .leaf (.seq (.seq .leaf (.cond .leaf .leaf)) (.seq (.seq (.reg [(7, none), (9, some (151, [(29, .bool)]))]) (.cond (.seq .leaf .leaf) .leaf)) (.seq (.seq .leaf (.cond .leaf .leaf)) (.seq .leaf .leaf)))))
def W184 (a0 : Int) (a1 : Int) (c0 : Addr) (c1 : Addr) (c2 : Addr) (w : World) (K : Value → World → Prop) : Prop :=
  0 ≤ (a1 : Int) ∧ ∃ n1 : Int, w.cell? (c0.add 0) = some (.int .i64 n1) ∧ BIf (decide ((a0 : Int) ≥ n1)) (K (.tuple #[]) w) (∃ n2 : Int, w.cell? (c0.add 0) = some (.int .i64 n2) ∧ JoinW [.bool] (fun J4 => BIf (decide ((IntKind.wrap .i64 (a0 + (shlI .i64 1 a1)) : Int) ≤ n2)) (∃ l17 : Sl, w.cell? c1 = some (.slice l17.a l17.len l17.cap) ∧ 0 ≤ (IntKind.wrap .i64 (a0 + (shlI .i64 1 a1)) : Int) ∧ (IntKind.wrap .i64 (a0 + (shlI .i64 1 a1)) : Int) ≤ ((l17.cap : Nat) : Int) ∧ 0 ≤ (a0 : Int) ∧ (a0 : Int) ≤ (IntKind.wrap .i64 (a0 + (shlI .i64 1 a1)) : Int) ∧ CallW Try.prog 185 #[.slice (cutA l17.a l17.cap (Int.toNat a0) 1) (Int.toNat (IntKind.wrap .i64 (a0 + (shlI .i64 1 a1))) - Int.toNat a0) (l17.cap - Int.toNat a0), .bool false] w fun v18 w19 => ∃ b20 : Bool, v18 = .bool b20 ∧ J4 (!b20) w19) (J4 false w)) (fun (b3 : Bool) w5 => BIf b3 (∃ l6 : Sl, w5.cell? (c0.add 1) = some (.slice l6.a l6.len l6.cap) ∧ LetW (w5.alloc (.cells #[.int .i64 a0, .int .i64 a1] 123)) fun w7 => AppendW 123 ti123 l6 ⟨some ⟨w5.heap.size, 0, none⟩, 1, 1⟩ w7 fun l8 w9 => May w9 (c0.add 1) ∧ LetW (w9.setCell (c0.add 1) (.slice l8.a l8.len l8.cap)) fun w10 => K (.tuple #[]) w10) (BIf ((a1 : Int) == 0) (K (.tuple #[]) w5) (∃ f11 : FnV, w5.cell? c2 = some (.func (.func f11.g) ⟨f11.x⟩ ⟨f11.c⟩) ∧ CallW Try.prog f11.g ⟨f11.x ++ ([.int .i64 a0, .int .i64 (IntKind.wrap .i64 (a1 - 1))] ++ f11.c)⟩ w5 fun v12 w13 => v12 = .tuple #[] ∧ ∃ f14 : FnV, w13.cell? c2 = some (.func (.func f14.g) ⟨f14.x⟩ ⟨f14.c⟩) ∧ (2 : Int) ≠ 0 ∧ CallW Try.prog f14.g ⟨f14.x ++ ([.int .i64 (IntKind.wrap .i64 (a0 + (IntKind.wrap .i64 (Int.tdiv (shlI .i64 1 a1) 2)))), .int .i64 (IntKind.wrap .i64 (a1 - 1))] ++ f14.c)⟩ w13 fun v15 w16 => v15 = .tuple #[] ∧ K (.tuple #[]) w16))))
theorem eq184 (a0 : Int) (a1 : Int) (c0 : Addr) (c1 : Addr) (c2 : Addr) (w : World) (K : Value → World → Prop) : denFn Try.prog tt Try.f184 an184 [.int .i64 a0, .int .i64 a1, .pointer (some c0), .pointer (some c1), .pointer (some c2)] w K = W184 a0 a1 c0 c1 c2 w K := by kernel_rfl
theorem ok184 : OkFn Try.prog 184 := ⟨Try.f184, Try.func184, by kernel_rfl, by kernel_rfl⟩
theorem go184 {a0 : Int} {a1 : Int} {c0 : Addr} {c1 : Addr} {c2 : Addr} {w : World} {K : Value → World → Prop} (h : W184 a0 a1 c0 c1 c2 w K) : CallW Try.prog 184 #[.int .i64 a0, .int .i64 a1, .pointer (some c0), .pointer (some c1), .pointer (some c2)] w K :=
  .inl ⟨ok184, denFn_sound tt_ok mix Try.func184 (by kernel_rfl) (eq184 a0 a1 c0 c1 c2 w K ▸ h)⟩

/- slices.Contains[[]bool,bool] -/
def an185 : Ann := (.seq .leaf (.seq .leaf .leaf))
def W185 (a0 : Sl) (a1 : Bool) (w : World) (K : Value → World → Prop) : Prop :=
  CallW Try.prog 199 #[.slice a0.a a0.len a0.cap, .bool a1] w fun v1 w2 => ∃ n3 : Int, v1 = .int .i64 n3 ∧ K (.bool (decide ((n3 : Int) ≥ 0))) w2
theorem eq185 (a0 : Sl) (a1 : Bool) (w : World) (K : Value → World → Prop) : denFn Try.prog tt Try.f185 an185 [.slice a0.a a0.len a0.cap, .bool a1] w K = W185 a0 a1 w K := by kernel_rfl
theorem ok185 : OkFn Try.prog 185 := ⟨Try.f185, Try.func185, by kernel_rfl, by kernel_rfl⟩
theorem go185 {a0 : Sl} {a1 : Bool} {w : World} {K : Value → World → Prop} (h : W185 a0 a1 w K) : CallW Try.prog 185 #[.slice a0.a a0.len a0.cap, .bool a1] w K :=
  .inl ⟨ok185, denFn_sound tt_ok mix Try.func185 (by kernel_rfl) (eq185 a0 a1 w K ▸ h)⟩

/- loop.example/g00008/spec.l6Kind -/
def an186 : Ann := (.seq .leaf (.seq (.seq .leaf (.cond (.seq .leaf .leaf) .leaf)) (.seq .leaf (.seq (.seq (.reg [(3, none), (8, some (34, [(25, .bool)]))]) (.cond (.seq .leaf .leaf) .leaf)) (.seq (.seq (.reg [(4, none), (4, some (34, [(33, .bool)])), (1, none), (4, some (34, [(38, .bool)]))]) (.cond (.seq (.seq (.reg [(3, none), (3, some (34, [(44, .bool)])), (1, none), (3, some (2, [(48, .bool)])), (1, none), (3, some (0, [(52, .bool)]))]) (.cond (.seq .leaf .leaf) .leaf)) (.seq .leaf .leaf)) .leaf)) (.seq (.seq (.draw [0, 1, 0, 4, 15, 31] [0, 1, 2, 3, 4, 5]) (.cond (.seq .leaf .leaf) .leaf)) (.seq .leaf .leaf)))))))
def W186 (a0 : Int) (a1 : Int) (w : World) (K : Value → World → Prop) : Prop :=
  CallW Try.prog 173 #[.int .u64 a0, .int .i64 0] w fun v1 w2 => ∃ b3 : Bool, v1 = .bool b3 ∧ BIf (!b3) (K (.int .i64 (-4)) w2) (CallW Try.prog 123 #[.int .u64 a0] w2 fun v4 w5 => ∃ b6 : Bool, ∃ b7 : Bool, ∃ b8 : Bool, ∃ b9 : Bool, ∃ b10 : Bool, ∃ b11 : Bool, ∃ b12 : Bool, ∃ b13 : Bool, ∃ n14 : Int, ∃ b15 : Bool, v4 = .tuple #[.agg #[.bool b6, .bool b7, .bool b8, .bool b9, .bool b10, .bool b11, .bool b12, .bool b13, .int .i64 n14], .bool b15] ∧ LetW (w5.alloc (.cells #[.bool false, .bool false, .bool false, .bool false, .bool false, .bool false, .bool false, .bool false, .int .i64 0] 81)) fun w16 => MayN w16 ⟨w5.heap.size, 0, none⟩ 9 ∧ LetW (puts w16 ⟨w5.heap.size, 0, none⟩ 0 [.bool b6, .bool b7, .bool b8, .bool b9, .bool b10, .bool b11, .bool b12, .bool b13, .int .i64 n14]) fun w17 => JoinW [.bool] (fun J19 => BIf (!b15) (J19 true w17) (∃ b47 : Bool, w17.cell? ⟨w5.heap.size, 2, none⟩ = some (.bool b47) ∧ BIf b47 (∃ b48 : Bool, w17.cell? ⟨w5.heap.size, 1, none⟩ = some (.bool b48) ∧ J19 (!b48) w17) (J19 false w17))) (fun (b18 : Bool) w20 => BIf b18 (K (.int .i64 (-5)) w20) (∃ b21 : Bool, w20.cell? ⟨w5.heap.size, 1, none⟩ = some (.bool b21) ∧ JoinW [.bool] (fun J23 => BIf (!b21) (∃ b46 : Bool, w20.cell? ⟨w5.heap.size, 2, none⟩ = some (.bool b46) ∧ J23 (!b46) w20) (J23 false w20)) (fun (b22 : Bool) w24 => JoinW [.bool] (fun J26 => BIf b22 (∃ b45 : Bool, w24.cell? ⟨w5.heap.size, 3, none⟩ = some (.bool b45) ∧ J26 (!b45) w24) (J26 false w24)) (fun (b25 : Bool) w27 => BIf b25 (∃ b28 : Bool, w27.cell? ⟨w5.heap.size, 4, none⟩ = some (.bool b28) ∧ JoinW [.bool] (fun J30 => BIf b28 (J30 true w27) (∃ b39 : Bool, w27.cell? ⟨w5.heap.size, 5, none⟩ = some (.bool b39) ∧ J30 b39 w27)) (fun (b29 : Bool) w31 => JoinW [.bool] (fun J33 => BIf b29 (J33 true w31) (∃ b38 : Bool, w31.cell? ⟨w5.heap.size, 6, none⟩ = some (.bool b38) ∧ J33 b38 w31)) (fun (b32 : Bool) w34 => JoinW [.bool] (fun J36 => BIf b32 (J36 true w34) (J36 ((a1 : Int) == 0) w34)) (fun (b35 : Bool) w37 => BIf b35 (K (.int .i64 (-5)) w37) (K (.int .i64 0) w37))))) (∃ n40 : Int, w27.drew.cell? ⟨w5.heap.size, 8, none⟩ = some (.int .i64 n40) ∧ CallW Try.prog 177 #[.int .i64 a1] w27.drew fun v41 w42 => ∃ n43 : Int, v41 = .int .i64 n43 ∧ (∃ n44 : Int, w42.cell? ⟨w5.heap.size, 8, none⟩ = some (.int .i64 n44) ∧ (.int .i64 n44 : Value) = (.int .i64 n40 : Value)) ∧ (n43 : Int) ≠ 0 ∧ BIf ((Int.tmod n40 n43 : Int) != 0) (K (.int .i64 (-6)) w42) (K (.int .i64 1) w42)))))))
theorem eq186 (a0 : Int) (a1 : Int) (w : World) (K : Value → World → Prop) : denFn Try.prog tt Try.f186 an186 [.int .u64 a0, .int .i64 a1] w K = W186 a0 a1 w K := by kernel_rfl
theorem ok186 : OkFn Try.prog 186 := ⟨Try.f186, Try.func186, by kernel_rfl, by kernel_rfl⟩
theorem go186 {a0 : Int} {a1 : Int} {w : World} {K : Value → World → Prop} (h : W186 a0 a1 w K) : CallW Try.prog 186 #[.int .u64 a0, .int .i64 a1] w K :=
  .inl ⟨ok186, denFn_sound tt_ok mix Try.func186 (by kernel_rfl) (eq186 a0 a1 w K ▸ h)⟩

/- loop.example/g00008/laws.toBlock -/
def an187 : Ann := (.seq .leaf (.seq .leaf (.seq .leaf (.seq .leaf (.seq .leaf .leaf)))))
def W187 (a0_0 : Int) (a0_1 : Int) (w : World) (K : Value → World → Prop) : Prop :=
  LetW (w.alloc (.cells #[.int .i64 a0_0, .int .i64 a0_1] 211)) fun w1 => LetW (w1.alloc (.cells #[.int .i64 0, .int .i64 0] 123)) fun w2 => LetW (w2.alloc (.cells #[.int .i64 0, .int .i64 0] 123)) fun w3 => ∃ n4 : Int, w3.cell? ⟨w.heap.size, 0, none⟩ = some (.int .i64 n4) ∧ May w3 ⟨w2.heap.size, 0, none⟩ ∧ LetW (w3.setCell ⟨w2.heap.size, 0, none⟩ (.int .i64 n4)) fun w5 => ∃ n6 : Int, w5.cell? ⟨w.heap.size, 1, none⟩ = some (.int .i64 n6) ∧ May w5 ⟨w2.heap.size, 1, none⟩ ∧ LetW (w5.setCell ⟨w2.heap.size, 1, none⟩ (.int .i64 n6)) fun w7 => ∃ n8 : Int, w7.cell? ⟨w2.heap.size, 0, none⟩ = some (.int .i64 n8) ∧ ∃ n9 : Int, w7.cell? ⟨w2.heap.size, 1, none⟩ = some (.int .i64 n9) ∧ MayN w7 ⟨w1.heap.size, 0, none⟩ 2 ∧ LetW (puts w7 ⟨w1.heap.size, 0, none⟩ 0 [.int .i64 n8, .int .i64 n9]) fun w10 => ∃ n11 : Int, w10.cell? ⟨w1.heap.size, 0, none⟩ = some (.int .i64 n11) ∧ ∃ n12 : Int, w10.cell? ⟨w1.heap.size, 1, none⟩ = some (.int .i64 n12) ∧ K (.agg #[.int .i64 n11, .int .i64 n12]) w10
theorem eq187 (a0_0 : Int) (a0_1 : Int) (w : World) (K : Value → World → Prop) : denFn Try.prog tt Try.f187 an187 [.agg #[.int .i64 a0_0, .int .i64 a0_1]] w K = W187 a0_0 a0_1 w K := by kernel_rfl
theorem ok187 : OkFn Try.prog 187 := ⟨Try.f187, Try.func187, by kernel_rfl, by kernel_rfl⟩
theorem go187 {a0_0 : Int} {a0_1 : Int} {w : World} {K : Value → World → Prop} (h : W187 a0_0 a0_1 w K) : CallW Try.prog 187 #[.agg #[.int .i64 a0_0, .int .i64 a0_1]] w K :=
  .inl ⟨ok187, denFn_sound tt_ok mix Try.func187 (by kernel_rfl) (eq187 a0_0 a0_1 w K ▸ h)⟩

/- loop.example/g00008/laws.eqBlock -/
def an188 : Ann := (.seq .leaf (.seq (.seq .leaf (.cond (.seq .leaf .leaf) .leaf)) (.seq (.seq .leaf (.cond (.seq .leaf .leaf) .leaf)) (.seq .leaf .leaf))))
def W188 (a0_0 : Int) (a0_1 : Int) (a1_0 : Int) (a1_1 : Int) (w : World) (K : Value → World → Prop) : Prop :=
  LetW (w.alloc (.cells #[.int .i64 a0_0, .int .i64 a0_1] 123)) fun w1 => LetW (w1.alloc (.cells #[.int .i64 a1_0, .int .i64 a1_1] 123)) fun w2 => ∃ n3 : Int, w2.cell? ⟨w.heap.size, 0, none⟩ = some (.int .i64 n3) ∧ ∃ n4 : Int, w2.cell? ⟨w1.heap.size, 0, none⟩ = some (.int .i64 n4) ∧ BIf ((n3 : Int) != n4) (K (.bool false) w2) (∃ n5 : Int, w2.cell? ⟨w.heap.size, 1, none⟩ = some (.int .i64 n5) ∧ ∃ n6 : Int, w2.cell? ⟨w1.heap.size, 1, none⟩ = some (.int .i64 n6) ∧ BIf ((n5 : Int) != n6) (K (.bool false) w2) (K (.bool true) w2))
theorem eq188 (a0_0 : Int) (a0_1 : Int) (a1_0 : Int) (a1_1 : Int) (w : World) (K : Value → World → Prop) : denFn Try.prog tt Try.f188 an188 [.agg #[.int .i64 a0_0, .int .i64 a0_1], .agg #[.int .i64 a1_0, .int .i64 a1_1]] w K = W188 a0_0 a0_1 a1_0 a1_1 w K := by kernel_rfl
theorem ok188 : OkFn Try.prog 188 := ⟨Try.f188, Try.func188, by kernel_rfl, by kernel_rfl⟩
theorem go188 {a0_0 : Int} {a0_1 : Int} {a1_0 : Int} {a1_1 : Int} {w : World} {K : Value → World → Prop} (h : W188 a0_0 a0_1 a1_0 a1_1 w K) : CallW Try.prog 188 #[.agg #[.int .i64 a0_0, .int .i64 a0_1], .agg #[.int .i64 a1_0, .int .i64 a1_1]] w K :=
  .inl ⟨ok188, denFn_sound tt_ok mix Try.func188 (by kernel_rfl) (eq188 a0_0 a0_1 a1_0 a1_1 w K ▸ h)⟩

/- loop.example/g00008/impl.sizeOk -/
def an190 : Ann := (.seq .leaf (.seq (.reg [(3, none), (3, some (1, [(8, .bool)])), (1, none), (3, some (1, [(12, .bool)])), (1, none), (3, some (0, [(16, .bool)])), (1, none)]) .leaf))
def W190 (a0 : Int) (w : World) (K : Value → World → Prop) : Prop :=
  JoinW [.bool] (fun J2 => BIf ((a0 : Int) == 1) (J2 true w) (J2 ((a0 : Int) == 2) w)) (fun (b1 : Bool) w3 => JoinW [.bool] (fun J5 => BIf b1 (J5 true w3) (J5 ((a0 : Int) == 4) w3)) (fun (b4 : Bool) w6 => JoinW [.bool] (fun J8 => BIf b4 (J8 true w6) (J8 ((a0 : Int) == 8) w6)) (fun (b7 : Bool) w9 => K (.bool b7) w9)))
theorem eq190 (a0 : Int) (w : World) (K : Value → World → Prop) : denFn Try.prog tt Try.f190 an190 [.int .i64 a0] w K = W190 a0 w K := by kernel_rfl
theorem ok190 : OkFn Try.prog 190 := ⟨Try.f190, Try.func190, by kernel_rfl, by kernel_rfl⟩
theorem go190 {a0 : Int} {w : World} {K : Value → World → Prop} (h : W190 a0 w K) : CallW Try.prog 190 #[.int .i64 a0] w K :=
  .inl ⟨ok190, denFn_sound tt_ok mix Try.func190 (by kernel_rfl) (eq190 a0 w K ▸ h)⟩

/- loop.example/g00008/impl.inside -/
def an191 : Ann := (.seq .leaf (.seq (.reg [(3, none), (3, some (7, [(12, .bool)])), (1, none), (4, some (7, [(17, .bool)])), (1, none), (6, some (0, [(24, .bool)])), (1, none)]) .leaf))
def W191 (a0 : Int) (a1 : Int) (a2 : Int) (w : World) (K : Value → World → Prop) : Prop :=
  JoinW [.bool] (fun J2 => BIf (decide ((a1 : Int) ≥ 0)) (J2 (decide ((a2 : Int) ≥ 0)) w) (J2 false w)) (fun (b1 : Bool) w3 => JoinW [.bool] (fun J5 => BIf b1 (J5 (decide ((a1 : Int) ≤ a0)) w3) (J5 false w3)) (fun (b4 : Bool) w6 => JoinW [.bool] (fun J8 => BIf b4 (J8 (decide ((a2 : Int) ≤ (IntKind.wrap .i64 (a0 - a1)))) w6) (J8 false w6)) (fun (b7 : Bool) w9 => K (.bool b7) w9)))
theorem eq191 (a0 : Int) (a1 : Int) (a2 : Int) (w : World) (K : Value → World → Prop) : denFn Try.prog tt Try.f191 an191 [.int .i64 a0, .int .i64 a1, .int .i64 a2] w K = W191 a0 a1 a2 w K := by kernel_rfl
theorem ok191 : OkFn Try.prog 191 := ⟨Try.f191, Try.func191, by kernel_rfl, by kernel_rfl⟩
theorem go191 {a0 : Int} {a1 : Int} {a2 : Int} {w : World} {K : Value → World → Prop} (h : W191 a0 a1 a2 w K) : CallW Try.prog 191 #[.int .i64 a0, .int .i64 a1, .int .i64 a2] w K :=
  .inl ⟨ok191, denFn_sound tt_ok mix Try.func191 (by kernel_rfl) (eq191 a0 a1 a2 w K ▸ h)⟩

/- loop.example/g00008/spec.l1Pow -/
def an193 : Ann := (.seq .leaf (.seq .leaf (.seq (.seq .leaf (.in_ (.loop 1 [(3, .int .u64), (4, .int .i64)] (.seq (.seq .leaf (.cond .leaf .leaf)) (.seq (.in_ .leaf) .leaf))))) (.seq .leaf .leaf))))
def W193 (a0 : Int) (w : World) (K : Value → World → Prop) : Prop :=
  LoopW [.int .u64, .int .i64] (fun J3 => fun (n1 : Int) (n2 : Int) w4 => BIf (decide ((n2 : Int) < a0)) (J3 (IntKind.wrap .u64 (n1 * 2)) (IntKind.wrap .i64 (n2 + 1)) w4) (K (.int .u64 n1) w4)) ((1 : Int), ((0 : Int), ())) w
theorem eq193 (a0 : Int) (w : World) (K : Value → World → Prop) : denFn Try.prog tt Try.f193 an193 [.int .i64 a0] w K = W193 a0 w K := by kernel_rfl
theorem ok193 : OkFn Try.prog 193 := ⟨Try.f193, Try.func193, by kernel_rfl, by kernel_rfl⟩
theorem go193 {a0 : Int} {w : World} {K : Value → World → Prop} (h : W193 a0 w K) : CallW Try.prog 193 #[.int .i64 a0] w K :=
  .inl ⟨ok193, denFn_sound tt_ok mix Try.func193 (by kernel_rfl) (eq193 a0 w K ▸ h)⟩

/- loop.example/g00008/spec.l1Bit -/
def an194 : Ann := (.seq .leaf (.seq .leaf .leaf))
def W194 (a0 : Int) (a1 : Int) (w : World) (K : Value → World → Prop) : Prop :=
  CallW Try.prog 193 #[.int .i64 a1] w fun v1 w2 => ∃ n3 : Int, v1 = .int .u64 n3 ∧ (n3 : Int) ≠ 0 ∧ (2 : Int) ≠ 0 ∧ K (.int .u64 (Int.tmod (IntKind.wrap .u64 (Int.tdiv a0 n3)) 2)) w2
theorem eq194 (a0 : Int) (a1 : Int) (w : World) (K : Value → World → Prop) : denFn Try.prog tt Try.f194 an194 [.int .u64 a0, .int .i64 a1] w K = W194 a0 a1 w K := by kernel_rfl
theorem ok194 : OkFn Try.prog 194 := ⟨Try.f194, Try.func194, by kernel_rfl, by kernel_rfl⟩
theorem go194 {a0 : Int} {a1 : Int} {w : World} {K : Value → World → Prop} (h : W194 a0 a1 w K) : CallW Try.prog 194 #[.int .u64 a0, .int .i64 a1] w K :=
  .inl ⟨ok194, denFn_sound tt_ok mix Try.func194 (by kernel_rfl) (eq194 a0 a1 w K ▸ h)⟩

/- loop.example/g00008/spec.l1SizeOk -/
def an195 : Ann := (.seq .leaf (.seq (.reg [(3, none), (3, some (1, [(8, .bool)])), (1, none), (3, some (1, [(12, .bool)])), (1, none), (3, some (0, [(16, .bool)])), (1, none)]) .leaf))
def W195 (a0 : Int) (w : World) (K : Value → World → Prop) : Prop :=
  JoinW [.bool] (fun J2 => BIf ((a0 : Int) == 1) (J2 true w) (J2 ((a0 : Int) == 2) w)) (fun (b1 : Bool) w3 => JoinW [.bool] (fun J5 => BIf b1 (J5 true w3) (J5 ((a0 : Int) == 4) w3)) (fun (b4 : Bool) w6 => JoinW [.bool] (fun J8 => BIf b4 (J8 true w6) (J8 ((a0 : Int) == 8) w6)) (fun (b7 : Bool) w9 => K (.bool b7) w9)))
theorem eq195 (a0 : Int) (w : World) (K : Value → World → Prop) : denFn Try.prog tt Try.f195 an195 [.int .i64 a0] w K = W195 a0 w K := by kernel_rfl
theorem ok195 : OkFn Try.prog 195 := ⟨Try.f195, Try.func195, by kernel_rfl, by kernel_rfl⟩
theorem go195 {a0 : Int} {w : World} {K : Value → World → Prop} (h : W195 a0 w K) : CallW Try.prog 195 #[.int .i64 a0] w K :=
  .inl ⟨ok195, denFn_sound tt_ok mix Try.func195 (by kernel_rfl) (eq195 a0 w K ▸ h)⟩

/- slices.Index[[]bool,bool] -/
def an199 : Ann := (.seq .leaf (.seq (.seq .leaf (.in_ (.loop 131 [(8, .int .i64)] (.seq .leaf (.seq (.cond .leaf .leaf) (.seq (.in_ (.seq .leaf (.seq .leaf (.cond (.seq .leaf .leaf) .leaf)))) .leaf)))))) (.seq .leaf .leaf)))
def W199 (a0 : Sl) (a1 : Bool) (w : World) (K : Value → World → Prop) : Prop :=
  LoopW [.int .i64] (fun J2 => fun (n1 : Int) w3 => BIf (decide ((n1 : Int) < ((a0.len : Nat) : Int))) (0 ≤ (n1 : Int) ∧ (n1 : Int) < ((a0.len : Nat) : Int) ∧ ∃ q4 : Addr, (a0.a : Option Addr) = some q4 ∧ ∃ b5 : Bool, w3.cell? (q4.add (Int.toNat n1 * 1)) = some (.bool b5) ∧ BIf (a1 == b5) (K (.int .i64 n1) w3) (J2 (IntKind.wrap .i64 (n1 + 1)) w3)) (K (.int .i64 (-1)) w3)) ((0 : Int), ()) w
theorem eq199 (a0 : Sl) (a1 : Bool) (w : World) (K : Value → World → Prop) : denFn Try.prog tt Try.f199 an199 [.slice a0.a a0.len a0.cap, .bool a1] w K = W199 a0 a1 w K := by kernel_rfl
theorem ok199 : OkFn Try.prog 199 := ⟨Try.f199, Try.func199, by kernel_rfl, by kernel_rfl⟩
theorem go199 {a0 : Sl} {a1 : Bool} {w : World} {K : Value → World → Prop} (h : W199 a0 a1 w K) : CallW Try.prog 199 #[.slice a0.a a0.len a0.cap, .bool a1] w K :=
  .inl ⟨ok199, denFn_sound tt_ok mix Try.func199 (by kernel_rfl) (eq199 a0 a1 w K ▸ h)⟩

end Go.Proofs.Ytkgoanjemhbjgaa

/- The types of the laws' parameters, as values of Lean's. Conditions: none. -/
set_option linter.unusedVariables false
set_option maxRecDepth 100000
namespace Go.Proofs.Ytkgoanjemhbjgaa
open Go Go.Den
theorem o5 : Opens Try.prog 5 (cInt .u8) := opens_int Try.underlying5
theorem o22 : Opens Try.prog 22 (cSlice (cInt .u8)) := opens_slice Try.underlying22 (by kernel_rfl) o5
theorem o2 : Opens Try.prog 2 (cInt .i64) := opens_int Try.underlying2
structure DBlock where
  At : Int
  Order : Int
def cDBlock : Cod DBlock := cMap (cPair (cInt .i64) (cPair (cInt .i64) cUnit)) (fun x => ⟨x.1, x.2.1⟩)
abbrev TyBlock : Ty := .st [(.int .i64), (.int .i64)]
def DBlock.dat (x : DBlock) : Dat := .st [.int .i64 x.At, .int .i64 x.Order]
theorem cDBlock_dat {w : World} {cs : List Value} {x : DBlock} (h : cDBlock.is w cs x) : IsD w x.dat cs := by
  obtain ⟨y, rfl, ⟨a0, b0, rfl, _, h0, ⟨a1, b1, rfl, _, h1, z⟩⟩⟩ := h
  exact isD_mkSt (isF_mk (isD_mkInt h0) (isF_mk (isD_mkInt h1) (isF_mk0 z)))
theorem DBlock.has (x : DBlock) : Has TyBlock x.dat := mk_st (mkF_cons (mk_int) (mkF_cons (mk_int) (mkF_nil)))
theorem DBlock.is_cells {w : World} {cs : List Value} {x : DBlock} (h : IsD w x.dat cs) : cs = [.int .i64 x.At, .int .i64 x.Order] := by
  have q := isD_st h
  obtain ⟨_, _, rfl, i0, q⟩ := isF_cons q
  obtain ⟨_, _, rfl, i1, q⟩ := isF_cons q
  obtain rfl := isF_nil q
  obtain ⟨rfl, _⟩ := isD_int i0
  obtain ⟨rfl, _⟩ := isD_int i1
  rfl
def DBlock.cells (x : DBlock) : List Value := [.int .i64 x.At, .int .i64 x.Order]
theorem o211 : Opens Try.prog 211 cDBlock := opens_map _ (opens_struct Try.underlying211 (by kernel_rfl) (opensF_cons rfl (by kernel_rfl) o2 (opensF_cons rfl (by kernel_rfl) o2 opensF_nil)))
theorem o54 : Opens Try.prog 54 (cSlice cDBlock) := opens_slice Try.underlying54 (by kernel_rfl) o211
structure DFrames where
  Total : Int
  Free : List DBlock
def cDFrames : Cod DFrames := cMap (cPair (cInt .i64) (cPair (cSlice cDBlock) cUnit)) (fun x => ⟨x.1, x.2.1⟩)
abbrev TyFrames : Ty := .st [(.int .i64), (.sl 2 TyBlock)]
def DFrames.dat (x : DFrames) : Dat := .st [.int .i64 x.Total, .sl 2 (x.Free.map (DBlock.dat))]
theorem cDFrames_dat {w : World} {cs : List Value} {x : DFrames} (h : cDFrames.is w cs x) : IsD w x.dat cs := by
  obtain ⟨y, rfl, ⟨a0, b0, rfl, _, h0, ⟨a1, b1, rfl, _, h1, z⟩⟩⟩ := h
  exact isD_mkSt (isF_mk (isD_mkInt h0) (isF_mk (isD_mkSl (f := DBlock.dat) h1 (fun es x hx => cDBlock_dat hx)) (isF_mk0 z)))
theorem DFrames.has (x : DFrames) : Has TyFrames x.dat := mk_st (mkF_cons (mk_int) (mkF_cons (mk_sl (fun e he => by obtain ⟨y, _, rfl⟩ := List.mem_map.1 he; exact DBlock.has _)) (mkF_nil)))
theorem o56 : Opens Try.prog 56 cDFrames := opens_map _ (opens_struct Try.underlying56 (by kernel_rfl) (opensF_cons rfl (by kernel_rfl) o2 (opensF_cons rfl (by kernel_rfl) o54 opensF_nil)))
structure DPool where
  Mem : List Int
  Free : DFrames
def cDPool : Cod DPool := cMap (cPair (cSlice (cInt .u8)) (cPair cDFrames cUnit)) (fun x => ⟨x.1, x.2.1⟩)
abbrev TyPool : Ty := .st [(.sl 1 (.int .u8)), TyFrames]
def DPool.dat (x : DPool) : Dat := .st [.sl 1 (x.Mem.map (Dat.int .u8)), x.Free.dat]
theorem cDPool_dat {w : World} {cs : List Value} {x : DPool} (h : cDPool.is w cs x) : IsD w x.dat cs := by
  obtain ⟨y, rfl, ⟨a0, b0, rfl, _, h0, ⟨a1, b1, rfl, _, h1, z⟩⟩⟩ := h
  exact isD_mkSt (isF_mk (isD_mkSl (f := Dat.int .u8) h0 (fun es x hx => isD_mkInt hx)) (isF_mk (cDFrames_dat h1) (isF_mk0 z)))
theorem DPool.has (x : DPool) : Has TyPool x.dat := mk_st (mkF_cons (mk_sl (fun e he => by obtain ⟨y, _, rfl⟩ := List.mem_map.1 he; exact mk_int)) (mkF_cons (DFrames.has _) (mkF_nil)))
theorem o58 : Opens Try.prog 58 cDPool := opens_map _ (opens_struct Try.underlying58 (by kernel_rfl) (opensF_cons rfl (by kernel_rfl) o22 (opensF_cons rfl (by kernel_rfl) o56 opensF_nil)))
end Go.Proofs.Ytkgoanjemhbjgaa

/- Spaces: words and entries of memory, on both sides. Conditions: none. -/
set_option linter.unusedVariables false
set_option linter.unusedSimpArgs false
namespace Go.Proofs.Ytkgoanjemhbjgaa
open Go Go.Den
def byt (m : List Int) (i : Int) : Int := m.getD i.toNat 0
/-- Bytes that are lent. -/
structure Bytes (w : World) (s : Sl) (m : List Int) : Prop where
  len : s.len = m.length
  cap : s.len ≤ s.cap
  row : RowAt w s.a s.len (m.map (Value.int .u8))
  rng : ∀ x, x ∈ m → 0 ≤ x ∧ x ≤ 255
  small : m.length ≤ 1099511627776
theorem Bytes.ext {w w' : World} {s : Sl} {m : List Int} (h : Bytes w s m) (e : Ext w w') : Bytes w' s m := ⟨h.len, h.cap, e.row h.row, h.rng, h.small⟩
theorem Bytes.at {w : World} {s : Sl} {m : List Int} (h : Bytes w s m) {i : Int} (h0 : 0 ≤ i) (h1 : i < m.length) : ∃ p, s.a = some p ∧ w.cell? (p.add (i.toNat * 1)) = some (.int .u8 (byt m i)) := by
  have hi : i.toNat < m.length := by omega
  obtain ⟨p, hp, hc⟩ := h.row.cell (i := i.toNat) (v := .int .u8 (byt m i)) (by rw [List.getElem?_map, List.getElem?_eq_getElem hi]; simp [byt, List.getD_eq_getElem?_getD, List.getElem?_eq_getElem hi])
  exact ⟨p, hp, by rw [Nat.mul_one]; exact hc⟩
theorem byt_rng {m : List Int} (h : ∀ x, x ∈ m → 0 ≤ x ∧ x ≤ 255) (i : Int) : 0 ≤ byt m i ∧ byt m i ≤ 255 := by
  unfold byt
  rw [List.getD_eq_getElem?_getD]
  cases hx : m[i.toNat]? with
  | none => simp
  | some x => exact h x (List.mem_of_getElem? hx)
def hornr (m : List Int) (at_ : Int) : Nat → Int → Int
  | 0, x => x
  | i + 1, x => hornr m at_ i (x * 256 + byt m (at_ + (i : Int)))
def word (m : List Int) (at_ : Int) : Int := hornr m at_ 8 0
def B256 : Nat → Int
  | 0 => 1
  | n + 1 => 256 * B256 n
theorem B256_le : ∀ n, n ≤ 8 → 1 ≤ B256 n ∧ B256 n ≤ 18446744073709551616 := by decide
theorem hornr_rng {m : List Int} (hm : ∀ x, x ∈ m → 0 ≤ x ∧ x ≤ 255) (at_ : Int) : ∀ (k : Nat) (x : Int), k ≤ 8 → 0 ≤ x → x < B256 (8 - k) → 0 ≤ hornr m at_ k x ∧ hornr m at_ k x < 18446744073709551616
  | 0, x, hk, h0, h1 => ⟨h0, by have : B256 (8 - 0) = 18446744073709551616 := by decide
                                unfold hornr; omega⟩
  | k + 1, x, hk, h0, h1 => by
    have hb := byt_rng hm (at_ + (k : Int))
    have e : B256 (8 - k) = 256 * B256 (8 - (k + 1)) := by rw [show 8 - k = (8 - (k + 1)) + 1 by omega]; rfl
    exact hornr_rng hm at_ k _ (by omega) (by omega) (by omega)
theorem word_rng {m : List Int} (hm : ∀ x, x ∈ m → 0 ≤ x ∧ x ≤ 255) (at_ : Int) : 0 ≤ word m at_ ∧ word m at_ < 18446744073709551616 := hornr_rng hm at_ 8 0 (by omega) (by omega) (by decide)
/-! ## Bits -/
theorem ofInt_nat {y : Int} (h0 : 0 ≤ y) (h1 : y < 18446744073709551616) : (BitVec.ofInt 64 y).toNat = y.toNat := by
  rw [BitVec.toNat_ofInt]
  have : y % ((2 ^ 64 : Nat) : Int) = y := Int.emod_eq_of_lt h0 (by simpa using h1)
  rw [this]
theorem and_mask {y : Int} (k : Nat) (hk : k ≤ 62) (h0 : 0 ≤ y) (h1 : y < 18446744073709551616) : andI .u64 y ((2 ^ k - 1 : Nat) : Int) = y % ((2 ^ k : Nat) : Int) := by
  have hp : 2 ^ k ≤ 2 ^ 62 := Nat.pow_le_pow_right (by omega) hk
  have hp1 : 1 ≤ 2 ^ k := Nat.one_le_two_pow
  unfold andI
  show IntKind.u64.wrap ((BitVec.ofInt 64 y &&& BitVec.ofInt 64 ((2 ^ k - 1 : Nat) : Int)).toNat : Int) = _
  rw [BitVec.toNat_and, ofInt_nat h0 h1, ofInt_nat (by omega) (by omega), Int.toNat_natCast, Nat.and_two_pow_sub_one_eq_mod]
  obtain ⟨n, rfl⟩ := Int.eq_ofNat_of_zero_le h0
  have := Nat.mod_lt n (show 0 < 2 ^ k by omega)
  rw [Int.toNat_natCast, ← Int.natCast_emod, wu64 (by omega) (by omega)]
theorem and_one {y : Int} (h0 : 0 ≤ y) (h1 : y < 18446744073709551616) : andI .u64 y 1 = y % 2 := and_mask 1 (by omega) h0 h1
theorem and_4095 {y : Int} (h0 : 0 ≤ y) (h1 : y < 18446744073709551616) : andI .u64 y 4095 = y % 4096 := and_mask 12 (by omega) h0 h1
theorem shr_u64 {y : Int} {n : Nat} (hn : n ≤ 63) : shrI .u64 y (n : Int) = y / ((2 ^ n : Nat) : Int) := by
  unfold shrI
  rw [Int.toNat_natCast, show min n (IntKind.u64.bits) = n from Nat.min_eq_left (by show n ≤ 64; omega)]
  rw [Int.fdiv_eq_ediv_of_nonneg _ (by exact_mod_cast Nat.zero_le _)]
  norm_cast
theorem shl_byte {v : Int} (h0 : 0 ≤ v) (h1 : v < 72057594037927936) : shlI .u64 v 8 = v * 256 := by
  unfold shlI
  show IntKind.u64.wrap (v * 2 ^ (min (Int.toNat 8) 64)) = _
  rw [show v * 2 ^ (min (Int.toNat 8) 64) = v * 256 from rfl, wu64 (by omega) (by omega)]
theorem or_byte {v b : Int} (h0 : 0 ≤ v) (h1 : v < 72057594037927936) (hb0 : 0 ≤ b) (hb1 : b ≤ 255) : orI .u64 (shlI .u64 v 8) (IntKind.wrap .u64 b) = v * 256 + b := by
  rw [shl_byte h0 h1, wu64 hb0 (by omega)]
  unfold orI
  show IntKind.u64.wrap ((BitVec.ofInt 64 (v * 256) ||| BitVec.ofInt 64 b).toNat : Int) = _
  rw [BitVec.toNat_or, ofInt_nat (by omega) (by omega), ofInt_nat (by omega) (by omega)]
  obtain ⟨n, rfl⟩ := Int.eq_ofNat_of_zero_le h0
  obtain ⟨c, rfl⟩ := Int.eq_ofNat_of_zero_le hb0
  have h := Nat.shiftLeft_add_eq_or_of_lt (show c < 2 ^ 8 by omega) n
  rw [show ((n : Int) * 256).toNat = n <<< 8 by rw [Nat.shiftLeft_eq]; omega, Int.toNat_natCast, ← h, Nat.shiftLeft_eq, wu64 (by omega) (by omega)]
  omega
/-! ## Words -/
theorem c195 {w : World} : CallW Try.prog 195 #[.int .i64 8] w (fun v w' => v = .bool true ∧ w' = w) := by
  refine go195 ?_
  unfold W195
  simp only [join_or]
  exact ⟨rfl, by trivial⟩
theorem c190 {w : World} : CallW Try.prog 190 #[.int .i64 8] w (fun v w' => v = .bool true ∧ w' = w) := by
  refine go190 ?_
  unfold W190
  simp only [join_or]
  exact ⟨rfl, by trivial⟩
theorem c191 {n a : Int} {w : World} (h0 : 0 ≤ a) (h1 : a + 8 ≤ n) (h2 : n ≤ 1099511627776) : CallW Try.prog 191 #[.int .i64 n, .int .i64 a, .int .i64 8] w (fun v w' => v = .bool true ∧ w' = w) := by
  refine go191 ?_
  unfold W191
  simp only [join_and]
  refine ⟨?_, by trivial⟩
  rw [w64 (by omega) (by omega)]
  simp
  omega
theorem c174 {s : Sl} {m : List Int} {a : Int} {w : World} (h : Bytes w s m) (h0 : 0 ≤ a) (h1 : a + 8 ≤ m.length) : CallW Try.prog 174 #[.slice s.a s.len s.cap, .int .i64 a, .int .i64 8, .bool false] w (fun v w' => v = .tuple #[.int .u64 (word m a), .bool true] ∧ w' = w) := by
  refine go174 ?_
  unfold W174
  refine c195.mono ?_
  rintro _ w ⟨rfl, rfl⟩
  have hl := h.len
  have hsm := h.small
  refine ⟨true, rfl, JoinW.each (BIf.f rfl (JoinW.each ?_))⟩
  refine BIf.f (decide_eq_false (by omega)) ?_
  refine BIf.f (decide_eq_false (by rw [w64 (by omega) (by omega)]; omega)) ?_
  refine LoopW.m2 (fun (x i : Int) w' => ∃ k : Nat, k ≤ 8 ∧ i = (k : Int) - 1 ∧ hornr m a k x = word m a ∧ 0 ≤ x ∧ x < B256 (8 - k) ∧ w' = w) (fun _ (i : Int) _ => (i + 1).toNat) ⟨8, by omega, by rw [w64 (by omega) (by omega)]; rfl, rfl, by omega, by decide, rfl⟩ ?_
  rintro (x : Int) (i : Int) w ⟨k, hk, rfl, hx, hx0, hx1, rfl⟩ J hJ
  refine BIf.dec (fun hge => ?_) (fun hlt => ?_)
  · obtain ⟨j, rfl⟩ : ∃ j, k = j + 1 := ⟨k - 1, by omega⟩
    have hb := byt_rng h.rng (a + (j : Int))
    have e : B256 (8 - j) = 256 * B256 (8 - (j + 1)) := by rw [show 8 - j = (8 - (j + 1)) + 1 by omega]; rfl
    have hB := B256_le (8 - j) (by omega)
    have hidx : IntKind.i64.wrap (a + (((j + 1 : Nat) : Int) - 1)) = a + (j : Int) := by rw [w64 (by omega) (by omega)]; omega
    rw [hidx]
    obtain ⟨p, hp, hc⟩ := h.at (i := a + (j : Int)) (by omega) (by omega)
    refine ⟨by omega, by omega, p, hp, _, hc, ?_⟩
    rw [wu64 (n := byt m (a + (j : Int))) (by omega) (by omega), wu64 (n := x * 256) (by omega) (by omega), wu64 (by omega) (by omega), w64 (by omega) (by omega)]
    exact hJ _ _ _ ⟨j, by omega, by omega, hx, by omega, by omega, rfl⟩ (by omega)
  · have hk0 : k = 0 := by omega
    subst hk0
    refine BIf.f rfl ⟨?_, rfl⟩
    have hx : x = word m a := hx
    rw [hx]
theorem c168 {s : Sl} {m : List Int} {a : Int} {w : World} (h : Bytes w s m) (h0 : 0 ≤ a) (h1 : a + 8 ≤ m.length) : CallW Try.prog 168 #[.slice s.a s.len s.cap, .int .i64 a, .int .i64 8, .bool false] w (fun v w' => v = .tuple #[.int .u64 (word m a), .bool true] ∧ w' = w) := by
  refine go168 ?_
  unfold W168
  refine c190.mono ?_
  rintro _ w ⟨rfl, rfl⟩
  have hl := h.len
  have hsm := h.small
  refine ⟨true, rfl, JoinW.each (BIf.f rfl ((c191 h0 (by omega) (by omega)).mono ?_))⟩
  rintro _ w ⟨rfl, rfl⟩
  refine ⟨true, rfl, BIf.f rfl ?_⟩
  refine LoopW.m2 (fun (x i : Int) w' => ∃ k : Nat, k ≤ 8 ∧ i = (k : Int) - 1 ∧ hornr m a k x = word m a ∧ 0 ≤ x ∧ x < B256 (8 - k) ∧ w' = w) (fun _ (i : Int) _ => (i + 1).toNat) ⟨8, by omega, by rw [w64 (by omega) (by omega)]; rfl, rfl, by omega, by decide, rfl⟩ ?_
  rintro (x : Int) (i : Int) w ⟨k, hk, rfl, hx, hx0, hx1, rfl⟩ J hJ
  refine BIf.dec (fun hge => ?_) (fun hlt => ?_)
  · obtain ⟨j, rfl⟩ : ∃ j, k = j + 1 := ⟨k - 1, by omega⟩
    have hb := byt_rng h.rng (a + (j : Int))
    have e : B256 (8 - j) = 256 * B256 (8 - (j + 1)) := by rw [show 8 - j = (8 - (j + 1)) + 1 by omega]; rfl
    have hB := B256_le (8 - j) (by omega)
    have hidx : IntKind.i64.wrap (a + (((j + 1 : Nat) : Int) - 1)) = a + (j : Int) := by rw [w64 (by omega) (by omega)]; omega
    rw [hidx]
    obtain ⟨p, hp, hc⟩ := h.at (i := a + (j : Int)) (by omega) (by omega)
    refine ⟨by omega, by omega, by omega, p, hp, _, hc, ?_⟩
    rw [or_byte hx0 (by omega) (by omega) (by omega), w64 (by omega) (by omega)]
    exact hJ _ _ _ ⟨j, by omega, by omega, hx, by omega, by omega, rfl⟩ (by omega)
  · have hk0 : k = 0 := by omega
    subst hk0
    refine BIf.f rfl ⟨?_, rfl⟩
    have hx : x = word m a := hx
    rw [hx]
end Go.Proofs.Ytkgoanjemhbjgaa

/- Spaces: an entry's bits, on both sides. Conditions: none. -/
set_option linter.unusedVariables false
set_option linter.unusedSimpArgs false
namespace Go.Proofs.Ytkgoanjemhbjgaa
open Go Go.Den
def ebit (x : Int) (n : Nat) : Bool := x / ((2 ^ n : Nat) : Int) % 2 == 1
def efr (x : Int) : Int := x / 256 % 4096
def eCells (x : Int) : List Value := [.bool (ebit x 0), .bool (ebit x 1), .bool (ebit x 2), .bool (ebit x 3), .bool (ebit x 4), .bool (ebit x 5), .bool (ebit x 6), .bool (ebit x 7), .int .i64 (efr x)]
theorem pow_le {a b : Nat} (h : a ≤ b) : 2 ^ a ≤ 2 ^ b := Nat.pow_le_pow_right (by omega) h
theorem c193 {n : Nat} {w : World} (hn : n ≤ 63) : CallW Try.prog 193 #[.int .i64 (n : Int)] w (fun v w' => v = .int .u64 ((2 ^ n : Nat) : Int) ∧ w' = w) := by
  refine go193 ?_
  unfold W193
  refine LoopW.m2 (fun (x i : Int) w' => ∃ k : Nat, k ≤ n ∧ i = k ∧ x = ((2 ^ k : Nat) : Int) ∧ w' = w) (fun _ (i : Int) _ => ((n : Int) - i).toNat) ⟨0, by omega, rfl, rfl, rfl⟩ ?_
  rintro (x : Int) (i : Int) w ⟨k, hk, rfl, rfl, rfl⟩ J hJ
  refine BIf.dec (fun hlt => ?_) (fun hge => ?_)
  · have h1 : 2 ^ (k + 1) ≤ 2 ^ 63 := pow_le (by omega)
    have h2 : 2 ^ (k + 1) = 2 ^ k * 2 := Nat.pow_succ 2 k
    rw [wu64 (by omega) (by omega), w64 (by omega) (by omega)]
    exact hJ _ _ _ ⟨k + 1, by omega, by omega, by rw [h2]; omega, rfl⟩ (by omega)
  · have : k = n := by omega
    subst this
    exact ⟨rfl, rfl⟩
theorem c194 {x : Int} {n : Nat} {w : World} (h0 : 0 ≤ x) (h1 : x < 18446744073709551616) (hn : n ≤ 63) : CallW Try.prog 194 #[.int .u64 x, .int .i64 (n : Int)] w (fun v w' => v = .int .u64 (x / ((2 ^ n : Nat) : Int) % 2) ∧ w' = w) := by
  refine go194 ?_
  unfold W194
  refine (c193 hn).mono ?_
  rintro _ w ⟨rfl, rfl⟩
  have hp : 1 ≤ 2 ^ n := Nat.one_le_two_pow
  have hd0 : 0 ≤ x / ((2 ^ n : Nat) : Int) := Int.ediv_nonneg h0 (by omega)
  have hd1 : x / ((2 ^ n : Nat) : Int) ≤ x := Int.ediv_le_self _ h0
  refine ⟨_, rfl, by omega, by omega, ?_, rfl⟩
  rw [Int.tdiv_eq_ediv_of_nonneg h0, wu64 hd0 (by omega), Int.tmod_eq_emod_of_nonneg hd0]
theorem c173 {x : Int} {n : Nat} {w : World} (h0 : 0 ≤ x) (h1 : x < 18446744073709551616) (hn : n ≤ 63) : CallW Try.prog 173 #[.int .u64 x, .int .i64 (n : Int)] w (fun v w' => v = .bool (ebit x n) ∧ w' = w) := by
  refine go173 ?_
  unfold W173
  refine (c194 h0 h1 hn).mono ?_
  rintro _ w ⟨rfl, rfl⟩
  exact ⟨_, rfl, rfl, rfl⟩
theorem c175 {x : Int} {n : Nat} {c : Addr} {w : World} (hc : w.cell? c = some (.int .u64 x)) (h0 : 0 ≤ x) (h1 : x < 18446744073709551616) (hn : n ≤ 63) : CallW Try.prog 175 #[.int .i64 (n : Int), .pointer (some c)] w (fun v w' => v = .bool (ebit x n) ∧ w' = w) := by
  refine go175 ?_
  unfold W175
  have hp : 1 ≤ 2 ^ n := Nat.one_le_two_pow
  have hd0 : 0 ≤ x / ((2 ^ n : Nat) : Int) := Int.ediv_nonneg h0 (by omega)
  have hd1 : x / ((2 ^ n : Nat) : Int) ≤ x := Int.ediv_le_self _ h0
  refine ⟨x, hc, by omega, ?_, rfl⟩
  rw [shr_u64 hn, and_one hd0 (by omega)]
  rfl
def zE : List Value := [.bool false, .bool false, .bool false, .bool false, .bool false, .bool false, .bool false, .bool false, .int .i64 0]
theorem efr_small {x : Int} (h0 : 0 ≤ x) (h1 : x < 1048576) : efr x = x / 256 := by unfold efr; omega
theorem c123f {x : Int} {w : World} (h1 : 1048576 ≤ x) : CallW Try.prog 123 #[.int .u64 x] w (fun v w' => v = .tuple #[.agg ⟨zE⟩, .bool false] ∧ Ext w w') := by
  refine go123 ?_
  unfold W123
  refine alloc_step (fun w1 e1 hb n1 => ?_)
  refine BIf.t (decide_eq_true h1) ?_
  refine put_step hb rfl rfl (fun w2 o2 hb n2 => ?_)
  refine ⟨_, hb.cell 0, _, hb.cell 1, _, hb.cell 2, _, hb.cell 3, _, hb.cell 4, _, hb.cell 5, _, hb.cell 6, _, hb.cell 7, _, hb.cell 8, ?_⟩
  exact ⟨rfl, Ext.own e1 o2 (fun k hk => by omega)⟩
theorem c123 {x : Int} {w : World} (h0 : 0 ≤ x) (h1 : x < 1048576) : CallW Try.prog 123 #[.int .u64 x] w (fun v w' => v = .tuple #[.agg ⟨eCells x⟩, .bool true] ∧ Ext w w') := by
  refine go123 ?_
  unfold W123
  refine alloc_step (fun w1 e1 ha n1 => ?_)
  refine BIf.f (decide_eq_false (by omega)) ⟨by omega, ?_⟩
  rw [Int.tdiv_eq_ediv_of_nonneg h0, wu64 (by omega) (by omega), w64 (by omega) (by omega)]
  refine alloc_step (fun w2 e2 hb n2 => ?_)
  have ha := ha.ext e2
  refine put_step hb rfl rfl (fun w3 o3 hb n3 => ?_)
  have ha := ha.only o3 (by omega)
  have e := Ext.own (Only.trans e1 e2) o3 (fun k hk => by omega)
  refine (c173 (n := 0) h0 (by omega) (by omega)).mono ?_
  rintro _ w10 ⟨rfl, rfl⟩
  refine ⟨_, rfl, ?_⟩
  refine set_step hb (by simp) (fun v0 o10 hb m0 => ?_)
  have ha := ha.only o10 (by omega)
  have e := Ext.own e o10 (fun k hk => by omega)
  refine (c173 (n := 1) h0 (by omega) (by omega)).mono ?_
  rintro _ w11 ⟨rfl, rfl⟩
  refine ⟨_, rfl, ?_⟩
  refine set_step hb (by simp) (fun v1 o11 hb m1 => ?_)
  have ha := ha.only o11 (by omega)
  have e := Ext.own e o11 (fun k hk => by omega)
  refine (c173 (n := 2) h0 (by omega) (by omega)).mono ?_
  rintro _ w12 ⟨rfl, rfl⟩
  refine ⟨_, rfl, ?_⟩
  refine set_step hb (by simp) (fun v2 o12 hb m2 => ?_)
  have ha := ha.only o12 (by omega)
  have e := Ext.own e o12 (fun k hk => by omega)
  refine (c173 (n := 3) h0 (by omega) (by omega)).mono ?_
  rintro _ w13 ⟨rfl, rfl⟩
  refine ⟨_, rfl, ?_⟩
  refine set_step hb (by simp) (fun v3 o13 hb m3 => ?_)
  have ha := ha.only o13 (by omega)
  have e := Ext.own e o13 (fun k hk => by omega)
  refine (c173 (n := 4) h0 (by omega) (by omega)).mono ?_
  rintro _ w14 ⟨rfl, rfl⟩
  refine ⟨_, rfl, ?_⟩
  refine set_step hb (by simp) (fun v4 o14 hb m4 => ?_)
  have ha := ha.only o14 (by omega)
  have e := Ext.own e o14 (fun k hk => by omega)
  refine (c173 (n := 5) h0 (by omega) (by omega)).mono ?_
  rintro _ w15 ⟨rfl, rfl⟩
  refine ⟨_, rfl, ?_⟩
  refine set_step hb (by simp) (fun v5 o15 hb m5 => ?_)
  have ha := ha.only o15 (by omega)
  have e := Ext.own e o15 (fun k hk => by omega)
  refine (c173 (n := 6) h0 (by omega) (by omega)).mono ?_
  rintro _ w16 ⟨rfl, rfl⟩
  refine ⟨_, rfl, ?_⟩
  refine set_step hb (by simp) (fun v6 o16 hb m6 => ?_)
  have ha := ha.only o16 (by omega)
  have e := Ext.own e o16 (fun k hk => by omega)
  refine (c173 (n := 7) h0 (by omega) (by omega)).mono ?_
  rintro _ w17 ⟨rfl, rfl⟩
  refine ⟨_, rfl, ?_⟩
  refine set_step hb (by simp) (fun v7 o17 hb m7 => ?_)
  have ha := ha.only o17 (by omega)
  have e := Ext.own e o17 (fun k hk => by omega)
  refine ⟨_, hb.cell 0, _, hb.cell 1, _, hb.cell 2, _, hb.cell 3, _, hb.cell 4, _, hb.cell 5, _, hb.cell 6, _, hb.cell 7, _, hb.cell 8, ?_⟩
  refine put_step ha rfl rfl (fun w30 o30 ha n30 => ?_)
  have e := Ext.own e o30 (fun k hk => by omega)
  refine ⟨_, ha.cell 0, _, ha.cell 1, _, ha.cell 2, _, ha.cell 3, _, ha.cell 4, _, ha.cell 5, _, ha.cell 6, _, ha.cell 7, _, ha.cell 8, ?_⟩
  refine ⟨?_, e⟩
  show _ = Value.tuple #[.agg ⟨eCells x⟩, .bool true]
  unfold eCells
  rw [efr_small h0 h1]
theorem c127 {x : Int} {w : World} (h0 : 0 ≤ x) (h1 : x < 18446744073709551616) : CallW Try.prog 127 #[.int .u64 x] w (fun v w' => v = .agg ⟨eCells x⟩ ∧ Ext w w') := by
  refine go127 ?_
  unfold W127
  refine alloc_step (fun w1 e1 ha n1 => ?_)
  refine alloc_step (fun w2 e2 hb n2 => ?_)
  have ha := (ha.ext e2).ext (ext_drew w2)
  have hb := hb.ext (ext_drew w2)
  have e := Only.trans (Only.trans e1 e2) (ext_drew w2)
  generalize w2.drew = w2d at *
  have hf : IntKind.i64.wrap (andI .u64 (shrI .u64 x 8) 4095) = efr x := by
    rw [show (8 : Int) = ((8 : Nat) : Int) from rfl, shr_u64 (by omega)]
    rw [and_4095 (by omega) (by omega), w64 (by omega) (by omega)]
    rfl
  refine ⟨x, ha.cell 0, by omega, ?_⟩
  refine (c175 (n := 0) (ha.cell 0) h0 h1 (by omega)).mono ?_
  rintro _ w10 ⟨rfl, rfl⟩
  refine ⟨_, rfl, rfl, ⟨_, ha.cell 0, rfl⟩, ?_⟩
  refine (c175 (n := 1) (ha.cell 0) h0 h1 (by omega)).mono ?_
  rintro _ w11 ⟨rfl, rfl⟩
  refine ⟨_, rfl, rfl, ⟨_, ha.cell 0, rfl⟩, ?_⟩
  refine (c175 (n := 2) (ha.cell 0) h0 h1 (by omega)).mono ?_
  rintro _ w12 ⟨rfl, rfl⟩
  refine ⟨_, rfl, rfl, ⟨_, ha.cell 0, rfl⟩, ?_⟩
  refine (c175 (n := 3) (ha.cell 0) h0 h1 (by omega)).mono ?_
  rintro _ w13 ⟨rfl, rfl⟩
  refine ⟨_, rfl, rfl, ⟨_, ha.cell 0, rfl⟩, ?_⟩
  refine (c175 (n := 4) (ha.cell 0) h0 h1 (by omega)).mono ?_
  rintro _ w14 ⟨rfl, rfl⟩
  refine ⟨_, rfl, rfl, ⟨_, ha.cell 0, rfl⟩, ?_⟩
  refine (c175 (n := 5) (ha.cell 0) h0 h1 (by omega)).mono ?_
  rintro _ w15 ⟨rfl, rfl⟩
  refine ⟨_, rfl, rfl, ⟨_, ha.cell 0, rfl⟩, ?_⟩
  refine (c175 (n := 6) (ha.cell 0) h0 h1 (by omega)).mono ?_
  rintro _ w16 ⟨rfl, rfl⟩
  refine ⟨_, rfl, rfl, ⟨_, ha.cell 0, rfl⟩, ?_⟩
  refine (c175 (n := 7) (ha.cell 0) h0 h1 (by omega)).mono ?_
  rintro _ w17 ⟨rfl, rfl⟩
  refine ⟨_, rfl, rfl, ⟨_, ha.cell 0, rfl⟩, ?_⟩
  rw [hf]
  refine put_step hb rfl rfl (fun w30 o30 hb n30 => ?_)
  refine ⟨_, hb.cell 0, _, hb.cell 1, _, hb.cell 2, _, hb.cell 3, _, hb.cell 4, _, hb.cell 5, _, hb.cell 6, _, hb.cell 7, _, hb.cell 8, rfl, ?_⟩
  exact Ext.own e o30 (fun k hk => by omega)
theorem c177z {w : World} : CallW Try.prog 177 #[.int .i64 0] w (fun v w' => v = .int .i64 1 ∧ w' = w) := by
  refine go177 ?_
  unfold W177
  exact BIf.t rfl ⟨rfl, rfl⟩
theorem c177s {n k : Int} {w : World} (h : ∀ {w : World}, CallW Try.prog 177 #[.int .i64 n] w (fun v w' => v = .int .i64 k ∧ w' = w)) (h0 : 0 ≤ n) (h1 : n ≤ 100) (hk0 : 0 ≤ k) (hk : k ≤ 100000) : CallW Try.prog 177 #[.int .i64 (n + 1)] w (fun v w' => v = .int .i64 (32 * k) ∧ w' = w) := by
  refine go177 ?_
  unfold W177
  refine BIf.f (by simp; omega) ?_
  rw [w64 (by omega) (by omega), show n + 1 - 1 = n by omega]
  refine h.mono ?_
  rintro _ w ⟨rfl, rfl⟩
  refine ⟨_, rfl, ?_, rfl⟩
  rw [w64 (by omega) (by omega)]
def pgs (n : Int) : Int := if n = 0 then 1 else if n = 1 then 32 else 1024
theorem c177 {n : Int} {w : World} (h0 : 0 ≤ n) (h2 : n ≤ 2) : CallW Try.prog 177 #[.int .i64 n] w (fun v w' => v = .int .i64 (pgs n) ∧ w' = w) := by
  have hn : n = 0 ∨ n = 1 ∨ n = 2 := by omega
  have h1 : ∀ {w : World}, CallW Try.prog 177 #[.int .i64 1] w (fun v w' => v = .int .i64 32 ∧ w' = w) := fun {w} => c177s (n := 0) (k := 1) (fun {w} => c177z) (by omega) (by omega) (by omega) (by omega)
  rcases hn with rfl | rfl | rfl
  · exact c177z
  · exact h1
  · exact c177s (n := 1) (k := 32) (fun {w} => h1) (by omega) (by omega) (by omega) (by omega)
theorem pgs_pos {n : Int} (h0 : 0 ≤ n) : 0 < pgs n := by unfold pgs; split <;> (try split) <;> omega
/-- What an entry is, at a level. -/
def kindS (x lvl : Int) : Int :=
  if ebit x 0 = false then -4 else if 1048576 ≤ x then -5 else if (ebit x 2 && !ebit x 1) = true then -5
  else if (!ebit x 1 && !ebit x 2 && !ebit x 3) = true then (if (ebit x 4 || ebit x 5 || ebit x 6 || lvl == 0) = true then -5 else 0)
  else if efr x % pgs lvl ≠ 0 then -6 else 1
theorem c186 {x lvl : Int} {w : World} (h0 : 0 ≤ x) (h1 : x < 18446744073709551616) (hl0 : 0 ≤ lvl) (hl2 : lvl ≤ 2) : CallW Try.prog 186 #[.int .u64 x, .int .i64 lvl] w (fun v w' => v = .int .i64 (kindS x lvl) ∧ Ext w w') := by
  refine go186 ?_
  unfold W186
  refine (c173 (n := 0) h0 h1 (by omega)).mono ?_
  rintro _ w ⟨rfl, rfl⟩
  refine ⟨_, rfl, BIf.of (fun hb => ⟨?_, Only.refl _ _⟩) (fun hb => ?_)⟩
  · have hb : ebit x 0 = false := by simpa using hb
    unfold kindS; rw [if_pos hb]
  have hb0 : ¬ (ebit x 0 = false) := by simpa using hb
  have hk0 := kindS.eq_1 x lvl
  rw [if_neg hb0] at hk0
  by_cases hx : 1048576 ≤ x
  · refine (c123f hx).mono ?_
    rintro _ w2 ⟨rfl, e2⟩
    refine ⟨_, _, _, _, _, _, _, _, _, _, rfl, ?_⟩
    refine alloc_step (fun w3 e3 hb n3 => ?_)
    refine put_step hb rfl rfl (fun w4 o4 hb n4 => ?_)
    have e := Ext.own (Only.trans e2 e3) o4 (fun k hk => by have := e2.size; omega)
    refine JoinW.each (BIf.t rfl (BIf.t rfl ⟨?_, e⟩))
    rw [hk0, if_pos hx]
  · refine (c123 h0 (by omega)).mono ?_
    rintro _ w2 ⟨rfl, e2⟩
    refine ⟨_, _, _, _, _, _, _, _, _, _, rfl, ?_⟩
    refine alloc_step (fun w3 e3 hb n3 => ?_)
    refine put_step hb rfl rfl (fun w4 o4 hb n4 => ?_)
    have e := Ext.own (Only.trans e2 e3) o4 (fun k hk => by have := e2.size; omega)
    rw [if_neg hx] at hk0
    have hb' : Blk w4 w2.heap.size (eCells x) := hb
    clear hb
    refine JoinW.cut1 (fun (b : Bool) w' => b = (ebit x 2 && !ebit x 1) ∧ w' = w4) ?_ ?_
    · exact BIf.f rfl ⟨_, hb'.cell 2, BIf.of (fun hW => ⟨_, hb'.cell 1, by rw [hW]; rfl, rfl⟩) (fun hW => ⟨by rw [hW]; rfl, rfl⟩)⟩
    rintro (b : Bool) w5 ⟨rfl, rfl⟩
    refine BIf.of (fun h => ⟨by rw [hk0, if_pos h], e⟩) (fun h => ?_)
    rw [if_neg (by rw [h]; simp)] at hk0
    refine ⟨_, hb'.cell 1, join_and_ex _ (hb'.cell 2) (join_and_ex _ (hb'.cell 3) ?_)⟩
    refine BIf.of (fun h2 => ?_) (fun h2 => ?_)
    · rw [if_pos h2] at hk0
      refine ⟨_, hb'.cell 4, join_or_ex _ (hb'.cell 5) (join_or_ex _ (hb'.cell 6) ?_)⟩
      rw [join_or]
      refine BIf.of (fun h3 => ⟨by rw [hk0, if_pos h3], e⟩) (fun h3 => ⟨by rw [hk0, if_neg (by rw [h3]; simp)], e⟩)
    · rw [if_neg (by rw [h2]; simp)] at hk0
      have hb2 := hb'.ext (ext_drew w5)
      have e2 := Only.trans e (ext_drew w5)
      generalize w5.drew = w6 at *
      refine ⟨_, hb2.cell 8, (c177 hl0 hl2).mono ?_⟩
      rintro _ w6 ⟨rfl, rfl⟩
      have hp := pgs_pos hl0
      have hf0 : 0 ≤ efr x := by unfold efr; omega
      refine ⟨_, rfl, ⟨_, hb2.cell 8, rfl⟩, by omega, ?_⟩
      rw [Int.tmod_eq_emod_of_nonneg hf0]
      refine BIf.ne (fun h3 => ⟨by rw [hk0, if_pos h3], e2⟩) (fun h3 => ⟨by rw [hk0, if_neg (by rw [h3]; simp)], e2⟩)
/-! ## An entry of a table -/
theorem Bytes.cut {w : World} {s : Sl} {m : List Int} (h : Bytes w s m) {a : Nat} (ha : a + 8 ≤ m.length) : Bytes w ⟨cutA s.a s.cap a 1, 8, s.cap - a⟩ ((m.drop a).take 8) := by
  have hl := h.len
  have hc := h.cap
  refine ⟨by simp; omega, by show 8 ≤ s.cap - a; omega, ?_, fun x hx => h.rng x (List.mem_of_mem_drop (List.mem_of_mem_take hx)), by simp; omega⟩
  obtain ⟨p, hp, hcell⟩ := h.row.2 (by omega)
  refine ⟨by simp; omega, fun _ => ⟨p.add (a * 1), ?_, fun j v hj => ?_⟩⟩
  · show cutA s.a s.cap a 1 = _
    unfold cutA
    rw [hp]
    first
      | rfl
      | (simp; omega)
      | (rw [if_neg (by omega)])
  · rw [add_add, Nat.mul_one]
    refine hcell _ v ?_
    rw [List.map_take, List.map_drop, List.getElem?_take] at hj
    split at hj
    · rw [List.getElem?_drop] at hj; exact hj
    · cases hj
end Go.Proofs.Ytkgoanjemhbjgaa

/- Spaces: frames that can be, on both sides. Conditions: none. -/
set_option linter.unusedVariables false
set_option linter.unusedSimpArgs false
namespace Go.Proofs.Ytkgoanjemhbjgaa
open Go Go.Den
/-- The list of free blocks, lent. -/
structure FrAt (w : World) (l : Sl) (fr : List DBlock) : Prop where
  len : l.len = fr.length
  row : RowAt w l.a (l.len * 2) (fr.flatMap DBlock.cells)
  few : fr.length ≤ 1099511627776
theorem FrAt.ext {w w' : World} {l : Sl} {fr : List DBlock} (h : FrAt w l fr) (e : Ext w w') : FrAt w' l fr := ⟨h.len, e.row h.row, h.few⟩
theorem FrAt.get {w : World} {l : Sl} {fr : List DBlock} (h : FrAt w l fr) {i : Nat} {x : DBlock} (hx : fr[i]? = some x) :
    ∃ p, l.a = some p ∧ w.cell? ((p.add (i * 2)).add 0) = some (.int .i64 x.At) ∧ w.cell? ((p.add (i * 2)).add 1) = some (.int .i64 x.Order) := by
  obtain ⟨p, hp, hc⟩ := RowAt.elem (f := DBlock.cells) (z := 2) (fun _ => rfl) h.row hx (by omega)
  exact ⟨p, hp, hc 0 _ rfl, hc 1 _ rfl⟩
def pw (o : Int) : Int := ((2 ^ o.toNat : Nat) : Int)
theorem pw_rng {o : Int} (h1 : o ≤ 11) : 1 ≤ pw o ∧ pw o ≤ 2048 := by
  unfold pw
  have h1 : 2 ^ o.toNat ≤ 2 ^ 11 := pow_le (by omega)
  have h2 : 1 ≤ 2 ^ o.toNat := Nat.one_le_two_pow
  omega
theorem c176 {o : Int} {w : World} (h0 : 0 ≤ o) (h1 : o ≤ 11) : CallW Try.prog 176 #[.int .i64 o] w (fun v w' => v = .int .i64 (pw o) ∧ w' = w) := by
  refine go176 ?_
  unfold W176
  obtain ⟨n, rfl⟩ := Int.eq_ofNat_of_zero_le h0
  refine LoopW.m2 (fun (x i : Int) w' => ∃ k : Nat, k ≤ n ∧ i = k ∧ x = ((2 ^ k : Nat) : Int) ∧ w' = w) (fun _ (i : Int) _ => ((n : Int) - i).toNat) ⟨0, by omega, rfl, rfl, rfl⟩ ?_
  rintro (x : Int) (i : Int) w ⟨k, hk, rfl, rfl, rfl⟩ J hJ
  refine BIf.dec (fun hlt => ?_) (fun hge => ?_)
  · have h1 : 2 ^ (k + 1) ≤ 2 ^ 11 := pow_le (by omega)
    have h2 : 2 ^ (k + 1) = 2 ^ k * 2 := Nat.pow_succ 2 k
    rw [w64 (by omega) (by omega), w64 (by omega) (by omega)]
    exact hJ _ _ _ ⟨k + 1, by omega, by omega, by rw [h2]; omega, rfl⟩ (by omega)
  · have : k = n := by omega
    subst this
    refine ⟨?_, rfl⟩
    unfold pw; rw [Int.toNat_natCast]
theorem shl_pw {o : Int} (h0 : 0 ≤ o) (h1 : o ≤ 11) : shlI .i64 1 o = pw o := by
  have hp := pw_rng h1
  unfold shlI
  rw [show min o.toNat (IntKind.i64.bits) = o.toNat from Nat.min_eq_left (by show o.toNat ≤ 64; omega)]
  have : (1 : Int) * 2 ^ o.toNat = pw o := by unfold pw; norm_cast; omega
  rw [this, w64 (by omega) (by omega)]
def blkOk (T a o : Int) : Bool := decide (0 ≤ o ∧ o ≤ 10 ∧ 0 ≤ a ∧ a < T ∧ a % pw o = 0 ∧ a + pw o ≤ T)
theorem c145 {T a o : Int} {w : World} (hT : T ≤ 1099511627776) : CallW Try.prog 145 #[.int .i64 T, .agg #[.int .i64 a, .int .i64 o]] w (fun v w' => v = .bool (blkOk T a o) ∧ Ext w w') := by
  refine go145 ?_
  unfold W145
  refine alloc_step (fun w1 e hb n1 => ?_)
  refine ⟨_, hb.cell 1, join_or_ex _ (hb.cell 1) ?_⟩
  refine BIf.of (fun h => ⟨?_, e⟩) (fun h => ?_)
  · simp only [Bool.or_eq_true, decide_eq_true_eq] at h
    unfold blkOk
    rw [decide_eq_false (by omega)]
  · simp only [Bool.or_eq_false_iff, decide_eq_false_iff_not] at h
    have hp := pw_rng (o := o) (by omega)
    refine ⟨_, hb.cell 1, (c176 (by omega) (by omega)).mono ?_⟩
    rintro _ w1 ⟨rfl, rfl⟩
    refine ⟨_, rfl, _, hb.cell 0, join_and_ex _ (hb.cell 0) ?_⟩
    refine JoinW.cut1 (fun (b : Bool) w' => b = ((decide (a ≥ 0) && decide (a < T)) && decide (a % pw o = 0)) ∧ w' = w1) ?_ ?_
    · refine BIf.of (fun h2 => ⟨_, hb.cell 0, by omega, ?_, rfl⟩) (fun h2 => ⟨by rw [h2]; rfl, rfl⟩)
      rw [h2]
      simp only [Bool.and_eq_true, decide_eq_true_eq] at h2
      rw [Int.tmod_eq_emod_of_nonneg h2.1]
      rfl
    rintro (b : Bool) w1 ⟨rfl, rfl⟩
    refine join_and_ex _ (hb.cell 0) ⟨?_, e⟩
    congr 1
    apply Bool.eq_iff_iff.2
    unfold blkOk
    simp only [Bool.and_eq_true, decide_eq_true_eq]
    constructor
    · rintro ⟨⟨⟨h1, h2⟩, h3⟩, h4⟩
      rw [w64 (by omega) (by omega)] at h4
      exact ⟨by omega, by omega, by omega, by omega, h3, h4⟩
    · rintro ⟨h1, h2, h3, h4, h5, h6⟩
      exact ⟨⟨⟨by omega, by omega⟩, h5⟩, by rw [w64 (by omega) (by omega)]; omega⟩
theorem c84 {T a o : Int} {w : World} (hT : T ≤ 1099511627776) : CallW Try.prog 84 #[.int .i64 T, .agg #[.int .i64 a, .int .i64 o]] w (fun v w' => v = .bool (blkOk T a o) ∧ Ext w w') := by
  refine go84 ?_
  unfold W84
  refine alloc_step (fun w1 e hb n1 => ?_)
  refine ⟨_, hb.cell 1, join_or_ex _ (hb.cell 1) (join_or_ex _ (hb.cell 0) (join_or_ex _ (hb.cell 0) ?_))⟩
  refine BIf.of (fun h => ⟨?_, e⟩) (fun h => ?_)
  · simp only [Bool.or_eq_true, decide_eq_true_eq] at h
    unfold blkOk
    rw [decide_eq_false (by omega)]
  · simp only [Bool.or_eq_false_iff, decide_eq_false_iff_not] at h
    have hp := pw_rng (o := o) (by omega)
    refine ⟨_, hb.cell 1, by omega, _, hb.cell 0, ?_⟩
    rw [shl_pw (by omega) (by omega)]
    refine ⟨by omega, join_and_ex _ (hb.cell 0) ⟨?_, e⟩⟩
    congr 1
    apply Bool.eq_iff_iff.2
    rw [Int.tmod_eq_emod_of_nonneg (by omega), w64 (by omega) (by omega)]
    unfold blkOk
    simp only [Bool.and_eq_true, decide_eq_true_eq, beq_iff_eq]
    constructor
    · rintro ⟨h3, h4⟩
      exact ⟨by omega, by omega, by omega, by omega, h3, h4⟩
    · rintro ⟨h1, h2, h3, h4, h5, h6⟩
      exact ⟨h5, h6⟩
/-! ## Frames that can be -/
def BlkAfter (c b : DBlock) : Prop := c.At + pw c.Order ≤ b.At ∧ ¬ (c.Order = b.Order ∧ b.Order < 10 ∧ c.At + pw c.Order = b.At ∧ c.At % (2 * pw b.Order) = 0)
def BlkP (T : Int) (fr : List DBlock) (i : Nat) (b : DBlock) : Prop := blkOk T b.At b.Order = true ∧ ∀ c, 0 < i → fr[i - 1]? = some c → BlkAfter c b
def FOk (T : Int) (fr : List DBlock) : Prop := 0 ≤ T ∧ T ≤ 1024 ∧ ∀ i b, fr[i]? = some b → BlkP T fr i b
def KB (P : Prop) (w : World) (v : Value) (w' : World) : Prop := ∃ b, v = .bool b ∧ (b = true ↔ P) ∧ Ext w w'
def EndAt (fr : List DBlock) (k : Nat) (e : Int) : Prop := (k = 0 ∧ e = 0) ∨ ∃ c, 0 < k ∧ fr[k - 1]? = some c ∧ e = c.At + pw c.Order
theorem blkOk_out {T a o : Int} (h : blkOk T a o = true) : 0 ≤ o ∧ o ≤ 10 ∧ 0 ≤ a ∧ a < T ∧ a % pw o = 0 ∧ a + pw o ≤ T := of_decide_eq_true h
theorem blk_put2 {w : World} {b : Nat} {x : DBlock} {k : World → Prop} (hb : Blk w b [.int .i64 0, .int .i64 0]) (h : ∀ w2, Only (fun j => j = b) w w2 → Blk w2 b [.int .i64 x.At, .int .i64 x.Order] → w2.heap.size = w.heap.size → k w2) :
    MayN w ⟨b, 0, none⟩ 2 ∧ LetW (Den.puts w ⟨b, 0, none⟩ 0 [.int .i64 x.At, .int .i64 x.Order]) k := put_step hb rfl rfl h
theorem c160 {l : Sl} {T : Int} {fr : List DBlock} {w : World} (h : FrAt w l fr) : CallW Try.prog 160 #[.agg #[.int .i64 T, .slice l.a l.len l.cap]] w (KB (FOk T fr) w) := by
  refine go160 ?_
  unfold W160
  refine alloc_step (fun w1 e hb n1 => ?_)
  have h1 := h.ext e
  have hl := h.len
  have hfew := h.few
  refine ⟨_, hb.cell 0, join_or_ex _ (hb.cell 0) ?_⟩
  refine BIf.of (fun hbad => ⟨false, rfl, ⟨(fun h => nomatch h), fun hf => ?_⟩, e⟩) (fun hgood => ?_)
  · simp only [Bool.or_eq_true, decide_eq_true_eq] at hbad
    have := hf.1; have := hf.2.1; omega
  simp only [Bool.or_eq_false_iff, decide_eq_false_iff_not] at hgood
  refine LoopW.m2 (fun (en i : Int) w' => ∃ k : Nat, i = k ∧ k ≤ fr.length ∧ (∀ j b, j < k → fr[j]? = some b → BlkP T fr j b) ∧ EndAt fr k en ∧ Ext w1 w') (fun _ (i : Int) _ => ((fr.length : Int) - i).toNat) ⟨0, rfl, by omega, fun j b hj => absurd hj (Nat.not_lt_zero _), .inl ⟨rfl, rfl⟩, Only.refl _ _⟩ ?_
  rintro (en : Int) (i : Int) w2 ⟨k, rfl, hk, hall, hend, e2⟩ J hJ
  have hb2 := hb.ext e2
  have h2 := h1.ext e2
  have z2 := e2.size
  refine ⟨l, hb2.cell 1, ?_⟩
  rw [hl]
  refine BIf.dec (fun hlt => ?_) (fun hge => ?_)
  · obtain ⟨x, hx⟩ : ∃ x, fr[k]? = some x := ⟨_, List.getElem?_eq_getElem (by omega)⟩
    obtain ⟨p, hp, hc0, hc1⟩ := h2.get hx
    have no : ∀ w', Ext w1 w' → ¬ BlkP T fr k x → KB (FOk T fr) w (.bool false) w' := fun w' e' hn => ⟨false, rfl, ⟨(fun h => nomatch h), fun hf => absurd (hf.2.2 k x hx) hn⟩, Only.trans e e'⟩
    refine ⟨l, hb2.cell 1, by omega, by omega, p, hp, _, hc0, _, hc1, alloc_step (fun w3 e3 hz n3 => blk_put2 hz (fun w4 o4 hz n4 => ?_))⟩
    have e24 : Ext w2 w4 := Ext.own e3 o4 (fun k hk => by omega)
    have hb4 := hb2.ext e24
    refine ⟨_, hb4.cell 0, _, hz.cell 0, _, hz.cell 1, (c145 (by omega)).mono ?_⟩
    rintro _ w5 ⟨rfl, e5⟩
    have hz5 := hz.ext e5
    have e25 := Only.trans e24 e5
    refine ⟨_, rfl, join_or_ex _ (hz5.cell 0) ?_⟩
    refine BIf.of (fun hbad => no _ (Only.trans e2 e25) (fun hP => ?_)) (fun hok => ?_)
    · simp only [Bool.or_eq_true, Bool.not_eq_true', decide_eq_true_eq] at hbad
      rcases hbad with hbad | hbad
      · rw [hP.1] at hbad; cases hbad
      · rcases hend with ⟨_, rfl⟩ | ⟨c, hk0, hc, rfl⟩
        · have := (blkOk_out hP.1).2.2.1; omega
        · have := (hP.2 c hk0 hc).1; omega
    simp only [Bool.or_eq_false_iff, Bool.not_eq_false', decide_eq_false_iff_not] at hok
    obtain ⟨hok, hend2⟩ := hok
    have hbo := blkOk_out hok
    have hpw := pw_rng (o := x.Order) (by omega)
    refine ⟨_, hz5.cell 1, (c176 hbo.1 (by omega)).mono ?_⟩
    rintro _ w5 ⟨rfl, rfl⟩
    refine ⟨_, rfl, ?_⟩
    refine JoinW.cut1 (fun (b : Bool) w' => (b = true ↔ ∃ c, 0 < k ∧ fr[k - 1]? = some c ∧ c.Order = x.Order ∧ x.Order < 10 ∧ en = x.At ∧ c.At % (2 * pw x.Order) = 0) ∧ Ext w5 w') ?_ ?_
    · refine BIf.dec (fun hk0 => ?_) (fun hk0 => ⟨⟨(fun h => nomatch h), fun ⟨c, h, _⟩ => by omega⟩, ext_drew w5⟩)
      have ed := ext_drew w5
      generalize w5.drew = w6 at *
      have hb6 := (hb4.ext e5).ext ed
      have hz6 := hz5.ext ed
      obtain ⟨c, hc⟩ : ∃ c, fr[k - 1]? = some c := ⟨_, List.getElem?_eq_getElem (by omega)⟩
      have hidx : IntKind.i64.wrap ((k : Int) - 1) = ((k - 1 : Nat) : Int) := by rw [w64 (by omega) (by omega)]; omega
      rw [hidx, Int.toNat_natCast]
      obtain ⟨q, hq, hd0, hd1⟩ := (h2.ext (Only.trans e25 ed)).get hc
      have uq : ∀ c', fr[k - 1]? = some c' → c' = c := fun c' h => by rw [hc] at h; injection h with h; exact h.symm
      refine ⟨l, hb6.cell 1, by omega, by omega, q, hq, _, hd1, _, hz6.cell 1, ?_⟩
      refine BIf.eq (fun h3 => ⟨_, hz6.cell 1, BIf.dec (fun h4 => ⟨_, hz6.cell 0, BIf.eq (fun h5 => ?_) (fun h5 => ?_)⟩) (fun h4 => ?_)⟩) (fun h3 => ?_)
      · refine ⟨l, hb6.cell 1, by omega, by omega, q, hq, _, hd0, ?_⟩
        have hcP := (hall (k - 1) c (by omega) hc).1
        have hcb := blkOk_out hcP
        rw [w64 (by omega) (by omega)]
        refine ⟨by omega, ⟨?_, ed⟩⟩
        rw [Int.tmod_eq_emod_of_nonneg hcb.2.2.1, beq_iff_eq]
        exact ⟨fun h6 => ⟨c, by omega, hc, h3, h4, h5.symm, h6⟩, fun ⟨c', _, hc', _, _, _, h6⟩ => by rw [uq c' hc'] at h6; exact h6⟩
      · exact ⟨⟨(fun h => nomatch h), fun ⟨c', _, hc', _, _, h6, _⟩ => absurd h6.symm h5⟩, ed⟩
      · exact ⟨⟨(fun h => nomatch h), fun ⟨c', _, hc', _, h6, _, _⟩ => absurd h6 h4⟩, ed⟩
      · exact ⟨⟨(fun h => nomatch h), fun ⟨c', _, hc', h6, _, _, _⟩ => absurd (by rw [← uq c' hc']; exact h6) h3⟩, ed⟩
    rintro (b : Bool) w6 ⟨hiff, e6⟩
    have e26 := Only.trans e25 e6
    refine BIf.of (fun hbt => no _ (Only.trans e2 e26) (fun hP => ?_)) (fun hbf => ?_)
    · obtain ⟨c, hk0, hc, g1, g2, g3, g4⟩ := hiff.1 hbt
      rcases hend with ⟨hz, _⟩ | ⟨c', _, hc', rfl⟩
      · omega
      · rw [hc] at hc'; injection hc' with hc'; subst hc'
        exact (hP.2 c hk0 hc).2 ⟨g1, g2, g3, g4⟩
    · have hP : BlkP T fr k x := by
        refine ⟨hok, fun c hk0 hc => ?_⟩
        rcases hend with ⟨hz, _⟩ | ⟨c', _, hc', rfl⟩
        · omega
        · rw [hc] at hc'; injection hc' with hc'; subst hc'
          refine ⟨by omega, fun ⟨g1, g2, g3, g4⟩ => ?_⟩
          rw [hiff.2 ⟨c, hk0, hc, g1, g2, g3, g4⟩] at hbf; cases hbf
      refine ⟨_, (hz5.ext e6).cell 0, ?_⟩
      rw [w64 (by omega) (by omega), w64 (by omega) (by omega)]
      refine hJ _ _ _ ⟨k + 1, by omega, by omega, fun j b hj hb => ?_, .inr ⟨x, by omega, hx, rfl⟩, Only.trans e2 e26⟩ (by omega)
      by_cases hjk : j = k
      · subst hjk; rw [hx] at hb; cases hb; exact hP
      · exact hall j b (by omega) hb
  · exact ⟨true, rfl, ⟨fun _ => ⟨by omega, by omega, fun j b hb => hall j b (by have := (List.getElem?_eq_some_iff.1 hb).1; omega) hb⟩, fun _ => rfl⟩, Only.trans e e2⟩
theorem c134 {l : Sl} {T : Int} {fr : List DBlock} {w : World} (h : FrAt w l fr) : CallW Try.prog 134 #[.agg #[.int .i64 T, .slice l.a l.len l.cap]] w (KB (FOk T fr) w) := by
  refine go134 ?_
  unfold W134
  refine alloc_step (fun w1 e hb n1 => ?_)
  have h1 := h.ext e
  have hl := h.len
  have hfew := h.few
  refine ⟨_, hb.cell 0, join_or_ex _ (hb.cell 0) ?_⟩
  refine BIf.of (fun hbad => ⟨false, rfl, ⟨(fun h => nomatch h), fun hf => ?_⟩, e⟩) (fun hgood => ?_)
  · simp only [Bool.or_eq_true, decide_eq_true_eq] at hbad
    have := hf.1; have := hf.2.1; omega
  simp only [Bool.or_eq_false_iff, decide_eq_false_iff_not] at hgood
  refine ⟨l, hb.cell 1, ?_⟩
  rw [hl]
  refine LoopW.m2 (fun (en i : Int) w' => ∃ k : Nat, i = k ∧ k ≤ fr.length ∧ (∀ j b, j < k → fr[j]? = some b → BlkP T fr j b) ∧ EndAt fr k en ∧ Ext w1 w') (fun _ (i : Int) _ => ((fr.length : Int) - i).toNat) ⟨0, rfl, by omega, fun j b hj => absurd hj (Nat.not_lt_zero _), .inl ⟨rfl, rfl⟩, Only.refl _ _⟩ ?_
  rintro (en : Int) (i : Int) w2 ⟨k, rfl, hk, hall, hend, e2⟩ J hJ
  have hb2 := hb.ext e2
  have h2 := h1.ext e2
  have z2 := e2.size
  refine BIf.dec (fun hlt => ?_) (fun hge => ?_)
  · obtain ⟨x, hx⟩ : ∃ x, fr[k]? = some x := ⟨_, List.getElem?_eq_getElem (by omega)⟩
    obtain ⟨p, hp, hc0, hc1⟩ := h2.get hx
    have no : ∀ w', Ext w1 w' → ¬ BlkP T fr k x → KB (FOk T fr) w (.bool false) w' := fun w' e' hn => ⟨false, rfl, ⟨(fun h => nomatch h), fun hf => absurd (hf.2.2 k x hx) hn⟩, Only.trans e e'⟩
    refine ⟨by omega, by omega, p, hp, _, hc0, _, hc1, alloc_step (fun w3 e3 hz n3 => blk_put2 hz (fun w4 o4 hz n4 => ?_))⟩
    have e24 : Ext w2 w4 := Ext.own e3 o4 (fun k hk => by omega)
    have hb4 := hb2.ext e24
    refine ⟨_, hb4.cell 0, _, hz.cell 0, _, hz.cell 1, (c84 (by omega)).mono ?_⟩
    rintro _ w5 ⟨rfl, e5⟩
    have hz5 := hz.ext e5
    have e25 := Only.trans e24 e5
    refine ⟨_, rfl, join_or_ex _ (hz5.cell 0) ?_⟩
    refine BIf.of (fun hbad => no _ (Only.trans e2 e25) (fun hP => ?_)) (fun hok => ?_)
    · simp only [Bool.or_eq_true, Bool.not_eq_true', decide_eq_true_eq] at hbad
      rcases hbad with hbad | hbad
      · rw [hP.1] at hbad; cases hbad
      · rcases hend with ⟨_, rfl⟩ | ⟨c, hk0, hc, rfl⟩
        · have := (blkOk_out hP.1).2.2.1; omega
        · have := (hP.2 c hk0 hc).1; omega
    simp only [Bool.or_eq_false_iff, Bool.not_eq_false', decide_eq_false_iff_not] at hok
    obtain ⟨hok, hend2⟩ := hok
    have hbo := blkOk_out hok
    have hpw := pw_rng (o := x.Order) (by omega)
    have z25 := e25.size
    refine ⟨_, hz5.cell 1, by omega, _, hz5.cell 0, ?_⟩
    rw [shl_pw hbo.1 (by omega)]
    have done : ∀ w', Ext w1 w' → (∀ c, 0 < k → fr[k - 1]? = some c → ¬ (c.Order = x.Order ∧ x.Order < 10 ∧ c.At = x.At - pw x.Order ∧ c.At % (2 * pw x.Order) = 0)) → (J : Int → Int → World → Prop) (IntKind.wrap .i64 (x.At + pw x.Order)) (IntKind.wrap .i64 ((k : Int) + 1)) w' := by
      intro w' e' hno
      have hP : BlkP T fr k x := by
        refine ⟨hok, fun c hk0 hc => ?_⟩
        rcases hend with ⟨hz, _⟩ | ⟨c', _, hc', rfl⟩
        · omega
        · rw [hc] at hc'; injection hc' with hc'; subst hc'
          refine ⟨by omega, fun ⟨g1, g2, g3, g4⟩ => hno c hk0 hc ⟨g1, g2, by rw [g1] at g3; omega, g4⟩⟩
      rw [w64 (by omega) (by omega), w64 (by omega) (by omega)]
      refine hJ _ _ _ ⟨k + 1, by omega, by omega, fun j b hj hb => ?_, .inr ⟨x, by omega, hx, rfl⟩, e'⟩ (by omega)
      by_cases hjk : j = k
      · subst hjk; rw [hx] at hb; cases hb; exact hP
      · exact hall j b (by omega) hb
    refine BIf.dec (fun hk0 => ?_) (fun hk0 => done _ (Only.trans e2 e25) (fun c h => by omega))
    obtain ⟨c, hc⟩ : ∃ c, fr[k - 1]? = some c := ⟨_, List.getElem?_eq_getElem (by omega)⟩
    have hidx : IntKind.i64.wrap ((k : Int) - 1) = ((k - 1 : Nat) : Int) := by rw [w64 (by omega) (by omega)]; omega
    obtain ⟨q, hq, hd0, hd1⟩ := (h2.ext e25).get hc
    have uq : ∀ c', fr[k - 1]? = some c' → c' = c := fun c' h => by rw [hc] at h; injection h with h; exact h.symm
    refine ⟨l, (hb4.ext e5).cell 1, ?_⟩
    rw [hidx, Int.toNat_natCast]
    refine ⟨by omega, by omega, q, hq, _, hd0, _, hd1, alloc_step (fun w6 e6 hy n6 => blk_put2 hy (fun w7 o7 hy n7 => ?_))⟩
    have e57 : Ext w5 w7 := Ext.own e6 o7 (fun k hk => by omega)
    have hz7 := hz5.ext e57
    have e27 := Only.trans e25 e57
    refine ⟨_, hy.cell 1, _, hz7.cell 1, join_and_ex _ (hz7.cell 1) ?_⟩
    refine JoinW.cut1 (fun (b : Bool) w' => b = ((c.Order == x.Order && decide (x.Order < 10)) && decide (c.At = x.At - pw x.Order)) ∧ w' = w7) ?_ ?_
    · refine BIf.of (fun h3 => ⟨_, hy.cell 0, _, hz7.cell 0, ?_, rfl⟩) (fun h3 => ⟨by rw [h3]; rfl, rfl⟩)
      rw [h3, w64 (by omega) (by omega)]
      rfl
    rintro (b : Bool) w7 ⟨rfl, rfl⟩
    have hcP := (hall (k - 1) c (by omega) hc).1
    have hcb := blkOk_out hcP
    refine JoinW.cut1 (fun (b : Bool) w' => b = (((c.Order == x.Order && decide (x.Order < 10)) && decide (c.At = x.At - pw x.Order)) && decide (c.At % (2 * pw x.Order) = 0)) ∧ w' = w7) ?_ ?_
    · refine BIf.of (fun h3 => ⟨_, hy.cell 0, ?_⟩) (fun h3 => ⟨by rw [h3]; rfl, rfl⟩)
      rw [w64 (by omega) (by omega), h3, Int.tmod_eq_emod_of_nonneg hcb.2.2.1]
      exact ⟨by omega, rfl, rfl⟩
    rintro (b : Bool) w7 ⟨rfl, rfl⟩
    refine BIf.of (fun hbt => no _ (Only.trans e2 e27) (fun hP => ?_)) (fun hbf => done _ (Only.trans e2 e27) (fun c' h0 hc' => ?_))
    · simp only [Bool.and_eq_true, decide_eq_true_eq, beq_iff_eq] at hbt
      obtain ⟨⟨⟨g1, g2⟩, g3⟩, g4⟩ := hbt
      exact (hP.2 c (by omega) hc).2 ⟨g1, g2, by rw [g1]; omega, g4⟩
    · rw [uq c' hc']
      rintro ⟨g1, g2, g3, g4⟩
      rw [g1, decide_eq_true g2, decide_eq_true g3, decide_eq_true g4] at hbf
      simp at hbf
  · exact ⟨true, rfl, ⟨fun _ => ⟨by omega, by omega, fun j b hb => hall j b (by have := (List.getElem?_eq_some_iff.1 hb).1; omega) hb⟩, fun _ => rfl⟩, Only.trans e e2⟩
end Go.Proofs.Ytkgoanjemhbjgaa

/- Spaces: pools that can be, which frames are free, copies, an entry read. Conditions: none. -/
set_option linter.unusedVariables false
set_option linter.unusedSimpArgs false
namespace Go.Proofs.Ytkgoanjemhbjgaa
open Go Go.Den
def mOk (m : List Int) : Bool := decide (m.length % 256 = 0) && decide (m.length ≤ 262144)
theorem c159 {s : Sl} {m : List Int} {w : World} (h : s.len = m.length) : CallW Try.prog 159 #[.slice s.a s.len s.cap] w (fun v w' => v = .bool (mOk m) ∧ w' = w) := by
  refine go159 ?_
  unfold W159
  refine ⟨by omega, ?_⟩
  simp only [join_and]
  refine ⟨?_, by trivial⟩
  congr 1
  rw [h, Int.tmod_eq_emod_of_nonneg (by omega)]
  unfold mOk
  apply Bool.eq_iff_iff.2
  simp only [Bool.and_eq_true, decide_eq_true_eq, beq_iff_eq]
  omega
theorem c155 {s : Sl} {m : List Int} {w : World} (h : s.len = m.length) : CallW Try.prog 155 #[.slice s.a s.len s.cap] w (fun v w' => v = .bool (mOk m) ∧ w' = w) := by
  refine go155 ?_
  unfold W155
  refine ⟨by omega, ?_⟩
  simp only [join_and]
  refine ⟨?_, by trivial⟩
  congr 1
  rw [h, Int.tmod_eq_emod_of_nonneg (by omega)]
  unfold mOk
  apply Bool.eq_iff_iff.2
  simp only [Bool.and_eq_true, decide_eq_true_eq, beq_iff_eq]
  omega
def POk (m : List Int) (T : Int) (fr : List DBlock) : Prop := m.length % 256 = 0 ∧ m.length ≤ 262144 ∧ FOk T fr ∧ T = ((m.length / 256 : Nat) : Int)
theorem c99 {sm sf : Sl} {m : List Int} {T : Int} {fr : List DBlock} {w : World} (hm : Bytes w sm m) (hf : FrAt w sf fr) : CallW Try.prog 99 #[.agg #[.slice sm.a sm.len sm.cap, .int .i64 T, .slice sf.a sf.len sf.cap]] w (KB (POk m T fr) w) := by
  refine go99 ?_
  unfold W99
  have hl := hm.len
  have hsm := hm.small
  refine alloc_step (fun w1 e hb n1 => ?_)
  refine ⟨sm, hb.cell 0, (c159 hl).mono ?_⟩
  rintro _ w1 ⟨rfl, rfl⟩
  refine ⟨_, rfl, ?_⟩
  refine JoinW.cut1 (fun (b : Bool) w' => (b = true ↔ m.length % 256 = 0 ∧ m.length ≤ 262144 ∧ FOk T fr) ∧ Ext w1 w') ?_ ?_
  · refine BIf.of (fun h => ⟨_, hb.cell 1, sf, hb.cell 2, (c160 (hf.ext e)).mono ?_⟩) (fun h => ⟨⟨(fun h => nomatch h), fun hp => ?_⟩, Only.refl _ _⟩)
    · rintro _ w2 ⟨b, rfl, hiff, e2⟩
      refine ⟨b, rfl, ?_, e2⟩
      rw [hiff]
      simp only [mOk, Bool.and_eq_true, decide_eq_true_eq] at h
      exact ⟨fun hp => ⟨h.1, h.2, hp⟩, fun hp => hp.2.2⟩
    · simp only [mOk, Bool.and_eq_false_iff, decide_eq_false_iff_not] at h
      have := hp.1; have := hp.2.1
      omega
  rintro (b : Bool) w2 ⟨hiff, e2⟩
  have hb2 := hb.ext e2
  refine JoinW.cut1 (fun (b : Bool) w' => (b = true ↔ POk m T fr) ∧ w' = w2) ?_ ?_
  · refine BIf.of (fun h => ⟨_, hb2.cell 1, sm, hb2.cell 0, by omega, ?_, rfl⟩) (fun h => ⟨⟨(fun h => nomatch h), fun hp => ?_⟩, rfl⟩)
    · have hp := hiff.1 h
      rw [hl, Int.tdiv_eq_ediv_of_nonneg (by omega), w64 (by omega) (by omega), beq_iff_eq]
      exact ⟨fun hT => ⟨hp.1, hp.2.1, hp.2.2, by omega⟩, fun h => by have := h.2.2.2; omega⟩
    · rw [hiff.2 ⟨hp.1, hp.2.1, hp.2.2.1⟩] at h; cases h
  rintro (b : Bool) w2 ⟨hiff2, rfl⟩
  exact ⟨b, rfl, hiff2, Only.trans e e2⟩
theorem c94 {sm sf : Sl} {m : List Int} {T : Int} {fr : List DBlock} {w : World} (hm : Bytes w sm m) (hf : FrAt w sf fr) : CallW Try.prog 94 #[.agg #[.slice sm.a sm.len sm.cap, .int .i64 T, .slice sf.a sf.len sf.cap]] w (KB (POk m T fr) w) := by
  refine go94 ?_
  unfold W94
  have hl := hm.len
  have hsm := hm.small
  refine alloc_step (fun w1 e hb n1 => ?_)
  refine ⟨sm, hb.cell 0, (c155 hl).mono ?_⟩
  rintro _ w1 ⟨rfl, rfl⟩
  refine ⟨_, rfl, ?_⟩
  refine JoinW.cut1 (fun (b : Bool) w' => (b = true ↔ m.length % 256 = 0 ∧ m.length ≤ 262144 ∧ FOk T fr) ∧ Ext w1 w') ?_ ?_
  · refine BIf.of (fun h => ⟨_, hb.cell 1, sf, hb.cell 2, (c134 (hf.ext e)).mono ?_⟩) (fun h => ⟨⟨(fun h => nomatch h), fun hp => ?_⟩, Only.refl _ _⟩)
    · rintro _ w2 ⟨b, rfl, hiff, e2⟩
      refine ⟨b, rfl, ?_, e2⟩
      rw [hiff]
      simp only [mOk, Bool.and_eq_true, decide_eq_true_eq] at h
      exact ⟨fun hp => ⟨h.1, h.2, hp⟩, fun hp => hp.2.2⟩
    · simp only [mOk, Bool.and_eq_false_iff, decide_eq_false_iff_not] at h
      have := hp.1; have := hp.2.1
      omega
  rintro (b : Bool) w2 ⟨hiff, e2⟩
  have hb2 := hb.ext e2
  refine JoinW.cut1 (fun (b : Bool) w' => (b = true ↔ POk m T fr) ∧ w' = w2) ?_ ?_
  · refine BIf.of (fun h => ⟨_, hb2.cell 1, sm, hb2.cell 0, by omega, ?_, rfl⟩) (fun h => ⟨⟨(fun h => nomatch h), fun hp => ?_⟩, rfl⟩)
    · have hp := hiff.1 h
      rw [hl, Int.tdiv_eq_ediv_of_nonneg (by omega), w64 (by omega) (by omega), beq_iff_eq]
      exact ⟨fun hT => ⟨hp.1, hp.2.1, hp.2.2, by omega⟩, fun h => by have := h.2.2.2; omega⟩
    · rw [hiff.2 ⟨hp.1, hp.2.1, hp.2.2.1⟩] at h; cases h
  rintro (b : Bool) w2 ⟨hiff2, rfl⟩
  exact ⟨b, rfl, hiff2, Only.trans e e2⟩
/-! ## Which frames are free -/
def setR (l : List Bool) (a : Nat) : Nat → List Bool
  | 0 => l
  | k + 1 => (setR l a k).set (a + k) true
def fmapF : List DBlock → List Bool → List Bool
  | [], l => l
  | b :: r, l => fmapF r (setR l b.At.toNat (pw b.Order).toNat)
def freeL (T : Int) (fr : List DBlock) : List Bool := fmapF fr (List.replicate T.toNat false)
theorem setR_len (l : List Bool) (a : Nat) : ∀ k, (setR l a k).length = l.length
  | 0 => rfl
  | k + 1 => by unfold setR; rw [List.length_set, setR_len l a k]
theorem fmapF_app : ∀ (a b : List DBlock) (l : List Bool), fmapF (a ++ b) l = fmapF b (fmapF a l)
  | [], b, l => rfl
  | x :: a, b, l => fmapF_app a b (setR l x.At.toNat (pw x.Order).toNat)
theorem fmapF_len : ∀ (a : List DBlock) (l : List Bool), (fmapF a l).length = l.length
  | [], l => rfl
  | x :: a, l => by unfold fmapF; rw [fmapF_len a, setR_len]
theorem freeL_len (T : Int) (fr : List DBlock) : (freeL T fr).length = T.toNat := by unfold freeL; rw [fmapF_len, List.length_replicate]
theorem fmapF_take {fr : List DBlock} {k : Nat} {x : DBlock} (hx : fr[k]? = some x) (l : List Bool) : fmapF (fr.take (k + 1)) l = setR (fmapF (fr.take k) l) x.At.toNat (pw x.Order).toNat := by
  rw [List.take_add_one, hx, fmapF_app]; rfl
def bools (l : List Bool) : List Value := l.map Value.bool
theorem bools_len (l : List Bool) : (bools l).length = l.length := by unfold bools; simp
theorem bools_set (l : List Bool) (i : Nat) (b : Bool) : (bools l).set i (.bool b) = bools (l.set i b) := by unfold bools; rw [List.map_set]
theorem zeros_bool : ∀ n, zerosOf [Value.bool false] n = bools (List.replicate n false)
  | 0 => rfl
  | n + 1 => by rw [zerosOf, zeros_bool n, List.replicate_succ]; rfl
theorem set1_step {w : World} {b i : Nat} {vs : List Value} {v : Value} {k : World → Prop} (hb : Blk w b vs) (hi : i < vs.length) (h : ∀ w2, Only (fun j => j = b) w w2 → Blk w2 b (vs.set i v) → w2.heap.size = w.heap.size → k w2) :
    May w ((⟨b, 0, none⟩ : Addr).add (i * 1)) ∧ LetW (w.setCell ((⟨b, 0, none⟩ : Addr).add (i * 1)) v) k := by
  rw [add_mk, Nat.zero_add, Nat.mul_one]
  exact set_step hb hi h
/-- The map of free frames, made. -/
def FreeV (T : Int) (fr : List DBlock) (w : World) (v : Value) (w' : World) : Prop := ∃ b, v = .slice (some ⟨b, 0, none⟩) T.toNat T.toNat ∧ w.heap.size ≤ b ∧ Blk w' b (bools (freeL T fr)) ∧ Ext w w'
theorem c153 {l : Sl} {T : Int} {fr : List DBlock} {w : World} (h : FrAt w l fr) (hf : FOk T fr) : CallW Try.prog 153 #[.agg #[.int .i64 T, .slice l.a l.len l.cap]] w (FreeV T fr w) := by
  refine go153 ?_
  unfold W153
  have hT0 := hf.1
  have hT1 := hf.2.1
  refine alloc_step (fun w1 e hb n1 => ?_)
  refine ⟨_, hb.cell 0, by omega, by omega, by omega, by omega, alloc_step (fun w3 e3 hm n3 => ?_)⟩
  have hm : Blk w3 w1.heap.size (bools (fmapF (fr.take 0) (List.replicate T.toNat false))) := by
    rw [show zerosOf ti4.zero T.toNat = bools (List.replicate T.toNat false) from zeros_bool _] at hm
    exact hm
  have hb3 := hb.ext e3
  have h3 := h.ext (Only.trans e e3)
  have hl := h.len
  have hfew := h.few
  refine LoopW.m1 (fun (i : Int) w' => ∃ k : Nat, i = k ∧ k ≤ fr.length ∧ Blk w' w1.heap.size (bools (fmapF (fr.take k) (List.replicate T.toNat false))) ∧ Only (fun j => j = w1.heap.size) w3 w') (fun (i : Int) _ => ((fr.length : Int) - i).toNat) ⟨0, rfl, by omega, hm, Only.refl _ _⟩ ?_
  rintro (i : Int) w6 ⟨k, rfl, hk, hm6, o6⟩ J hJ
  have e16 : Ext w1 w6 := e3.own o6 (fun j hj => by omega)
  have hb6 := hb.ext e16
  refine ⟨l, hb6.cell 1, ?_⟩
  rw [hl]
  refine BIf.dec (fun hlt => ?_) (fun hge => ?_)
  · obtain ⟨x, hx⟩ : ∃ x, fr[k]? = some x := ⟨_, List.getElem?_eq_getElem (by omega)⟩
    have hbo := blkOk_out (hf.2.2 k x hx).1
    have hpw := pw_rng (o := x.Order) (by omega)
    refine LoopW.m1 (fun (i : Int) w' => ∃ q : Nat, i = q ∧ q ≤ (pw x.Order).toNat ∧ Blk w' w1.heap.size (bools (setR (fmapF (fr.take k) (List.replicate T.toNat false)) x.At.toNat q)) ∧ Only (fun j => j = w1.heap.size) w3 w') (fun (i : Int) _ => (pw x.Order - i).toNat) ⟨0, rfl, by omega, hm6, o6⟩ ?_
    rintro (i : Int) w10 ⟨q, rfl, hq, hm10, o10⟩ J2 hJ2
    have e10 : Ext w1 w10 := e3.own o10 (fun j hj => by omega)
    have hb10 := hb.ext e10
    obtain ⟨p, hp, hc0, hc1⟩ := (h.ext (Only.trans e e10)).get hx
    refine ⟨l, hb10.cell 1, by omega, by omega, p, hp, _, hc1, (c176 hbo.1 (by omega)).mono ?_⟩
    rintro _ w10 ⟨rfl, rfl⟩
    refine ⟨_, rfl, BIf.dec (fun hq2 => ?_) (fun hq2 => ?_)⟩
    · have hidx : IntKind.i64.wrap (x.At + (q : Int)) = ((x.At.toNat + q : Nat) : Int) := by rw [w64 (by omega) (by omega)]; omega
      refine ⟨l, hb10.cell 1, by omega, by omega, p, hp, _, hc0, ?_⟩
      rw [hidx, Int.toNat_natCast]
      refine ⟨by omega, by omega, _, rfl, set1_step hm10 (by rw [bools_len, setR_len, fmapF_len, List.length_replicate]; omega) (fun w21 o21 hm21 n21 => ?_)⟩
      rw [w64 (by omega) (by omega)]
      rw [bools_set] at hm21
      exact hJ2 _ _ ⟨q + 1, by omega, by omega, hm21, Only.trans o10 o21⟩ (by omega)
    · have hq3 : q = (pw x.Order).toNat := by omega
      subst hq3
      rw [w64 (by omega) (by omega)]
      refine hJ _ _ ⟨k + 1, by omega, by omega, ?_, o10⟩ (by omega)
      rw [fmapF_take hx]; exact hm10
  · rw [List.take_of_length_le (by omega)] at hm6
    exact ⟨_, rfl, by omega, hm6, Only.trans e e16⟩
theorem c150 {l : Sl} {T : Int} {fr : List DBlock} {w : World} (h : FrAt w l fr) (hf : FOk T fr) : CallW Try.prog 150 #[.agg #[.int .i64 T, .slice l.a l.len l.cap]] w (FreeV T fr w) := by
  refine go150 ?_
  unfold W150
  have hT0 := hf.1
  have hT1 := hf.2.1
  refine alloc_step (fun w1 e hb n1 => ?_)
  refine ⟨_, hb.cell 0, by omega, by omega, by omega, by omega, alloc_step (fun w3 e3 hm n3 => ?_)⟩
  have hm : Blk w3 w1.heap.size (bools (fmapF (fr.take 0) (List.replicate T.toNat false))) := by
    rw [show zerosOf ti4.zero T.toNat = bools (List.replicate T.toNat false) from zeros_bool _] at hm
    exact hm
  have hb3 := hb.ext e3
  have hl := h.len
  have hfew := h.few
  refine ⟨l, hb3.cell 1, ?_⟩
  rw [hl]
  refine LoopW.m1 (fun (i : Int) w' => ∃ k : Nat, i = k ∧ k ≤ fr.length ∧ Blk w' w1.heap.size (bools (fmapF (fr.take k) (List.replicate T.toNat false))) ∧ Ext w1 w' ∧ w1.heap.size < w'.heap.size) (fun (i : Int) _ => ((fr.length : Int) - i).toNat) ⟨0, rfl, by omega, hm, e3, by omega⟩ ?_
  rintro (i : Int) w6 ⟨k, rfl, hk, hm6, e16, z6⟩ J hJ
  have hb6 := hb.ext e16
  refine BIf.dec (fun hlt => ?_) (fun hge => ?_)
  · obtain ⟨x, hx⟩ : ∃ x, fr[k]? = some x := ⟨_, List.getElem?_eq_getElem (by omega)⟩
    have hbo := blkOk_out (hf.2.2 k x hx).1
    have hpw := pw_rng (o := x.Order) (by omega)
    obtain ⟨p, hp, hc0, hc1⟩ := (h.ext (Only.trans e e16)).get hx
    refine ⟨by omega, by omega, p, hp, _, hc0, _, hc1, alloc_step (fun w11 e11 hz n11 => blk_put2 hz (fun w12 o12 hz n12 => ?_))⟩
    have e12 : Ext w6 w12 := e11.own o12 (fun j hj => by omega)
    have hm12 := hm6.ext e12
    refine ⟨_, hz.cell 1, ?_⟩
    rw [shl_pw hbo.1 (by omega)]
    refine ⟨by omega, ?_⟩
    refine LoopW.m1 (fun (i : Int) w' => ∃ q : Nat, i = q ∧ q ≤ (pw x.Order).toNat ∧ Blk w' w1.heap.size (bools (setR (fmapF (fr.take k) (List.replicate T.toNat false)) x.At.toNat q)) ∧ Blk w' w6.heap.size [.int .i64 x.At, .int .i64 x.Order] ∧ Ext w1 w' ∧ w6.heap.size < w'.heap.size) (fun (i : Int) _ => (pw x.Order - i).toNat) ⟨0, rfl, by omega, hm12, hz, Only.trans e16 e12, by omega⟩ ?_
    rintro (i : Int) w16 ⟨q, rfl, hq, hm16, hz16, e116, z16⟩ J2 hJ2
    refine BIf.dec (fun hq2 => ?_) (fun hq2 => ?_)
    · have hidx : IntKind.i64.wrap (x.At + (q : Int)) = ((x.At.toNat + q : Nat) : Int) := by rw [w64 (by omega) (by omega)]; omega
      refine ⟨_, hz16.cell 0, ?_⟩
      rw [hidx, Int.toNat_natCast]
      refine ⟨by omega, by omega, _, rfl, set1_step hm16 (by rw [bools_len, setR_len, fmapF_len, List.length_replicate]; omega) (fun w21 o21 hm21 n21 => ?_)⟩
      rw [w64 (by omega) (by omega)]
      rw [bools_set] at hm21
      exact hJ2 _ _ ⟨q + 1, by omega, by omega, hm21, hz16.only o21 (by omega), e116.own o21 (fun j hj => by omega), by omega⟩ (by omega)
    · have hq3 : q = (pw x.Order).toNat := by omega
      subst hq3
      rw [w64 (by omega) (by omega)]
      refine hJ _ _ ⟨k + 1, by omega, by omega, ?_, e116, by omega⟩ (by omega)
      rw [fmapF_take hx]; exact hm16
  · rw [List.take_of_length_le (by omega)] at hm6
    exact ⟨_, rfl, by omega, hm6, Only.trans e e16⟩
/-! ## Copies -/
theorem OwnS.capLe {w : World} {b0 z : Nat} {s : Sl} {vs : List Value} (h : OwnS w b0 s z vs) : s.len ≤ s.cap := by
  rcases h.2 with ⟨h1, h2⟩ | ⟨b, cs, _, _, _, _, h, _⟩
  · omega
  · exact h
theorem blocks_len (fr : List DBlock) : (fr.flatMap DBlock.cells).length = fr.length * 2 := flatMap_length DBlock.cells 2 (fun _ => rfl) fr
theorem plain_int {k : IntKind} {l : List Int} : ∀ v, v ∈ l.map (Value.int k) → plainB v = true := fun v hv => by obtain ⟨x, _, rfl⟩ := List.mem_map.1 hv; rfl
theorem plain_blk {fr : List DBlock} : ∀ v, v ∈ fr.flatMap DBlock.cells → plainB v = true := fun v hv => by
  obtain ⟨x, _, hx⟩ := List.mem_flatMap.1 hv
  simp only [DBlock.cells, List.mem_cons, List.not_mem_nil, or_false] at hx
  rcases hx with rfl | rfl <;> rfl
theorem c156 {s : Sl} {m : List Int} {w : World} (h : Bytes w s m) : CallW Try.prog 156 #[.slice s.a s.len s.cap] w (fun v w' => ∃ t : Sl, v = .slice t.a t.len t.cap ∧ OwnS w' w.heap.size t 1 (m.map (Value.int .u8)) ∧ Ext w w') := by
  refine go156 ?_
  unfold W156
  have hl := h.len
  have hs := h.small
  refine AppendW.own (b0 := w.heap.size) (z := 1) (os := []) (vs := m.map (Value.int .u8)) (OwnS.none _ _ _ _) (by rw [Nat.mul_one]; exact h.row) rfl rfl (by decide) (by show (0 + s.len) * 1 ≤ _; omega) plain_int (Nat.le_refl _) (fun s' w' h1 h2 h3 h4 => ?_)
  refine ⟨s', rfl, h2, h3.mono (fun k hk hh => ?_)⟩
  exact absurd hh.2 (by simp)
theorem c149 {l : Sl} {T : Int} {fr : List DBlock} {w : World} (h : FrAt w l fr) : CallW Try.prog 149 #[.agg #[.int .i64 T, .slice l.a l.len l.cap]] w (fun v w' => ∃ t : Sl, v = .agg #[.int .i64 T, .slice t.a t.len t.cap] ∧ OwnS w' w.heap.size t 2 (fr.flatMap DBlock.cells) ∧ Ext w w') := by
  refine go149 ?_
  unfold W149
  have hl := h.len
  have hs := h.few
  refine alloc_step (fun w1 e1 hb n1 => ?_)
  refine alloc_step (fun w2 e2 hz n2 => ?_)
  have hb := hb.ext e2
  have e := Only.trans e1 e2
  refine ⟨l, hb.cell 1, ?_⟩
  refine AppendW.own (b0 := w2.heap.size) (z := 2) (os := []) (vs := fr.flatMap DBlock.cells) (OwnS.none _ _ _ _) ((h.ext e).row) rfl rfl (by decide) (by show (0 + l.len) * 16 ≤ _; omega) plain_blk (Nat.le_refl _) (fun s' w5 h1 h2 h3 h4 => ?_)
  have e5 : Ext w2 w5 := h3.mono (fun k hk hh => absurd hh.2 (by simp))
  have hb := hb.ext e5
  have hz := hz.ext e5
  have e := Only.trans e e5
  have z5 := e5.size
  refine set_step hb (by simp) (fun w6 o6 hb n6 => ?_)
  have hz := hz.only o6 (by omega)
  have e := Ext.own e o6 (fun k hk => by omega)
  have h2 : OwnS w6 w2.heap.size s' 2 (fr.flatMap DBlock.cells) := h2.only o6 (fun b _ hb0 _ => by omega)
  refine ⟨_, hb.cell 0, s', hb.cell 1, put_step hz rfl rfl (fun w9 o9 hz n9 => ?_)⟩
  have e := Ext.own e o9 (fun k hk => by omega)
  have h2 := h2.only o9 (fun b _ hb0 _ => by omega)
  exact ⟨_, hz.cell 0, s', hz.cell 1, s', rfl, h2.mono (by omega), e⟩
/-- A slice's row does not lie in that block. -/
def Apart (s : Sl) (q : Nat) : Prop := 0 < s.cap → s.a ≠ some ⟨q, 0, none⟩
theorem OwnS.where_ {w : World} {b0 z : Nat} {s : Sl} {vs : List Value} (h : OwnS w b0 s z vs) (hc : 0 < s.cap) : ∃ q, s.a = some ⟨q, 0, none⟩ ∧ b0 ≤ q ∧ q < w.heap.size := by
  rcases h.2 with ⟨h1, h2⟩ | ⟨b, cs, ha, hb, hbl, _⟩
  · omega
  · exact ⟨b, ha, hb, hbl.lt⟩
/-- A pool that is worked on. -/
structure PoolAt (w : World) (b0 b : Nat) (sm sf : Sl) (m : List Int) (T : Int) (fr : List DBlock) : Prop where
  blk : Blk w b [.slice sm.a sm.len sm.cap, .int .i64 T, .slice sf.a sf.len sf.cap]
  mem : OwnS w b0 sm 1 (m.map (Value.int .u8))
  frs : OwnS w b0 sf 2 (fr.flatMap DBlock.cells)
  hb : b0 ≤ b
  mb : Apart sm b
  fb : Apart sf b
  mf : ∀ q, 0 < sm.cap → sm.a = some ⟨q, 0, none⟩ → Apart sf q
theorem c95 {sm sf : Sl} {m : List Int} {T : Int} {fr : List DBlock} {w : World} (hm : Bytes w sm m) (hf : FrAt w sf fr) : CallW Try.prog 95 #[.agg #[.slice sm.a sm.len sm.cap, .int .i64 T, .slice sf.a sf.len sf.cap]] w
    (fun v w' => ∃ b tm tf, v = .pointer (some ⟨b, 0, none⟩) ∧ PoolAt w' w.heap.size b tm tf m T fr ∧ Ext w w') := by
  refine go95 ?_
  unfold W95
  refine alloc_step (fun w1 e1 hb n1 => ?_)
  have e := Only.trans e1 (ext_drew w1)
  have hb := hb.ext (ext_drew w1)
  have z1 : w1.drew.heap.size = w1.heap.size := rfl
  generalize w1.drew = w2 at *
  refine ⟨sm, hb.cell 0, _, hb.cell 1, sf, hb.cell 2, (c156 (hm.ext e)).mono ?_⟩
  rintro _ w6 ⟨tm, rfl, om, e6⟩
  have hb := hb.ext e6
  have e := Only.trans e e6
  refine ⟨tm, rfl, ⟨_, hb.cell 1, sf, hb.cell 2, rfl⟩, (c149 (hf.ext e)).mono ?_⟩
  rintro _ w11 ⟨tf, rfl, of, e11⟩
  refine ⟨_, tf, rfl, alloc_step (fun w14 e14 hp n14 => ?_)⟩
  have z6 := e6.size
  have z11 := e11.size
  refine ⟨_, tm, tf, rfl, ⟨hp, (om.ext (Only.trans e11 e14)).mono (by omega), (of.ext e14).mono (by omega), by omega, fun hc ha => ?_, fun hc ha => ?_, fun q hc hq hc2 ha => ?_⟩, Only.trans e (Only.trans e11 e14)⟩
  · obtain ⟨q, hq, _, hlt⟩ := OwnS.where_ om hc
    rw [hq] at ha; cases ha; omega
  · obtain ⟨q, hq, _, hlt⟩ := OwnS.where_ of hc
    rw [hq] at ha; cases ha; omega
  · obtain ⟨q1, hq1, _, hlt1⟩ := OwnS.where_ om hc
    obtain ⟨q2, hq2, hge, _⟩ := OwnS.where_ of hc2
    rw [hq1] at hq; cases hq
    rw [hq2] at ha; cases ha; omega
/-! ## An entry read -/
theorem byt_cut {m : List Int} {a : Nat} {i : Int} (h0 : 0 ≤ i) (h1 : i < 8) : byt ((m.drop a).take 8) i = byt m ((a : Int) + i) := by
  obtain ⟨n, rfl⟩ := Int.eq_ofNat_of_zero_le h0
  unfold byt
  rw [Int.toNat_natCast, show ((a : Int) + (n : Int)).toNat = a + n by omega]
  simp only [List.getD_eq_getElem?_getD, List.getElem?_take, List.getElem?_drop]
  rw [if_pos (by omega)]
theorem hornr_congr {m m' : List Int} {a a' : Int} : ∀ (k : Nat) (x : Int), (∀ i : Int, 0 ≤ i → i < k → byt m (a + i) = byt m' (a' + i)) → hornr m a k x = hornr m' a' k x
  | 0, x, h => rfl
  | k + 1, x, h => by
    unfold hornr
    rw [h (k : Int) (by omega) (by omega)]
    exact hornr_congr k _ (fun i h0 h1 => h i h0 (by omega))
theorem word_cut (m : List Int) (a : Nat) : word ((m.drop a).take 8) 0 = word m a := by
  unfold word
  refine hornr_congr 8 0 (fun i h0 h1 => ?_)
  rw [Int.zero_add]
  exact byt_cut h0 h1
theorem c124 {s : Sl} {m : List Int} {a : Int} {w : World} (h : Bytes w s m) (h0 : 0 ≤ a) (h1 : a + 8 ≤ m.length) : CallW Try.prog 124 #[.slice s.a s.len s.cap, .int .i64 a] w (fun v w' => v = .int .u64 (word m a) ∧ w' = w) := by
  refine go124 ?_
  unfold W124
  have hl := h.len
  have hc := h.cap
  have hs := h.small
  rw [w64 (by omega) (by omega)]
  refine ⟨by omega, by omega, by omega, by omega, ?_⟩
  obtain ⟨n, rfl⟩ := Int.eq_ofNat_of_zero_le h0
  rw [Int.toNat_natCast, show ((n : Int) + 8).toNat - n = 8 by omega]
  refine (c174 (h.cut (a := n) (by omega)) (by omega) (by simp; omega)).mono ?_
  rintro _ w ⟨rfl, rfl⟩
  exact ⟨_, _, rfl, by rw [word_cut], rfl⟩
theorem c126 {b : Nat} {sm : Sl} {x y : Value} {m : List Int} {t i : Int} {w : World} (hp : Blk w b [.slice sm.a sm.len sm.cap, x, y]) (h : Bytes w sm m) (h0 : 0 ≤ t) (hi : 0 ≤ i) (hi2 : i < 32) (h1 : t * 256 + 256 ≤ m.length) : CallW Try.prog 126 #[.pointer (some ⟨b, 0, none⟩), .int .i64 t, .int .i64 i] w (fun v w' => v = .int .u64 (word m (t * 256 + 8 * i)) ∧ w' = w) := by
  refine go126 ?_
  unfold W126
  have hs := h.small
  refine ⟨_, rfl, sm, hp.cell 0, ?_⟩
  rw [w64 (n := t * 256) (by omega) (by omega), w64 (n := 8 * i) (by omega) (by omega), w64 (by omega) (by omega)]
  refine (c168 h (by omega) (by omega)).mono ?_
  rintro _ w ⟨rfl, rfl⟩
  exact ⟨_, _, rfl, rfl, rfl⟩
end Go.Proofs.Ytkgoanjemhbjgaa

/- Spaces: the tables of a space: what is found, and the reference's side. Conditions: none. -/
set_option linter.unusedVariables false
set_option linter.unusedSimpArgs false
namespace Go.Proofs.Ytkgoanjemhbjgaa
open Go Go.Den
/-- An entry at a level: none: it must not be; a page; or a table. -/
def cls (x lvl : Int) : Option Bool :=
  if kindS x lvl < 0 ∨ (kindS x lvl = 1 ∧ 0 < lvl) then none else if kindS x lvl = 0 then some false else some true
def scanT (x : Int → Int) (lvl : Int) (rec : Int → List Int → Option (List Int)) : Nat → List Int → Bool → Option (List Int × Bool)
  | 0, S, any => some (S, any)
  | k + 1, S, any => if x (31 - (k : Int)) = 0 then scanT x lvl rec k S any else match cls (x (31 - (k : Int))) lvl with
    | none => none
    | some true => scanT x lvl rec k S true
    | some false => match rec (efr (x (31 - (k : Int)))) S with
      | none => none
      | some S' => scanT x lvl rec k S' true
def entAt (m : List Int) (t i : Int) : Int := word m (t * 256 + 8 * i)
def tblStep (m : List Int) (free : List Bool) (lvl : Nat) (rec : Int → List Int → Option (List Int)) (t : Int) (S : List Int) : Option (List Int) :=
  if t < 0 ∨ (free.length : Int) ≤ t ∨ free.getD t.toNat false = true ∨ t ∈ S then none
  else match scanT (entAt m t) lvl rec 32 (S ++ [t]) (decide (lvl = 2)) with
    | some (S', true) => some S'
    | _ => none
def tblF (m : List Int) (free : List Bool) : Nat → Int → List Int → Option (List Int)
  | 0 => tblStep m free 0 (fun _ _ => none)
  | n + 1 => tblStep m free (n + 1) (tblF m free n)
def Adds (c : Nat) (rec : Int → List Int → Option (List Int)) : Prop := ∀ t S S', rec t S = some S' → ∃ add, S' = S ++ add ∧ add.length ≤ c
theorem scanT_adds {x : Int → Int} {lvl : Int} {rec : Int → List Int → Option (List Int)} {c : Nat} (hr : Adds c rec) : ∀ (k : Nat) (S : List Int) (any : Bool) (S' : List Int) (any' : Bool), scanT x lvl rec k S any = some (S', any') → ∃ add, S' = S ++ add ∧ add.length ≤ k * c
  | 0, S, any, S', any', h => by unfold scanT at h; injection h with h; injection h with h1 h2; exact ⟨[], by rw [h1, List.append_nil], by simp⟩
  | k + 1, S, any, S', any', h => by
    unfold scanT at h
    have hk : k * c ≤ (k + 1) * c := Nat.mul_le_mul_right c (by omega)
    split at h
    · obtain ⟨add, h1, h2⟩ := scanT_adds hr k _ _ _ _ h
      exact ⟨add, h1, by omega⟩
    · split at h
      · cases h
      · obtain ⟨add, h1, h2⟩ := scanT_adds hr k _ _ _ _ h
        exact ⟨add, h1, by omega⟩
      · split at h
        · cases h
        · rename_i S1 hS1
          obtain ⟨a1, h3, h4⟩ := hr _ _ _ hS1
          obtain ⟨add, h1, h2⟩ := scanT_adds hr k _ _ _ _ h
          exact ⟨a1 ++ add, by rw [h1, h3, List.append_assoc], by rw [List.length_append, Nat.succ_mul]; omega⟩
theorem tblStep_adds {m : List Int} {free : List Bool} {lvl : Nat} {rec : Int → List Int → Option (List Int)} {c : Nat} (hr : Adds c rec) : Adds (32 * c + 1) (tblStep m free lvl rec) := by
  intro t S S' h
  unfold tblStep at h
  split at h
  · cases h
  · split at h
    · rename_i S1 hS1
      injection h with h
      subst h
      obtain ⟨add, h1, h2⟩ := scanT_adds hr 32 _ _ _ _ hS1
      exact ⟨t :: add, by rw [h1]; simp, by simp; omega⟩
    · cases h
theorem adds0 : Adds 0 (fun _ _ => none) := fun t S S' h => by cases h
theorem tblF_adds {m : List Int} {free : List Bool} : Adds 1 (tblF m free 0) ∧ Adds 33 (tblF m free 1) ∧ Adds 1057 (tblF m free 2) :=
  have h0 : Adds 1 (tblF m free 0) := tblStep_adds adds0
  have h1 : Adds 33 (tblF m free 1) := tblStep_adds h0
  ⟨h0, h1, tblStep_adds h1⟩
/-! ## Which tables were seen -/
def seenL (n : Nat) (S : List Int) : List Bool := (List.range n).map (fun (i : Nat) => decide ((i : Int) ∈ S))
theorem seenL_len (n : Nat) (S : List Int) : (seenL n S).length = n := by simp [seenL]
theorem seenL_get {n : Nat} {S : List Int} {i : Nat} (h : i < n) : (bools (seenL n S))[i]? = some (.bool (decide ((i : Int) ∈ S))) := by
  unfold bools seenL
  rw [List.getElem?_map, List.getElem?_map, List.getElem?_range h]
  rfl
theorem seenL_set {n : Nat} {S : List Int} {i : Nat} (h : i < n) : (seenL n S).set i true = seenL n (S ++ [(i : Int)]) := by
  apply List.ext_getElem?
  intro j
  unfold seenL
  rw [List.getElem?_set]
  by_cases hij : i = j
  · subst hij
    rw [if_pos rfl, if_pos (by simpa using h), List.getElem?_map, List.getElem?_range h]
    simp
  · rw [if_neg hij, List.getElem?_map, List.getElem?_map]
    by_cases hj : j < n
    · rw [List.getElem?_range hj]
      simp [Ne.symm hij]
      intro hh
      exact absurd (by omega) hij
    · rw [List.getElem?_eq_none (by simp; omega)]; rfl
theorem seenL_nil (n : Nat) : seenL n [] = List.replicate n false := by
  apply List.ext_getElem?
  intro j
  unfold seenL
  rw [List.getElem?_map, List.getElem?_replicate]
  by_cases hj : j < n
  · rw [List.getElem?_range hj, if_pos hj]; simp
  · rw [if_neg hj, List.getElem?_eq_none (by simp; omega)]; rfl
theorem bools_get {l : List Bool} {i : Nat} (h : i < l.length) : (bools l)[i]? = some (.bool (l.getD i false)) := by
  unfold bools
  rw [List.getElem?_map, List.getElem?_eq_getElem h]
  simp [List.getD_eq_getElem?_getD, List.getElem?_eq_getElem h]
/-- Bytes that are older than what has turned. -/
theorem Bytes.only {S : Nat → Prop} {w w' : World} {s : Sl} {m : List Int} (h : Bytes w s m) (o : Only S w w') (hS : m ≠ [] → ∀ p, s.a = some p → p.block < w.heap.size → ¬ S p.block) : Bytes w' s m := by
  refine ⟨h.len, h.cap, ⟨h.row.1, fun hn => ?_⟩, h.rng, h.small⟩
  have hne : m ≠ [] := fun hm => by have := h.len; rw [hm] at this; simp at this; omega
  obtain ⟨p, hp, hc⟩ := h.row.2 hn
  refine ⟨p, hp, fun j v hj => ?_⟩
  have hcj := hc j v hj
  refine Only.cell o hcj ?_
  rw [add_block]
  refine hS hne p hp ?_
  have hlt : (p.add j).block < w.heap.size := by
    unfold World.cell? at hcj
    rcases hb : w.heap[(p.add j).block]? with _ | o
    · rw [hb] at hcj; exact absurd hcj (by simp)
    · exact (Array.getElem?_eq_some_iff.1 hb).1
  rwa [add_block] at hlt
theorem Bytes.old {w : World} {s : Sl} {m : List Int} (h : Bytes w s m) (hm : m ≠ []) {p : Addr} (hp : s.a = some p) : p.block < w.heap.size := by
  have hl : 0 < m.length := List.length_pos_iff.2 hm
  obtain ⟨q, hq, hc⟩ := h.row.cell (i := 0) (v := .int .u8 m[0]) (by rw [List.getElem?_map, List.getElem?_eq_getElem hl]; rfl)
  rw [hp] at hq; cases hq
  unfold World.cell? at hc
  rw [add_zero] at hc
  rcases hb : w.heap[p.block]? with _ | o
  · rw [hb] at hc; exact absurd hc (by simp)
  · exact (Array.getElem?_eq_some_iff.1 hb).1
structure TCtx (w : World) (sm : Sl) (m : List Int) (bf bs : Nat) (free : List Bool) (S : List Int) : Prop where
  mem : Bytes w sm m
  mo : m ≠ [] → ∀ p, sm.a = some p → p.block ≠ bs
  fr : Blk w bf (bools free)
  seen : Blk w bs (bools (seenL free.length S))
  ne : bf ≠ bs
  ml : m.length = 256 * free.length
  few : free.length ≤ 1024
theorem TCtx.only {w w' : World} {sm : Sl} {m : List Int} {bf bs : Nat} {free : List Bool} {S S' : List Int} (h : TCtx w sm m bf bs free S) (o : Only (fun k => k = bs) w w') (hs : Blk w' bs (bools (seenL free.length S'))) : TCtx w' sm m bf bs free S' :=
  ⟨h.mem.only o (fun hm p hp _ => h.mo hm p hp), h.mo, h.fr.only o h.ne, hs, h.ne, h.ml, h.few⟩
def TabV (sm : Sl) (m : List Int) (bf bs : Nat) (free : List Bool) (S : List Int) (res : Option (List Int)) (w : World) (v : Value) (w' : World) : Prop :=
  ∃ (l : Sl) (b : Bool), v = .tuple #[.slice l.a l.len l.cap, .bool b] ∧ Only (fun k => k = bs) w w' ∧ (res = none → b = false) ∧
    ∀ S', res = some S' → b = true ∧ Blk w' bs (bools (seenL free.length S')) ∧ ∃ add, S' = S ++ add ∧ OwnS w' w.heap.size l 1 (add.map (Value.int .i64))
theorem kindS_cases (x lvl : Int) : kindS x lvl = -4 ∨ kindS x lvl = -5 ∨ kindS x lvl = -6 ∨ kindS x lvl = 0 ∨ kindS x lvl = 1 := by
  unfold kindS
  repeat' split
  all_goals omega
theorem kindS_small {x lvl : Int} (h : kindS x lvl = 0 ∨ kindS x lvl = 1) : x < 1048576 := by
  unfold kindS at h
  by_cases hx : 1048576 ≤ x
  · rw [if_pos hx] at h
    split at h <;> omega
  · omega
theorem c152 {lvl : Nat} (hlv : lvl ≤ 2) {sm : Sl} {m : List Int} {bf bs : Nat} {free : List Bool} {rec : Int → List Int → Option (List Int)} (hadd : Adds 100 rec)
    (hrec : lvl = 0 ∨ ∀ {w : World} {t : Int} {S : List Int}, TCtx w sm m bf bs free S → CallW Try.prog 152 #[.slice sm.a sm.len sm.cap, .slice (some ⟨bf, 0, none⟩) free.length free.length, .slice (some ⟨bs, 0, none⟩) free.length free.length, .int .i64 t, .int .i64 ((lvl : Int) - 1)] w (TabV sm m bf bs free S (rec t S) w))
    {w : World} {t : Int} {S : List Int} (h : TCtx w sm m bf bs free S) :
    CallW Try.prog 152 #[.slice sm.a sm.len sm.cap, .slice (some ⟨bf, 0, none⟩) free.length free.length, .slice (some ⟨bs, 0, none⟩) free.length free.length, .int .i64 t, .int .i64 (lvl : Int)] w (TabV sm m bf bs free S (tblStep m free lvl rec t S) w) := by
  refine CallW.mono (go152 (a0 := sm) (a1 := ⟨some ⟨bf, 0, none⟩, free.length, free.length⟩) (a2 := ⟨some ⟨bs, 0, none⟩, free.length, free.length⟩) (K := TabV sm m bf bs free S (tblStep m free lvl rec t S) w) ?_) (fun _ _ h => h)
  unfold W152
  have hfew := h.few
  have hml := h.ml
  have hblt := h.seen.lt
  -- the table must not be
  have bad : ∀ w', Only (fun k => k = bs) w w' → tblStep m free lvl rec t S = none → ∀ l : Sl, TabV sm m bf bs free S (tblStep m free lvl rec t S) w (.tuple #[.slice l.a l.len l.cap, .bool false]) w' := fun w' o hn l => ⟨l, false, rfl, o, fun _ => rfl, fun S' hS => by rw [hn] at hS; cases hS⟩
  rw [join_or]
  refine JoinW.cut1 (fun (b : Bool) w' => (b = true ↔ t < 0 ∨ (free.length : Int) ≤ t ∨ free.getD t.toNat false = true) ∧ w' = w) ?_ ?_
  · refine BIf.of (fun h1 => ⟨?_, rfl⟩) (fun h1 => ?_)
    · simp only [Bool.or_eq_true, decide_eq_true_eq] at h1
      exact ⟨fun _ => by omega, fun _ => rfl⟩
    · simp only [Bool.or_eq_false_iff, decide_eq_false_iff_not] at h1
      refine ⟨by omega, by show t < ((free.length : Nat) : Int); omega, _, rfl, free.getD t.toNat false, ?_, ?_, rfl⟩
      · rw [add_mk, h.fr.cell, Nat.zero_add, Nat.mul_one, bools_get (by omega)]
      · exact ⟨fun hh => .inr (.inr hh), fun hh => by rcases hh with hh | hh | hh; omega; omega; exact hh⟩
  rintro (b : Bool) w0 ⟨hiff, rfl⟩
  refine JoinW.cut1 (fun (b : Bool) w' => (b = true ↔ t < 0 ∨ (free.length : Int) ≤ t ∨ free.getD t.toNat false = true ∨ t ∈ S) ∧ w' = w0) ?_ ?_
  · refine BIf.of (fun h1 => ⟨?_, rfl⟩) (fun h1 => ?_)
    · have := hiff.1 h1
      exact ⟨fun _ => by rcases this with h | h | h; exact .inl h; exact .inr (.inl h); exact .inr (.inr (.inl h)), fun _ => rfl⟩
    · have h2 : ¬ (t < 0 ∨ (free.length : Int) ≤ t ∨ free.getD t.toNat false = true) := fun hh => by rw [hiff.2 hh] at h1; cases h1
      refine ⟨by omega, by show t < ((free.length : Nat) : Int); omega, _, rfl, decide (t ∈ S), ?_, ?_, rfl⟩
      · rw [add_mk, h.seen.cell, Nat.zero_add, Nat.mul_one, seenL_get (by omega), show ((t.toNat : Nat) : Int) = t by omega]
      · rw [decide_eq_true_eq]
        exact ⟨fun hh => .inr (.inr (.inr hh)), fun hh => by
          rcases hh with hh | hh | hh | hh
          · exact absurd (.inl hh) h2
          · exact absurd (.inr (.inl hh)) h2
          · exact absurd (.inr (.inr hh)) h2
          · exact hh⟩
  clear hiff b
  rintro (b : Bool) w0 ⟨hiff, rfl⟩
  refine BIf.of (fun hb => ?_) (fun hb => ?_)
  · refine alloc_step (fun w1 e1 _ _ => bad _ e1.any ?_ ⟨_, 0, 0⟩)
    unfold tblStep
    rw [if_pos (hiff.1 hb)]
  have hok : ¬ (t < 0 ∨ (free.length : Int) ≤ t ∨ free.getD t.toNat false = true ∨ t ∈ S) := fun hh => by rw [hiff.2 hh] at hb; cases hb
  have hres : tblStep m free lvl rec t S = match scanT (entAt m t) lvl rec 32 (S ++ [t]) (decide (lvl = 2)) with | some (S', true) => some S' | _ => none := by
    unfold tblStep; rw [if_neg hok]
  generalize hR : scanT (entAt m t) lvl rec 32 (S ++ [t]) (decide (lvl = 2)) = R at hres
  have ht0 : 0 ≤ t := by omega
  have ht1 : t < free.length := by omega
  refine ⟨by omega, by show t < ((free.length : Nat) : Int); omega, _, rfl, set1_step h.seen (by rw [bools_len, seenL_len]; omega) (fun w12 o12 hs12 n12 => ?_)⟩
  rw [bools_set, seenL_set (by omega), show ((t.toNat : Nat) : Int) = t by omega] at hs12
  refine alloc_step (fun w13 e13 hl13 n13 => ?_)
  have o13 : Only (fun k => k = bs) w0 w13 := o12.step e13 (fun i hi hf => hf.elim)
  have own13 : OwnS w13 w0.heap.size ⟨some ⟨w12.heap.size, 0, none⟩, 1, 1⟩ 1 ([t].map (Value.int .i64)) := OwnS.new hl13 (by omega) rfl
  refine LoopW.m3 (fun (l : Sl) (any : Bool) (i : Int) w' => ∃ (k : Nat) (add : List Int), k ≤ 32 ∧ i = 32 - (k : Int) ∧ scanT (entAt m t) lvl rec k (S ++ add) (any || decide (lvl = 2)) = R ∧ add.length ≤ 1 + (32 - k) * 100 ∧ Only (fun k => k = bs) w0 w' ∧ Blk w' bs (bools (seenL free.length (S ++ add))) ∧ OwnS w' w0.heap.size l 1 (add.map (Value.int .i64))) (fun _ _ (i : Int) _ => (32 - i).toNat)
    ⟨32, [t], by omega, by omega, by rw [Bool.false_or]; exact hR, by simp, o13, hs12.ext e13, own13⟩ ?_
  rintro (l : Sl) (any : Bool) (i : Int) w18 ⟨k, add, hk, rfl, hsc, hal, o18, hs18, own18⟩ J hJ
  have h18 := h.only o18 hs18
  have z18 := o18.size
  refine BIf.dec (fun hlt => ?_) (fun hge => ?_)
  · obtain ⟨j, rfl⟩ : ∃ j, k = j + 1 := ⟨k - 1, by omega⟩
    have hidx : (32 : Int) - ((j + 1 : Nat) : Int) = 31 - (j : Int) := by omega
    rw [hidx]
    rw [w64 (n := t * 256) (by omega) (by omega), w64 (n := 8 * (31 - (j : Int))) (by omega) (by omega), w64 (n := t * 256 + 8 * (31 - (j : Int))) (by omega) (by omega)]
    refine (c124 h18.mem (by omega) (by omega)).mono ?_
    rintro _ w18 ⟨rfl, rfl⟩
    have hw := word_rng h.mem.rng (t * 256 + 8 * (31 - (j : Int)))
    have hwe : word m (t * 256 + 8 * (31 - (j : Int))) = entAt m t (31 - (j : Int)) := rfl
    rw [hwe] at hw ⊢
    rw [w64 (n := 31 - (j : Int) + 1) (by omega) (by omega)]
    unfold scanT at hsc
    generalize entAt m t (31 - (j : Int)) = x at *
    refine ⟨x, rfl, BIf.eq (fun hx => ?_) (fun hx => ?_)⟩
    · rw [if_pos hx] at hsc
      exact hJ _ _ _ _ ⟨j, add, by omega, by omega, hsc, by omega, o18, hs18, own18⟩ (by omega)
    · rw [if_neg hx] at hsc
      refine (c186 hw.1 hw.2 (by omega) (by omega)).mono ?_
      rintro _ w23 ⟨rfl, e23⟩
      have o23 : Only (fun k => k = bs) w0 w23 := o18.step e23 (fun i hi hf => hf.elim)
      have hs23 := hs18.ext e23
      have own23 := own18.ext e23
      refine ⟨_, rfl, ?_⟩
      refine JoinW.cut1 (fun (b : Bool) w' => (b = true ↔ (kindS x lvl < 0 ∨ (kindS x lvl = 1 ∧ 0 < (lvl : Int)))) ∧ w' = w23) ?_ ?_
      · refine BIf.dec (fun h1 => ⟨⟨fun _ => .inl h1, fun _ => rfl⟩, rfl⟩) (fun h1 => BIf.eq (fun h2 => ⟨?_, rfl⟩) (fun h2 => ⟨?_, rfl⟩))
        · rw [decide_eq_true_eq]; exact ⟨fun h3 => .inr ⟨h2, h3⟩, fun h3 => by omega⟩
        · exact ⟨(fun h => nomatch h), fun h3 => by omega⟩
      rintro (b : Bool) w23 ⟨hb2, rfl⟩
      refine BIf.of (fun hbt => ?_) (fun hbf => ?_)
      · have : cls x lvl = none := by unfold cls; rw [if_pos (hb2.1 hbt)]
        rw [this] at hsc
        refine bad _ o23 ?_ l
        rw [hres, ← hsc]
      · have hnb : ¬ (kindS x lvl < 0 ∨ (kindS x lvl = 1 ∧ 0 < (lvl : Int))) := fun hh => by rw [hb2.2 hh] at hbf; cases hbf
        refine BIf.eq (fun h0 => ?_) (fun h0 => ?_)
        · have hcl : cls x lvl = some false := by unfold cls; rw [if_neg hnb, if_pos h0]
          rw [hcl] at hsc
          have hxs := kindS_small (.inl h0)
          rcases hrec with hl0 | hrec
          · -- at level 0 there is none
            exfalso
            subst hl0
            unfold kindS at h0
            repeat' (split at h0)
            all_goals first
              | omega
              | (rename_i h9; simp at h9)
          refine (c123 hw.1 hxs).mono ?_
          rintro _ w29 ⟨rfl, e29⟩
          refine ⟨_, _, _, _, _, _, _, _, _, _, rfl, ?_⟩
          refine alloc_step (fun w40 e40 hz n40 => put_step hz rfl rfl (fun w41 o41 hz n41 => ?_))
          have e41 : Ext w23 w41 := Ext.own (Only.trans e29 e40) o41 (fun k hk => by have := e29.size; omega)
          have o41' : Only (fun k => k = bs) w0 w41 := o23.step e41 (fun i hi hf => hf.elim)
          have h41 := h.only o41' (hs23.ext e41)
          refine ⟨_, hz.cell 8, ?_⟩
          rw [w64 (by omega) (by omega)]
          refine (hrec h41).mono ?_
          rintro _ w44 ⟨l2, b2, rfl, o44, hn44, hs44⟩
          have o44' : Only (fun k => k = bs) w0 w44 := o41'.step o44 (fun i hi hf => hf)
          refine ⟨l2, b2, rfl, ?_⟩
          cases hr : rec (efr x) (S ++ add) with
          | none =>
            rw [hr] at hsc
            rw [hn44 hr]
            refine BIf.t rfl (bad _ o44' ?_ l)
            rw [hres, ← hsc]
          | some S2 =>
            rw [hr] at hsc
            obtain ⟨rfl, hseen, add2, hS2, own2⟩ := hs44 S2 hr
            obtain ⟨add3, hS3, hlen3⟩ := hadd _ _ _ hr
            have hadd2 : add3 = add2 := List.append_cancel_left (hS3.symm.trans hS2)
            subst hadd2
            refine BIf.f rfl ?_
            have own44 : OwnS w44 w0.heap.size l 1 (add.map (Value.int .i64)) := (own23.ext e41).only o44 (fun b _ hb0 _ hbb => by omega)
            have hll := own44.len
            have hll2 := own2.len
            rw [List.length_map, Nat.mul_one] at hll hll2
            have z44 := o44'.size
            have own2r := own2.row
            have hl2cap : RowAt w44 l2.a (l2.len * 1) (add3.map (Value.int .i64)) := own2r
            refine AppendW.own (b0 := w0.heap.size) (z := 1) own44 hl2cap rfl rfl (by decide) (by show (l.len + l2.len) * 8 ≤ _; omega) plain_int (by omega) (fun s' w48 h1 h2 h3 h4 => ?_)
            have o48 : Only (fun k => k = bs) w0 w48 := o44'.step h3 (fun i hi hf => by have := hf.1; omega)
            rw [← List.map_append] at h2
            refine hJ _ _ _ _ ⟨j, add ++ add3, by omega, by omega, ?_, by rw [List.length_append]; omega, o48, ?_, h2⟩ (by omega)
            · rw [Bool.true_or, ← List.append_assoc, ← hS3]; exact hsc
            · rw [← List.append_assoc, ← hS3]
              exact hseen.only h3 (fun hf => by have := hf.1; omega)
        · have hcl : cls x lvl = some true := by unfold cls; rw [if_neg hnb, if_neg h0]
          rw [hcl] at hsc
          refine hJ _ _ _ _ ⟨j, add, by omega, by omega, ?_, by omega, o23, hs23, own23⟩ (by omega)
          rw [Bool.true_or]; exact hsc
  · have hk0 : k = 0 := by omega
    subst hk0
    unfold scanT at hsc
    rw [join_or]
    have hd : ((lvl : Int) == 2) = decide (lvl = 2) := by
      apply Bool.eq_iff_iff.2
      rw [beq_iff_eq, decide_eq_true_eq]; omega
    rw [hd]
    refine ⟨l, _, rfl, o18, ?_, ?_⟩
    · rw [hres, ← hsc]
      intro hn
      cases hany : (any || decide (lvl = 2)) with
      | false => rfl
      | true => rw [hany] at hn; cases hn
    · rw [hres, ← hsc]
      intro S' hS
      cases hany : (any || decide (lvl = 2)) with
      | false => rw [hany] at hS; cases hS
      | true =>
        rw [hany] at hS
        injection hS with hS
        subst hS
        exact ⟨rfl, hs18, add, rfl, own18⟩
end Go.Proofs.Ytkgoanjemhbjgaa

/- Spaces: the reference's side of a space that can be; an entry on the program's side. Conditions: none. -/
set_option linter.unusedVariables false
set_option linter.unusedSimpArgs false
namespace Go.Proofs.Ytkgoanjemhbjgaa
open Go Go.Den
theorem specTab {sm : Sl} {m : List Int} {bf bs : Nat} {free : List Bool} {w : World} {t : Int} {S : List Int} (h : TCtx w sm m bf bs free S) :
    CallW Try.prog 152 #[.slice sm.a sm.len sm.cap, .slice (some ⟨bf, 0, none⟩) free.length free.length, .slice (some ⟨bs, 0, none⟩) free.length free.length, .int .i64 t, .int .i64 2] w (TabV sm m bf bs free S (tblF m free 2 t S) w) := by
  have h0 : ∀ {w : World} {t : Int} {S : List Int}, TCtx w sm m bf bs free S → CallW Try.prog 152 #[.slice sm.a sm.len sm.cap, .slice (some ⟨bf, 0, none⟩) free.length free.length, .slice (some ⟨bs, 0, none⟩) free.length free.length, .int .i64 t, .int .i64 (((1 : Nat) : Int) - 1)] w (TabV sm m bf bs free S (tblF m free 0 t S) w) :=
    fun {w t S} h => c152 (lvl := 0) (by omega) (rec := fun _ _ => none) (fun t S S' hh => by cases hh) (.inl rfl) h
  have h1 : ∀ {w : World} {t : Int} {S : List Int}, TCtx w sm m bf bs free S → CallW Try.prog 152 #[.slice sm.a sm.len sm.cap, .slice (some ⟨bf, 0, none⟩) free.length free.length, .slice (some ⟨bs, 0, none⟩) free.length free.length, .int .i64 t, .int .i64 (((2 : Nat) : Int) - 1)] w (TabV sm m bf bs free S (tblF m free 1 t S) w) :=
    fun {w t S} h => c152 (lvl := 1) (by omega) (rec := tblF m free 0) (fun t S S' hh => by obtain ⟨a, h1, h2⟩ := tblF_adds.1 t S S' hh; exact ⟨a, h1, by omega⟩) (.inr h0) h
  exact c152 (lvl := 2) (by omega) (rec := tblF m free 1) (fun t S S' hh => by obtain ⟨a, h1, h2⟩ := tblF_adds.2.1 t S S' hh; exact ⟨a, h1, by omega⟩) (.inr h1) h
open Classical in
/-- The tables of a space; none: it is no space. -/
noncomputable def spaceT (m : List Int) (T : Int) (fr : List DBlock) (root : Int) : Option (List Int) := if POk m T fr then tblF m (freeL T fr) 2 root [] else none
theorem spaceT_pos {m : List Int} {T : Int} {fr : List DBlock} {root : Int} (h : POk m T fr) : spaceT m T fr root = tblF m (freeL T fr) 2 root [] := by unfold spaceT; rw [if_pos h]
theorem spaceT_neg {m : List Int} {T : Int} {fr : List DBlock} {root : Int} (h : ¬ POk m T fr) : spaceT m T fr root = none := by unfold spaceT; rw [if_neg h]
def SpV (m : List Int) (T : Int) (fr : List DBlock) (root : Int) (w : World) (v : Value) (w' : World) : Prop :=
  ∃ (l : Sl), v = .tuple #[.slice l.a l.len l.cap, .bool (spaceT m T fr root).isSome] ∧ Ext w w' ∧ ∀ S', spaceT m T fr root = some S' → OwnS w' w.heap.size l 1 (S'.map (Value.int .i64))
theorem POk.len {m : List Int} {T : Int} {fr : List DBlock} (h : POk m T fr) : m.length = 256 * (freeL T fr).length := by
  rw [freeL_len]
  have h1 := h.1
  have h2 := h.2.2.2
  omega
theorem c91 {sm sf : Sl} {m : List Int} {T : Int} {fr : List DBlock} {root : Int} {w : World} (hm : Bytes w sm m) (hf : FrAt w sf fr) : CallW Try.prog 91 #[.agg #[.slice sm.a sm.len sm.cap, .int .i64 T, .slice sf.a sf.len sf.cap], .int .i64 root] w (SpV m T fr root w) := by
  refine go91 ?_
  unfold W91
  refine alloc_step (fun w1 e hb n1 => ?_)
  refine ⟨sm, hb.cell 0, _, hb.cell 1, sf, hb.cell 2, (c99 (hm.ext e) (hf.ext e)).mono ?_⟩
  rintro _ w6 ⟨b, rfl, hiff, e6⟩
  have e06 := Only.trans e e6
  have hb6 := hb.ext e6
  have z1 := e.size
  have z6 := e6.size
  refine ⟨b, rfl, BIf.of (fun hn => ?_) (fun hy => ?_)⟩
  · have hno : ¬ POk m T fr := fun h => by rw [hiff.2 h] at hn; cases hn
    refine alloc_step (fun w8 e8 _ _ => ⟨⟨some ⟨w6.heap.size, 0, none⟩, 0, 0⟩, ?_, Only.trans e06 e8, fun S' hS => ?_⟩)
    · rw [spaceT_neg hno]; rfl
    · rw [spaceT_neg hno] at hS; cases hS
  have hok : POk m T fr := hiff.1 (by simpa using hy)
  have hT0 := hok.2.2.1.1
  have hT1 := hok.2.2.1.2.1
  have e7 := ext_drew w6
  have zd : w6.drew.heap.size = w6.heap.size := rfl
  have hb7 := hb6.ext e7
  have e07 := Only.trans e06 e7
  generalize w6.drew = w7 at *
  -- behind both orders
  have fin : ∀ (w31 : World) (bf bs : Nat), Ext w w31 → w.heap.size ≤ bf → w.heap.size ≤ bs → bf ≠ bs → Blk w31 bf (bools (freeL T fr)) → Blk w31 bs (bools (List.replicate T.toNat false)) →
      CallW Try.prog 152 #[.slice sm.a sm.len sm.cap, .slice (some ⟨bf, 0, none⟩) T.toNat T.toNat, .slice (some ⟨bs, 0, none⟩) T.toNat T.toNat, .int .i64 root, .int .i64 2] w31 (fun v w' => ∃ (l : Sl) (b : Bool), v = .tuple #[.slice l.a l.len l.cap, .bool b] ∧ SpV m T fr root w (.tuple #[.slice l.a l.len l.cap, .bool b]) w') := by
    intro w31 bf bs e31 hf0 hs0 hne hbf hbs
    have hctx : TCtx w31 sm m bf bs (freeL T fr) [] := ⟨hm.ext e31, fun hne p hp => by have := hm.old hne hp; omega, hbf, by rw [seenL_nil, freeL_len]; exact hbs, hne, hok.len, by rw [freeL_len]; omega⟩
    have hc := specTab (t := root) hctx
    rw [freeL_len] at hc
    refine hc.mono ?_
    rintro _ w36 ⟨l, b, rfl, o, hn, hs⟩
    have z31 := e31.size
    refine ⟨l, b, rfl, l, ?_, e31.own o (fun k hk => by omega), fun S' hS => ?_⟩
    · rw [spaceT_pos hok]
      cases hr : tblF m (freeL T fr) 2 root [] with
      | none => rw [hn hr]; rfl
      | some S' => rw [(hs S' hr).1]; rfl
    · rw [spaceT_pos hok] at hS
      obtain ⟨_, _, add, hadd, own⟩ := hs S' hS
      rw [hadd, List.nil_append]
      exact own.mono (by omega)
  refine ⟨sm, hb7.cell 0, _, hb7.cell 1, sf, hb7.cell 2, _, hb7.cell 1, ?_, ?_, trivial⟩
  · refine (c153 (hf.ext e07) hok.2.2.1).mono ?_
    rintro _ w27 ⟨bf, rfl, hbf0, hbf, e27⟩
    have hb27 := hb7.ext e27
    have z27 := e27.size
    refine ⟨⟨some ⟨bf, 0, none⟩, T.toNat, T.toNat⟩, rfl, ⟨_, hb27.cell 1, rfl⟩, ⟨sm, hb27.cell 0, rfl⟩, ⟨by omega, by omega, by omega, by omega, alloc_step (fun w31 e31 hs31 n31 => ?_)⟩, trivial⟩
    have hb31 := hb27.ext e31
    refine ⟨⟨_, hb31.cell 1, sf, hb31.cell 2, rfl⟩, ⟨sm, hb31.cell 0, rfl⟩, ?_, trivial⟩
    have hbl := hbf.lt
    refine (fin w31 bf w27.heap.size (Only.trans e07 (Only.trans e27 e31)) (by omega) (by omega) (by omega) (hbf.ext e31) (by rw [show zerosOf ti4.zero T.toNat = bools (List.replicate T.toNat false) from zeros_bool _] at hs31; exact hs31)).mono ?_
    rintro _ w36 ⟨l, b, rfl, hV⟩
    exact ⟨l, b, rfl, hV⟩
  · refine ⟨by omega, by omega, by omega, by omega, alloc_step (fun w13 e13 hs13 n13 => ?_)⟩
    have hb13 := hb7.ext e13
    have hs13 : Blk w13 w7.heap.size (bools (List.replicate T.toNat false)) := by rw [show zerosOf ti4.zero T.toNat = bools (List.replicate T.toNat false) from zeros_bool _] at hs13; exact hs13
    refine ⟨⟨_, hb13.cell 1, sf, hb13.cell 2, rfl⟩, ⟨sm, hb13.cell 0, rfl⟩, ?_, trivial⟩
    refine (c153 (hf.ext (Only.trans e07 e13)) hok.2.2.1).mono ?_
    rintro _ w18 ⟨bf, rfl, hbf0, hbf, e18⟩
    have hb18 := hb13.ext e18
    refine ⟨⟨some ⟨bf, 0, none⟩, T.toNat, T.toNat⟩, rfl, ⟨_, hb18.cell 1, rfl⟩, ⟨sm, hb18.cell 0, rfl⟩, ?_, trivial⟩
    refine (fin w18 bf w7.heap.size (Only.trans e07 (Only.trans e13 e18)) (by omega) (by omega) (by omega) hbf (hs13.ext e18)).mono ?_
    rintro _ w36 ⟨l, b, rfl, hV⟩
    exact ⟨l, b, rfl, hV⟩
theorem c33 {sm sf : Sl} {m : List Int} {T : Int} {fr : List DBlock} {root : Int} {w : World} (hm : Bytes w sm m) (hf : FrAt w sf fr) : CallW Try.prog 33 #[.agg #[.slice sm.a sm.len sm.cap, .int .i64 T, .slice sf.a sf.len sf.cap], .int .i64 root] w (fun v w' => v = .bool (spaceT m T fr root).isSome ∧ Ext w w') := by
  refine go33 ?_
  unfold W33
  refine alloc_step (fun w1 e hb n1 => ?_)
  refine ⟨sm, hb.cell 0, _, hb.cell 1, sf, hb.cell 2, (c91 (hm.ext e) (hf.ext e)).mono ?_⟩
  rintro _ w6 ⟨l, rfl, e6, _⟩
  exact ⟨l, _, rfl, rfl, Only.trans e e6⟩
/-! ## What an entry is, as the program asks -/
theorem cls_eq {x : Int} {lvl : Nat} (hl : lvl ≤ 2) : cls x lvl =
    if (!ebit x 0 || decide (1048576 ≤ x)) = true then none
    else if (ebit x 1 || ebit x 2 || ebit x 3) = true then (if ((lvl : Int) != 0 || (ebit x 2 && !ebit x 1)) = true then none else some true)
    else if ((lvl : Int) == 0 || ebit x 4 || ebit x 5 || ebit x 6) = true then none else some false := by
  unfold cls kindS
  have h0 : efr x % pgs ((0 : Nat) : Int) = 0 := by unfold pgs; simp [Int.emod_one]
  generalize ebit x 0 = b0
  generalize ebit x 1 = b1
  generalize ebit x 2 = b2
  generalize ebit x 3 = b3
  generalize ebit x 4 = b4
  generalize ebit x 5 = b5
  generalize ebit x 6 = b6
  have hlv : lvl = 0 ∨ lvl = 1 ∨ lvl = 2 := by omega
  by_cases hx : 1048576 ≤ x
  · rw [if_pos hx]
    cases b0 <;> simp [hx]
  · rw [if_neg hx]
    rcases hlv with rfl | rfl | rfl
    · rw [h0]
      cases b0 <;> cases b1 <;> cases b2 <;> cases b3 <;> cases b4 <;> cases b5 <;> cases b6 <;> simp [hx]
    · generalize efr x % pgs ((1 : Nat) : Int) = r
      by_cases hr : r = 0 <;> cases b0 <;> cases b1 <;> cases b2 <;> cases b3 <;> cases b4 <;> cases b5 <;> cases b6 <;> simp [hx, hr]
    · generalize efr x % pgs ((2 : Nat) : Int) = r
      by_cases hr : r = 0 <;> cases b0 <;> cases b1 <;> cases b2 <;> cases b3 <;> cases b4 <;> cases b5 <;> cases b6 <;> simp [hx, hr]
theorem shr20 {x : Int} (h0 : 0 ≤ x) : (shrI .u64 x 20 != 0) = decide (1048576 ≤ x) := by
  rw [show (20 : Int) = ((20 : Nat) : Int) from rfl, shr_u64 (by omega)]
  apply Bool.eq_iff_iff.2
  rw [bne_iff_ne, decide_eq_true_eq, show ((2 ^ 20 : Nat) : Int) = 1048576 from rfl]
  omega
end Go.Proofs.Ytkgoanjemhbjgaa

/- Spaces: the tables of a space, on the program's side. Conditions: none. -/
set_option linter.unusedVariables false
set_option linter.unusedSimpArgs false
namespace Go.Proofs.Ytkgoanjemhbjgaa
open Go Go.Den
theorem map_step {w : World} {k : World → Prop} (h : ∀ w1, Ext w w1 → SetAt w1 w.heap.size [] → w1.heap.size = w.heap.size + 1 → k w1) : LetW (w.alloc (.map #[] 0)) k :=
  LetW_iff.2 (h _ (ext_alloc w _) (setAt_new w) (size_alloc w _))
/-- What the walk has captured: where each thing lies. -/
structure ICap where
  q0 : Nat
  q1 : Nat
  q2 : Nat
  q3 : Nat
  q4 : Nat
  bf : Nat
  bm : Nat
  bp : Nat
  b0 : Nat
def ICap.ptrs (c : ICap) : List Value := [.pointer (some ⟨c.q0, 0, none⟩), .pointer (some ⟨c.q1, 0, none⟩), .pointer (some ⟨c.q2, 0, none⟩), .pointer (some ⟨c.q3, 0, none⟩), .pointer (some ⟨c.q4, 0, none⟩)]
def ICap.S (c : ICap) (k : Nat) : Prop := k = c.bm ∨ k = c.q2 ∨ c.b0 ≤ k
structure ICtx (w : World) (c : ICap) (sm : Sl) (m : List Int) (free : List Bool) (x y : Value) : Prop where
  h0 : Blk w c.q0 [.slice (some ⟨c.bf, 0, none⟩) free.length free.length]
  hf : Blk w c.bf (bools free)
  h1 : Blk w c.q1 [.map (some c.bm)]
  h3 : Blk w c.q3 [.pointer (some ⟨c.bp, 0, none⟩)]
  h4 : Blk w c.q4 [.func (.func 157) ⟨[]⟩ ⟨c.ptrs⟩]
  hp : Blk w c.bp [.slice sm.a sm.len sm.cap, x, y]
  mem : Bytes w sm m
  mo : m ≠ [] → ∀ p, sm.a = some p → ¬ c.S p.block
  n0 : ¬ c.S c.q0
  nf : ¬ c.S c.bf
  n1 : ¬ c.S c.q1
  n3 : ¬ c.S c.q3
  n4 : ¬ c.S c.q4
  np : ¬ c.S c.bp
  nm : c.bm ≠ c.q2
  ml : m.length = 256 * free.length
  few : free.length ≤ 1024
  mlt : c.bm < c.b0
  qlt : c.q2 < c.b0
  bsz : c.b0 ≤ w.heap.size
theorem ICtx.only {w w' : World} {c : ICap} {sm : Sl} {m : List Int} {free : List Bool} {x y : Value} (h : ICtx w c sm m free x y) (o : Only c.S w w') : ICtx w' c sm m free x y :=
  ⟨h.h0.only o h.n0, h.hf.only o h.nf, h.h1.only o h.n1, h.h3.only o h.n3, h.h4.only o h.n4, h.hp.only o h.np, h.mem.only o (fun hm p hp _ => h.mo hm p hp), h.mo, h.n0, h.nf, h.n1, h.n3, h.n4, h.np, h.nm, h.ml, h.few, h.mlt, h.qlt, Nat.le_trans h.bsz o.size⟩
/-- What was seen so far, and listed. -/
structure ISeen (w : World) (c : ICap) (S : List Int) : Prop where
  set : SetAt w c.bm S
  out : ∃ l : Sl, Blk w c.q2 [.slice l.a l.len l.cap] ∧ OwnS w c.b0 l 1 (S.map (Value.int .i64))
def IV (c : ICap) (res : Option (List Int)) (w : World) (v : Value) (w' : World) : Prop := v = .bool res.isSome ∧ Only c.S w w' ∧ ∀ S', res = some S' → ISeen w' c S'
theorem ISeen.ext {w w' : World} {c : ICap} {S : List Int} (h : ISeen w c S) (e : Ext w w') : ISeen w' c S := by
  obtain ⟨h1, l, h2, h3⟩ := h
  exact ⟨h1.ext e, l, h2.ext e, h3.ext e⟩
theorem c157 {lvl : Nat} (hlv : lvl ≤ 2) {c : ICap} {sm : Sl} {m : List Int} {free : List Bool} {x0 y0 : Value} {rec : Int → List Int → Option (List Int)} {cc : Nat} (hadd : Adds cc rec) (hcc : cc ≤ 100)
    (hrec : lvl = 0 ∨ ∀ {w : World} {t : Int} {S : List Int}, ICtx w c sm m free x0 y0 → ISeen w c S → S.length + cc ≤ 8000 → CallW Try.prog 157 ⟨[.int .i64 t, .int .i64 ((lvl : Int) - 1)] ++ c.ptrs⟩ w (IV c (rec t S) w))
    {w : World} {t : Int} {S : List Int} (h : ICtx w c sm m free x0 y0) (hs : ISeen w c S) (hS : S.length + (32 * cc + 1) ≤ 8000) :
    CallW Try.prog 157 ⟨[.int .i64 t, .int .i64 (lvl : Int)] ++ c.ptrs⟩ w (IV c (tblStep m free lvl rec t S) w) := by
  refine go157 (a0 := t) (a1 := (lvl : Int)) (c0 := ⟨c.q0, 0, none⟩) (c1 := ⟨c.q1, 0, none⟩) (c2 := ⟨c.q2, 0, none⟩) (c3 := ⟨c.q3, 0, none⟩) (c4 := ⟨c.q4, 0, none⟩) ?_
  unfold W157
  have hfew := h.few
  have hml := h.ml
  have bad : ∀ w', Only c.S w w' → tblStep m free lvl rec t S = none → IV c (tblStep m free lvl rec t S) w (.bool false) w' := fun w' o hn => ⟨by rw [hn]; rfl, o, fun S' hS => by rw [hn] at hS; cases hS⟩
  obtain ⟨hset, l0, hl0, own0⟩ := hs
  refine JoinW.cut1 (fun (b : Bool) w' => (b = true ↔ t < 0 ∨ (free.length : Int) ≤ t) ∧ w' = w) ?_ ?_
  · refine BIf.dec (fun h1 => ⟨⟨fun _ => .inl h1, fun _ => rfl⟩, rfl⟩) (fun h1 => ⟨⟨_, _, _⟩, h.h0.cell 0, ?_, rfl⟩)
    rw [decide_eq_true_eq]
    exact ⟨fun hh => .inr hh, fun hh => by rcases hh with hh | hh; omega; exact hh⟩
  rintro (b : Bool) w ⟨hiff, rfl⟩
  refine JoinW.cut1 (fun (b : Bool) w' => (b = true ↔ t < 0 ∨ (free.length : Int) ≤ t ∨ free.getD t.toNat false = true) ∧ w' = w) ?_ ?_
  · refine BIf.of (fun h1 => ⟨?_, rfl⟩) (fun h1 => ?_)
    · have := hiff.1 h1
      exact ⟨fun _ => by omega, fun _ => rfl⟩
    · have h2 : ¬ (t < 0 ∨ (free.length : Int) ≤ t) := fun hh => by rw [hiff.2 hh] at h1; cases h1
      refine ⟨⟨_, _, _⟩, h.h0.cell 0, by omega, by show t < ((free.length : Nat) : Int); omega, _, rfl, free.getD t.toNat false, ?_, ?_, rfl⟩
      · rw [add_mk, h.hf.cell, Nat.zero_add, Nat.mul_one, bools_get (by omega)]
      · exact ⟨fun hh => .inr (.inr hh), fun hh => by rcases hh with hh | hh | hh; omega; omega; exact hh⟩
  clear hiff b
  rintro (b : Bool) w ⟨hiff, rfl⟩
  refine JoinW.cut1 (fun (b : Bool) w' => (b = true ↔ t < 0 ∨ (free.length : Int) ≤ t ∨ free.getD t.toNat false = true ∨ t ∈ S) ∧ w' = w) ?_ ?_
  · refine BIf.of (fun h1 => ⟨?_, rfl⟩) (fun h1 => ?_)
    · have := hiff.1 h1
      exact ⟨fun _ => by rcases this with h | h | h; exact .inl h; exact .inr (.inl h); exact .inr (.inr (.inl h)), fun _ => rfl⟩
    · have h2 : ¬ (t < 0 ∨ (free.length : Int) ≤ t ∨ free.getD t.toNat false = true) := fun hh => by rw [hiff.2 hh] at h1; cases h1
      refine ⟨_, h.h1.cell 0, hset.get t (fun o ho => ⟨decide (t ∈ S), ho, ?_, rfl⟩)⟩
      rw [decide_eq_true_eq]
      exact ⟨fun hh => .inr (.inr (.inr hh)), fun hh => by
        rcases hh with hh | hh | hh | hh
        · exact absurd (.inl hh) h2
        · exact absurd (.inr (.inl hh)) h2
        · exact absurd (.inr (.inr hh)) h2
        · exact hh⟩
  clear hiff b
  rintro (b : Bool) w ⟨hiff, rfl⟩
  refine BIf.of (fun hb => ?_) (fun hb => ?_)
  · refine bad _ (Only.refl _ _) ?_
    unfold tblStep
    rw [if_pos (hiff.1 hb)]
  have hok : ¬ (t < 0 ∨ (free.length : Int) ≤ t ∨ free.getD t.toNat false = true ∨ t ∈ S) := fun hh => by rw [hiff.2 hh] at hb; cases hb
  have hres : tblStep m free lvl rec t S = match scanT (entAt m t) lvl rec 32 (S ++ [t]) (decide (lvl = 2)) with | some (S', true) => some S' | _ => none := by
    unfold tblStep; rw [if_neg hok]; try rfl
  generalize hR : scanT (entAt m t) lvl rec 32 (S ++ [t]) (decide (lvl = 2)) = R at hres
  have ht0 : 0 ≤ t := by omega
  have ht1 : t < free.length := by omega
  have hnS : t ∉ S := fun hh => hok (.inr (.inr (.inr hh)))
  refine ⟨_, h.h1.cell 0, hset.put hnS (fun w11 hset11 o11 => ?_)⟩
  have hbsz := h.bsz
  have hmlt := h.mlt
  have hqlt := h.qlt
  have hl11 := hl0.only o11 (fun hh => h.nm hh.symm)
  have own11 := own0.only o11 (fun b _ hb0 _ hbb => by omega)
  have z11 := o11.size
  refine ⟨l0, hl11.cell 0, LetW_iff.2 ?_⟩
  have hll := own11.len
  rw [List.length_map, Nat.mul_one] at hll
  refine AppendW.one (b0 := c.b0) (z := 1) (x := [.int .i64 t]) own11 (by omega) rfl rfl rfl (by decide) (by show (l0.len + 1) * 8 ≤ _; omega) (fun v hv => by rw [List.mem_singleton.1 hv]; rfl) (fun s' w15 h1 h2 h3 h4 => ?_)
  have hl15 := hl11.only h3 (fun hh => by have := hh.1; omega)
  have hset15 := hset11.only h3 (fun hh => by have := hh.1; omega)
  have z15 := h3.size
  refine set_step hl15 (by simp) (fun w16 o16 hl16 n16 => ?_)
  have hset16 := hset15.only o16 h.nm
  have own16 : OwnS w16 c.b0 s' 1 ((S ++ [t]).map (Value.int .i64)) := by
    rw [List.map_append]
    exact h2.only o16 (fun b _ hb0 _ hbb => by omega)
  have oall : Only c.S w w16 := Only.step (Only.step (o11.mono (fun k _ hk => .inl hk)) h3 (fun i hi hh => .inr (.inr hh.1))) o16 (fun i hi hh => .inr (.inl hh))
  have hbase : ISeen w16 c (S ++ [t]) := ⟨hset16, s', hl16, own16⟩
  refine LoopW.m2 (fun (any : Bool) (i : Int) w' => ∃ (k : Nat) (S1 : List Int), k ≤ 32 ∧ i = 32 - (k : Int) ∧ scanT (entAt m t) lvl rec k S1 any = R ∧ S1.length ≤ S.length + 1 + (32 - k) * cc ∧ Only c.S w w' ∧ ISeen w' c S1) (fun _ (i : Int) _ => (32 - i).toNat)
    ⟨32, S ++ [t], by omega, by omega, by
      rw [← hR]
      congr 1
      apply Bool.eq_iff_iff.2
      rw [beq_iff_eq, decide_eq_true_eq]; omega, by simp, oall, hbase⟩ ?_
  rintro (any : Bool) (i : Int) w20 ⟨k, S1, hk, rfl, hsc, hal, o20, hs20⟩ J hJ
  have h20 := h.only o20
  refine BIf.dec (fun hlt => ?_) (fun hge => ?_)
  · obtain ⟨j, rfl⟩ : ∃ j, k = j + 1 := ⟨k - 1, by omega⟩
    have hidx : (32 : Int) - ((j + 1 : Nat) : Int) = 31 - (j : Int) := by omega
    rw [hidx]
    have hmul : (32 - (j + 1)) * cc + cc = (32 - j) * cc := by rw [← Nat.succ_mul]; congr 1; omega
    have hmul2 : (32 - j) * cc ≤ 32 * cc := Nat.mul_le_mul_right cc (by omega)
    refine ⟨_, h20.h3.cell 0, (c126 h20.hp h20.mem (by omega) (by omega) (by omega) (by omega)).mono ?_⟩
    rintro _ w20 ⟨rfl, rfl⟩
    have hw := word_rng h.mem.rng (t * 256 + 8 * (31 - (j : Int)))
    have hwe : word m (t * 256 + 8 * (31 - (j : Int))) = entAt m t (31 - (j : Int)) := rfl
    rw [hwe] at hw ⊢
    rw [w64 (n := 31 - (j : Int) + 1) (by omega) (by omega)]
    unfold scanT at hsc
    generalize entAt m t (31 - (j : Int)) = x at *
    refine ⟨x, rfl, BIf.eq (fun hx => ?_) (fun hx => ?_)⟩
    · rw [if_pos hx] at hsc
      exact hJ _ _ _ ⟨j, S1, by omega, by omega, hsc, by omega, o20, hs20⟩ (by omega)
    · rw [if_neg hx, cls_eq hlv] at hsc
      refine (c127 hw.1 hw.2).mono ?_
      rintro _ w26 ⟨rfl, e26⟩
      refine ⟨_, _, _, _, _, _, _, _, _, rfl, ?_⟩
      refine alloc_step (fun w36 e36 hz n36 => put_step hz rfl rfl (fun w37 o37 hz n37 => ?_))
      have e37 : Ext w20 w37 := Ext.own (Only.trans e26 e36) o37 (fun k hk => by have := e26.size; omega)
      have o37' : Only c.S w w37 := o20.step e37 (fun i hi hf => hf.elim)
      have h37 := h.only o37'
      have hs37 := hs20.ext e37
      have hno : R = none → ∀ w', Only c.S w w' → IV c (tblStep m free lvl rec t S) w (.bool false) w' := fun hn w' o => bad w' o (by rw [hres, hn])
      refine ⟨_, hz.cell 0, ?_⟩
      refine JoinW.cut1 (fun (b : Bool) w' => b = (!ebit x 0 || decide (1048576 ≤ x)) ∧ w' = w37) ?_ ?_
      · refine BIf.of (fun h1 => ⟨by rw [h1]; rfl, rfl⟩) (fun h1 => ⟨by omega, ?_, rfl⟩)
        rw [shr20 hw.1, h1]; rfl
      rintro (b : Bool) w37 ⟨rfl, rfl⟩
      refine BIf.of (fun h1 => ?_) (fun h1 => ?_)
      · rw [if_pos h1] at hsc
        exact hno hsc.symm _ o37'
      · rw [if_neg (by rw [h1]; simp)] at hsc
        refine ⟨_, hz.cell 1, join_or_ex _ (hz.cell 2) (join_or_ex _ (hz.cell 3) ?_)⟩
        refine BIf.of (fun h2 => ?_) (fun h2 => ?_)
        · rw [if_pos h2] at hsc
          refine JoinW.cut1 (fun (b : Bool) w' => b = ((lvl : Int) != 0 || (ebit x 2 && !ebit x 1)) ∧ w' = w37) ?_ ?_
          · refine BIf.of (fun h3 => ⟨by rw [h3]; rfl, rfl⟩) (fun h3 => ⟨_, hz.cell 2, BIf.of (fun h4 => ⟨_, hz.cell 1, by rw [h3, h4]; rfl, rfl⟩) (fun h4 => ⟨by rw [h3, h4]; rfl, rfl⟩)⟩)
          rintro (b : Bool) w37 ⟨rfl, rfl⟩
          refine BIf.of (fun h3 => ?_) (fun h3 => ?_)
          · rw [if_pos h3] at hsc
            exact hno hsc.symm _ o37'
          · rw [if_neg (by rw [h3]; simp)] at hsc
            exact hJ _ _ _ ⟨j, S1, by omega, by omega, hsc, by omega, o37', hs37⟩ (by omega)
        · rw [if_neg (by rw [h2]; simp)] at hsc
          refine join_or_ex _ (hz.cell 4) (join_or_ex _ (hz.cell 5) (join_or_ex _ (hz.cell 6) ?_))
          refine JoinW.each (BIf.of (fun h3 => ?_) (fun h3 => ?_))
          · rw [if_pos h3] at hsc
            exact BIf.t rfl (hno hsc.symm _ o37')
          · rw [if_neg (by rw [h3]; simp)] at hsc
            rcases hrec with hl0' | hrec
            · exfalso
              subst hl0'
              simp at h3
            refine ⟨⟨157, [], c.ptrs⟩, h37.h4.cell 0, _, hz.cell 8, ?_⟩
            rw [w64 (by omega) (by omega)]
            refine CallW.mono (K := IV c (rec (efr x) S1) w37) (hrec h37 hs37 (by omega)) ?_
            rintro _ w69 ⟨rfl, o69, hs69⟩
            have o69' : Only c.S w w69 := o37'.step o69 (fun i hi hf => hf)
            refine ⟨_, rfl, ?_⟩
            cases hr : rec (efr x) S1 with
            | none =>
              rw [hr] at hsc
              exact BIf.t rfl (hno hsc.symm _ o69')
            | some S2 =>
              rw [hr] at hsc
              obtain ⟨add, hS2, hlen2⟩ := hadd _ _ _ hr
              refine BIf.f rfl (hJ _ _ _ ⟨j, S2, by omega, by omega, hsc, ?_, o69', hs69 S2 hr⟩ (by omega))
              rw [hS2, List.length_append]; omega
  · have hk0 : k = 0 := by omega
    subst hk0
    unfold scanT at hsc
    refine ⟨?_, o20, fun S' hS => ?_⟩
    · rw [hres, ← hsc]
      cases any <;> rfl
    · rw [hres, ← hsc] at hS
      cases any with
      | false => cases hS
      | true => injection hS with hS; subst hS; exact hs20
theorem implTab {c : ICap} {sm : Sl} {m : List Int} {free : List Bool} {x0 y0 : Value} {w : World} {t : Int} {S : List Int} (h : ICtx w c sm m free x0 y0) (hs : ISeen w c S) (hS : S.length ≤ 4000) :
    CallW Try.prog 157 ⟨[.int .i64 t, .int .i64 2] ++ c.ptrs⟩ w (IV c (tblF m free 2 t S) w) := by
  have h0 : ∀ {w : World} {t : Int} {S : List Int}, ICtx w c sm m free x0 y0 → ISeen w c S → S.length + 1 ≤ 8000 → CallW Try.prog 157 ⟨[.int .i64 t, .int .i64 (((1 : Nat) : Int) - 1)] ++ c.ptrs⟩ w (IV c (tblF m free 0 t S) w) :=
    fun {w t S} h hs hl => c157 (lvl := 0) (by omega) (rec := fun _ _ => none) (cc := 0) adds0 (by omega) (.inl rfl) h hs (by omega)
  have h1 : ∀ {w : World} {t : Int} {S : List Int}, ICtx w c sm m free x0 y0 → ISeen w c S → S.length + 33 ≤ 8000 → CallW Try.prog 157 ⟨[.int .i64 t, .int .i64 (((2 : Nat) : Int) - 1)] ++ c.ptrs⟩ w (IV c (tblF m free 1 t S) w) :=
    fun {w t S} h hs hl => c157 (lvl := 1) (by omega) (rec := tblF m free 0) (cc := 1) tblF_adds.1 (by omega) (.inr h0) h hs (by omega)
  exact c157 (lvl := 2) (by omega) (rec := tblF m free 1) (cc := 33) tblF_adds.2.1 (by omega) (.inr h1) h hs (by omega)
/-- The tables that the program lists; nil: none. -/
def ITabs (res : Option (List Int)) (w : World) (v : Value) (w' : World) : Prop := ∃ l : Sl, v = .slice l.a l.len l.cap ∧ Ext w w' ∧ (res = none → l.a = none) ∧ ∀ S', res = some S' → l.a.isSome = true ∧ OwnS w' w.heap.size l 1 (S'.map (Value.int .i64))
theorem tblF_ne {m : List Int} {free : List Bool} {lvl : Nat} {t : Int} {S' : List Int} (h : tblF m free lvl t [] = some S') : S' ≠ [] := by
  have key : ∀ (lvl : Nat) (rec : Int → List Int → Option (List Int)), (∃ c, Adds c rec) → ∀ S', tblStep m free lvl rec t [] = some S' → S' ≠ [] := by
    intro lvl rec ⟨c, hc⟩ S' hS
    unfold tblStep at hS
    split at hS
    · cases hS
    · split at hS
      · rename_i S1 hS1
        injection hS with hS
        subst hS
        obtain ⟨add, h1, _⟩ := scanT_adds hc 32 _ _ _ _ hS1
        rw [h1]; simp
      · cases hS
  have adds : ∀ n, ∃ c, Adds c (tblF m free n) := by
    intro n
    induction n with
    | zero => exact ⟨_, tblStep_adds adds0⟩
    | succ n ih => obtain ⟨c, hc⟩ := ih; exact ⟨_, tblStep_adds hc⟩
  cases lvl with
  | zero => exact key 0 _ ⟨0, adds0⟩ S' h
  | succ n => exact key (n + 1) _ (adds n) S' h
theorem c96 {b : Nat} {sm sf : Sl} {m : List Int} {T : Int} {fr : List DBlock} {root : Int} {w : World} (hp : Blk w b [.slice sm.a sm.len sm.cap, .int .i64 T, .slice sf.a sf.len sf.cap]) (hm : Bytes w sm m) (hf : FrAt w sf fr) (hok : POk m T fr) :
    CallW Try.prog 96 #[.pointer (some ⟨b, 0, none⟩), .int .i64 root] w (ITabs (tblF m (freeL T fr) 2 root []) w) := by
  refine go96 ?_
  unfold W96
  have hT0 := hok.2.2.1.1
  have hT1 := hok.2.2.1.2.1
  have hpl := hp.lt
  refine alloc_step (fun w1 e1 hq3 n1 => ?_)
  have hp1 := hp.ext e1
  refine ⟨_, hq3.cell 0, _, rfl, _, hp1.cell 1, sf, hp1.cell 2, (c150 (hf.ext e1) hok.2.2.1).mono ?_⟩
  rintro _ w7 ⟨bf, rfl, hbf0, hbf, e7⟩
  have z7 := e7.size
  have hbl := hbf.lt
  have hq3 := hq3.ext e7
  refine ⟨⟨some ⟨bf, 0, none⟩, T.toNat, T.toNat⟩, rfl, ?_⟩
  refine alloc_step (fun w9 e9 hq0 n9 => set_step hq0 (by simp) (fun w10 o10 hq0 n10 => ?_))
  have e10 : Ext w7 w10 := Ext.own e9 o10 (fun k hk => by omega)
  refine map_step (fun w11 e11 hset n11 => ?_)
  refine alloc_step (fun w12 e12 hq1 n12 => set_step hq1 (by simp) (fun w13 o13 hq1 n13 => ?_))
  have e13 : Ext w11 w13 := Ext.own e12 o13 (fun k hk => by omega)
  refine alloc_step (fun w14 e14 hq2 n14 => ?_)
  refine alloc_step (fun w15 e15 hq4 n15 => set_step hq4 (by simp) (fun w16 o16 hq4 n16 => ?_))
  have e16 : Ext w14 w16 := Ext.own e15 o16 (fun k hk => by omega)
  have e7_16 : Ext w7 w16 := Only.trans e10 (Only.trans e11 (Only.trans e13 (Only.trans e14 e16)))
  have eall : Ext w w16 := Only.trans e1 (Only.trans e7 e7_16)
  have zall := eall.size
  let c : ICap := ⟨w7.heap.size, w11.heap.size, w13.heap.size, w.heap.size, w14.heap.size, bf, w10.heap.size, b, w16.heap.size⟩
  have hc : ∀ k, c.S k ↔ k = w10.heap.size ∨ k = w13.heap.size ∨ w16.heap.size ≤ k := fun k => Iff.rfl
  have nS : ∀ k, k ≠ w10.heap.size → k ≠ w13.heap.size → k < w16.heap.size → ¬ c.S k := fun k h1 h2 h3 hh => by
    rcases (hc k).1 hh with hh | hh | hh
    · exact h1 hh
    · exact h2 hh
    · omega
  have hctx : ICtx w16 c sm m (freeL T fr) (.int .i64 T) (.slice sf.a sf.len sf.cap) := by
    refine ⟨?_, hbf.ext e7_16, hq1.ext (Only.trans e14 e16), hq3.ext e7_16, hq4, hp.ext eall, hm.ext eall, fun hne p hpa => ?_, ?_, ?_, ?_, ?_, ?_, ?_, ?_, hok.len, by rw [freeL_len]; omega, ?_, ?_, Nat.le_refl _⟩
    · rw [freeL_len]; exact hq0.ext (Only.trans e11 (Only.trans e13 (Only.trans e14 e16)))
    · have := hm.old hne hpa
      rw [hc]; omega
    · exact nS w7.heap.size (by omega) (by omega) (by omega)
    · exact nS bf (by omega) (by omega) (by omega)
    · exact nS w11.heap.size (by omega) (by omega) (by omega)
    · exact nS w.heap.size (by omega) (by omega) (by omega)
    · exact nS w14.heap.size (by omega) (by omega) (by omega)
    · exact nS b (by omega) (by omega) (by omega)
    · show w10.heap.size ≠ w13.heap.size; omega
    · show w10.heap.size < w16.heap.size; omega
    · show w13.heap.size < w16.heap.size; omega
  have hseen : ISeen w16 c [] := ⟨hset.ext (Only.trans e13 (Only.trans e14 e16)), ⟨none, 0, 0⟩, hq2.ext e16, OwnS.none _ _ _ _⟩
  refine ⟨⟨157, [], c.ptrs⟩, hq4.cell 0, ?_⟩
  refine CallW.mono (K := IV c (tblF m (freeL T fr) 2 root []) w16) (implTab hctx hseen (by simp)) ?_
  rintro _ w19 ⟨rfl, o19, hs19⟩
  have e19 : Ext w w19 := eall.own o19 (fun i hi => by rw [hc] at hi; omega)
  refine ⟨_, rfl, ?_⟩
  cases hr : tblF m (freeL T fr) 2 root [] with
  | none => exact BIf.t rfl ⟨⟨none, 0, 0⟩, rfl, e19, fun _ => rfl, fun S' hS => by cases hS⟩
  | some S' =>
    obtain ⟨_, l, hl, own⟩ := hs19 S' hr
    refine BIf.f rfl ⟨l, hl.cell 0, l, rfl, e19, (fun hn => by cases hn), fun S2 hS => ?_⟩
    injection hS with hS
    subst hS
    refine ⟨?_, own.mono (by show w.heap.size ≤ w16.heap.size; omega)⟩
    have hll := own.len
    rw [List.length_map, Nat.mul_one] at hll
    have hne : 0 < S'.length := List.length_pos_iff.2 (tblF_ne hr)
    rcases own.2 with ⟨_, h0⟩ | ⟨q, cs, ha, _⟩
    · omega
    · rw [ha]; rfl
end Go.Proofs.Ytkgoanjemhbjgaa

/- The law's own functions over trees: copies, sizes, comparisons, marks; printed by a program. Conditions: none. -/
set_option linter.unusedVariables false
set_option linter.unusedSimpArgs false
set_option maxRecDepth 4000
namespace Go.Proofs.Ytkgoanjemhbjgaa
open Go Go.Den

theorem has_Block {d : Dat} (h : Has TyBlock d) : ∃ x_0 : Int, ∃ x_1 : Int, d = .st [.int .i64 x_0, .int .i64 x_1] := by
  obtain ⟨_, rfl, g⟩ := has_st h
  obtain ⟨_, _, rfl, h_0, g⟩ := hasF_cons g
  obtain ⟨_, _, rfl, h_1, g⟩ := hasF_cons g
  obtain rfl := hasF_nil g
  obtain ⟨x_0, rfl⟩ := has_int h_0
  obtain ⟨x_1, rfl⟩ := has_int h_1
  exact ⟨x_0, x_1, rfl⟩
theorem cells_Block {w : World} {x_0 : Int} {x_1 : Int} {cs : List Value} (h : IsD w (.st [.int .i64 x_0, .int .i64 x_1]) cs) : cs = [.int .i64 x_0, .int .i64 x_1] ∧ ((Lit.int .i64 x_0).wf = true) ∧ ((Lit.int .i64 x_1).wf = true) := by
  have q := isD_st h
  obtain ⟨_, _, rfl, i_0, q⟩ := isF_cons q
  obtain ⟨_, _, rfl, i_1, q⟩ := isF_cons q
  obtain rfl := isF_nil q
  obtain ⟨rfl, ws_0⟩ := isD_int i_0
  obtain ⟨rfl, ws_1⟩ := isD_int i_1
  exact ⟨rfl, ws_0, ws_1⟩
theorem has_Frames {d : Dat} (h : Has TyFrames d) : ∃ x_0 : Int, ∃ l_1 : List Dat, d = .st [.int .i64 x_0, .sl 2 l_1] ∧ (∀ e, e ∈ l_1 → Has TyBlock e) := by
  obtain ⟨_, rfl, g⟩ := has_st h
  obtain ⟨_, _, rfl, h_0, g⟩ := hasF_cons g
  obtain ⟨_, _, rfl, h_1, g⟩ := hasF_cons g
  obtain rfl := hasF_nil g
  obtain ⟨x_0, rfl⟩ := has_int h_0
  obtain ⟨l_1, rfl, t_1⟩ := has_sl h_1
  exact ⟨x_0, l_1, rfl, t_1⟩
theorem cells_Frames {w : World} {x_0 : Int} {l_1 : List Dat} {cs : List Value} (h : IsD w (.st [.int .i64 x_0, .sl 2 l_1]) cs) : ∃ s_1 : Sl, cs = [.int .i64 x_0, .slice s_1.a s_1.len s_1.cap] ∧ ((Lit.int .i64 x_0).wf = true) ∧ (IsD w (.sl 2 l_1) [.slice s_1.a s_1.len s_1.cap]) := by
  have q := isD_st h
  obtain ⟨_, _, rfl, i_0, q⟩ := isF_cons q
  obtain ⟨_, _, rfl, i_1, q⟩ := isF_cons q
  obtain rfl := isF_nil q
  obtain ⟨rfl, ws_0⟩ := isD_int i_0
  obtain ⟨s_1, rfl⟩ := isD_sl_s i_1
  have is_1 := i_1
  exact ⟨s_1, rfl, ws_0, is_1⟩
theorem has_Pool {d : Dat} (h : Has TyPool d) : ∃ l_0 : List Dat, ∃ x_1_0 : Int, ∃ l_1_1 : List Dat, d = .st [.sl 1 l_0, .st [.int .i64 x_1_0, .sl 2 l_1_1]] ∧ (∀ e, e ∈ l_0 → Has (.int .u8) e) ∧ (Has TyFrames (.st [.int .i64 x_1_0, .sl 2 l_1_1])) ∧ (∀ e, e ∈ l_1_1 → Has TyBlock e) := by
  obtain ⟨_, rfl, g⟩ := has_st h
  obtain ⟨_, _, rfl, h_0, g⟩ := hasF_cons g
  obtain ⟨_, _, rfl, h_1, g⟩ := hasF_cons g
  obtain rfl := hasF_nil g
  obtain ⟨l_0, rfl, t_0⟩ := has_sl h_0
  have h_1k := h_1
  obtain ⟨x_1_0, l_1_1, rfl, t_1_1⟩ := has_Frames h_1
  exact ⟨l_0, x_1_0, l_1_1, rfl, t_0, h_1k, t_1_1⟩
theorem cells_Pool {w : World} {l_0 : List Dat} {x_1_0 : Int} {l_1_1 : List Dat} {cs : List Value} (h : IsD w (.st [.sl 1 l_0, .st [.int .i64 x_1_0, .sl 2 l_1_1]]) cs) : ∃ s_0 : Sl, ∃ s_1_1 : Sl, cs = [.slice s_0.a s_0.len s_0.cap, .int .i64 x_1_0, .slice s_1_1.a s_1_1.len s_1_1.cap] ∧ (IsD w (.sl 1 l_0) [.slice s_0.a s_0.len s_0.cap]) ∧ (IsD w (.st [.int .i64 x_1_0, .sl 2 l_1_1]) [.int .i64 x_1_0, .slice s_1_1.a s_1_1.len s_1_1.cap]) ∧ ((Lit.int .i64 x_1_0).wf = true) ∧ (IsD w (.sl 2 l_1_1) [.slice s_1_1.a s_1_1.len s_1_1.cap]) := by
  have q := isD_st h
  obtain ⟨_, _, rfl, i_0, q⟩ := isF_cons q
  obtain ⟨_, _, rfl, i_1, q⟩ := isF_cons q
  obtain rfl := isF_nil q
  obtain ⟨s_0, rfl⟩ := isD_sl_s i_0
  have is_0 := i_0
  have is_1 := i_1
  obtain ⟨s_1_1, rfl, ws_1_0, is_1_1⟩ := cells_Frames i_1
  exact ⟨s_0, s_1_1, rfl, is_0, is_1, ws_1_0, is_1_1⟩
/- toByteS -/
theorem c92 {l : List Dat} {a0 : Sl} {w : World} (ht : ∀ e, e ∈ l → Has (.int .u8) e) (h : IsD w (.sl 1 l) [.slice a0.a a0.len a0.cap]) (hs : (Dat.sl 1 l).sz ≤ 4194304) : CallW Try.prog 92 #[.slice a0.a a0.len a0.cap] w (fun v w' => ∃ s : Sl, v = .slice s.a s.len s.cap ∧ Fr w.heap.size w'.heap.size w' (.sl 1 l) [.slice s.a s.len s.cap] ∧ Ext w w') := by
  refine go92 ?_
  unfold W92
  obtain ⟨hlen, hmax, hel⟩ := isD_sl h
  simp only [Dat.sz] at hs
  rw [hlen]; simp only [Int.toNat_natCast]
  refine ⟨by omega, by omega, by omega, by omega, LetW_iff.2 ?_⟩
  have hs0 := ToInv.start (w := w) (z := 1) (zero := ti5.zero) (e := 5) l rfl
  generalize w.alloc (.cells ⟨zerosOf ti5.zero l.length⟩ 5) = w1 at *
  refine LoopW.m1 (fun (i : Int) w' => ∃ (k : Nat) (bs : List Nat) (vs : List Value), i = k ∧ ToInv w w' w.heap.size 1 l k bs vs) (fun (i : Int) _ => (l.length - i).toNat) ⟨0, [], _, rfl, hs0⟩ ?_
  rintro (i : Int) w4 ⟨k, bs, vs, rfl, hi⟩ J hJ
  refine BIf.dec (fun hlt => ?_) (fun hge => ?_)
  · obtain ⟨d, hd⟩ : ∃ d, l[k]? = some d := ⟨_, List.getElem?_eq_getElem (by omega)⟩
    have hsz := szs_get hd
    obtain ⟨p, es, hp, he, hc, his⟩ := isD_at (IsD.ext hi.ext _ _ h) hd
    have ht0 := ht d (mem_get hd)
    obtain ⟨x, rfl⟩ := has_int ht0
    obtain ⟨rfl, ws⟩ := isD_int his
    obtain ⟨b1, ho, hn, hb⟩ := fr_int (lo := w4.heap.size) (hi := w4.heap.size) (w := w4) ws
    obtain ⟨hm, hi2⟩ := hi.step hd (Only.refl _ _) ho hn (fun c hc => (hb c hc).1) rfl
    rw [puts_one] at hi2
    refine ⟨by omega, by omega, p, hp, _, hc 0 _ rfl, by omega, by omega, _, rfl, mayN_one hm, LetW_iff.2 ?_⟩
    rw [w64 (by omega) (by omega)]
    exact hJ _ _ ⟨k + 1, _, _, by omega, hi2⟩ (by omega)
  · exact ⟨⟨some ⟨w.heap.size, 0, none⟩, l.length, l.length⟩, rfl, (hi.done (by omega) hmax).fr, hi.ext⟩

/- toBlock -/
theorem c187 {d : Dat} {cs : List Value} {w : World} (ht : Has TyBlock d) (h : IsD w d cs) (hs : d.sz ≤ 4194304) : CallW Try.prog 187 #[.agg ⟨cs⟩] w (fun v w' => ∃ cs', v = .agg ⟨cs'⟩ ∧ Fr w.heap.size w'.heap.size w' d cs' ∧ Ext w w') := by
  obtain ⟨x_0, x_1, rfl⟩ := has_Block ht
  obtain ⟨rfl, ws_0, ws_1⟩ := cells_Block h
  show CallW Try.prog 187 #[.agg #[.int .i64 x_0, .int .i64 x_1]] w _
  refine go187 ?_
  unfold W187
  refine alloc_step (fun w1 e1 ha n1 => ?_)
  refine alloc_step (fun w2 e2 hc n2 => ?_)
  have ha := ha.ext e2
  refine alloc_step (fun w3 e3 hb n3 => ?_)
  have ha := ha.ext e3
  have hc := hc.ext e3
  have e := Only.trans e1 (Only.trans e2 e3)
  refine ⟨_, ha.cell 0, ?_⟩
  refine set_step hb (by simp) (fun w4 o4 hb n4 => ?_)
  have ha := ha.only o4 (by omega)
  have hc := hc.only o4 (by omega)
  have e := Ext.own e o4 (fun k hk => by omega)
  refine ⟨_, ha.cell 1, ?_⟩
  refine set_step hb (by simp) (fun w5 o5 hb n5 => ?_)
  have ha := ha.only o5 (by omega)
  have hc := hc.only o5 (by omega)
  have e := Ext.own e o5 (fun k hk => by omega)
  refine ⟨_, hb.cell 0, _, hb.cell 1, ?_⟩
  refine put_step hc rfl rfl (fun w6 o6 hc n6 => ?_)
  have e := Ext.own e o6 (fun k hk => by omega)
  refine ⟨_, hc.cell 0, _, hc.cell 1, ?_⟩
  exact ⟨[.int .i64 x_0, .int .i64 x_1], rfl, frF_st (frF_cons (m := w.heap.size) (fr_int ws_0) (frF_cons (m := w.heap.size) (fr_int ws_1) (frF_nil) (by omega) (by omega)) (by omega) (by omega)), e⟩

/- toBlockS -/
theorem c154 {l : List Dat} {a0 : Sl} {w : World} (ht : ∀ e, e ∈ l → Has TyBlock e) (h : IsD w (.sl 2 l) [.slice a0.a a0.len a0.cap]) (hs : (Dat.sl 2 l).sz ≤ 4194304) : CallW Try.prog 154 #[.slice a0.a a0.len a0.cap] w (fun v w' => ∃ s : Sl, v = .slice s.a s.len s.cap ∧ Fr w.heap.size w'.heap.size w' (.sl 2 l) [.slice s.a s.len s.cap] ∧ Ext w w') := by
  refine go154 ?_
  unfold W154
  obtain ⟨hlen, hmax, hel⟩ := isD_sl h
  simp only [Dat.sz] at hs
  rw [hlen]; simp only [Int.toNat_natCast]
  refine ⟨by omega, by omega, by omega, by omega, LetW_iff.2 ?_⟩
  have hs0 := ToInv.start (w := w) (z := 2) (zero := ti123.zero) (e := 123) l rfl
  generalize w.alloc (.cells ⟨zerosOf ti123.zero l.length⟩ 123) = w1 at *
  refine LoopW.m1 (fun (i : Int) w' => ∃ (k : Nat) (bs : List Nat) (vs : List Value), i = k ∧ ToInv w w' w.heap.size 2 l k bs vs) (fun (i : Int) _ => (l.length - i).toNat) ⟨0, [], _, rfl, hs0⟩ ?_
  rintro (i : Int) w4 ⟨k, bs, vs, rfl, hi⟩ J hJ
  refine BIf.dec (fun hlt => ?_) (fun hge => ?_)
  · obtain ⟨d, hd⟩ : ∃ d, l[k]? = some d := ⟨_, List.getElem?_eq_getElem (by omega)⟩
    have hsz := szs_get hd
    obtain ⟨p, es, hp, he, hc, his⟩ := isD_at (IsD.ext hi.ext _ _ h) hd
    have ht0 := ht d (mem_get hd)
    obtain ⟨x_0, x_1, rfl⟩ := has_Block ht0
    have his0 := his
    obtain ⟨rfl, ws_0, ws_1⟩ := cells_Block his
    refine ⟨by omega, by omega, p, hp, _, hc 0 _ rfl, _, hc 1 _ rfl, (c187 (cs := [.int .i64 x_0, .int .i64 x_1]) ht0 his0 (by omega)).mono ?_⟩
    rintro _ w9 ⟨r, rfl, f, e9⟩
    have hr := f.is
    obtain ⟨rfl, wr_0, wr_1⟩ := cells_Block hr
    obtain ⟨b1, ho, hn, hb⟩ := f
    obtain ⟨hm, hi2⟩ := hi.step hd e9 ho hn (fun c hc => (hb c hc).1) rfl
    refine ⟨_, _, rfl, by omega, by omega, _, rfl, hm, LetW_iff.2 ?_⟩
    rw [w64 (by omega) (by omega)]
    exact hJ _ _ ⟨k + 1, _, _, by omega, hi2⟩ (by omega)
  · exact ⟨⟨some ⟨w.heap.size, 0, none⟩, l.length, l.length⟩, rfl, (hi.done (by omega) hmax).fr, hi.ext⟩

/- toFrames -/
theorem c93 {d : Dat} {cs : List Value} {w : World} (ht : Has TyFrames d) (h : IsD w d cs) (hs : d.sz ≤ 4194304) : CallW Try.prog 93 #[.agg ⟨cs⟩] w (fun v w' => ∃ cs', v = .agg ⟨cs'⟩ ∧ Fr w.heap.size w'.heap.size w' d cs' ∧ Ext w w') := by
  obtain ⟨x_0, l_1, rfl, t_1⟩ := has_Frames ht
  obtain ⟨s_1, rfl, ws_0, is_1⟩ := cells_Frames h
  show CallW Try.prog 93 #[.agg #[.int .i64 x_0, .slice s_1.a s_1.len s_1.cap]] w _
  refine go93 ?_
  unfold W93
  refine alloc_step (fun w1 e1 ha n1 => ?_)
  refine alloc_step (fun w2 e2 hc n2 => ?_)
  have ha := ha.ext e2
  refine alloc_step (fun w3 e3 hb n3 => ?_)
  have ha := ha.ext e3
  have hc := hc.ext e3
  have e := Only.trans e1 (Only.trans e2 e3)
  refine ⟨_, ha.cell 0, ?_⟩
  refine set_step hb (by simp) (fun w4 o4 hb n4 => ?_)
  have ha := ha.only o4 (by omega)
  have hc := hc.only o4 (by omega)
  have e := Ext.own e o4 (fun k hk => by omega)
  refine ⟨s_1, ha.cell 1, ?_⟩
  refine (c154 t_1 (IsD.ext e _ _ is_1) (by simp only [Dat.sz, Dat.szs] at hs ⊢; omega)).mono ?_
  rintro _ w5 ⟨r_1, rfl, f_1, e5⟩
  refine ⟨r_1, rfl, ?_⟩
  have ha := ha.ext e5
  have hb := hb.ext e5
  have hc := hc.ext e5
  have e := Only.trans e e5
  have z5 := e5.size
  refine set_step hb (by simp) (fun w6 o6 hb n6 => ?_)
  have ha := ha.only o6 (by omega)
  have hc := hc.only o6 (by omega)
  have e := Ext.own e o6 (fun k hk => by omega)
  have f_1 := f_1.only o6 (fun k _ _ => by omega)
  refine ⟨_, hb.cell 0, r_1, hb.cell 1, ?_⟩
  refine put_step hc rfl rfl (fun w7 o7 hc n7 => ?_)
  have e := Ext.own e o7 (fun k hk => by omega)
  have f_1 := f_1.only o7 (fun k _ _ => by omega)
  refine ⟨_, hc.cell 0, r_1, hc.cell 1, ?_⟩
  exact ⟨[.int .i64 x_0, .slice r_1.a r_1.len r_1.cap], rfl, frF_st (frF_cons (m := w.heap.size) (fr_int ws_0) (frF_cons (m := w5.heap.size) (f_1.mono (by omega) (Nat.le_refl _)) (frF_nil) (by omega) (by omega)) (by omega) (by omega)), e⟩

/- toPool -/
theorem c34 {d : Dat} {cs : List Value} {w : World} (ht : Has TyPool d) (h : IsD w d cs) (hs : d.sz ≤ 4194304) : CallW Try.prog 34 #[.agg ⟨cs⟩] w (fun v w' => ∃ cs', v = .agg ⟨cs'⟩ ∧ Fr w.heap.size w'.heap.size w' d cs' ∧ Ext w w') := by
  obtain ⟨l_0, x_1_0, l_1_1, rfl, t_0, h_1k, t_1_1⟩ := has_Pool ht
  obtain ⟨s_0, s_1_1, rfl, is_0, is_1, ws_1_0, is_1_1⟩ := cells_Pool h
  show CallW Try.prog 34 #[.agg #[.slice s_0.a s_0.len s_0.cap, .int .i64 x_1_0, .slice s_1_1.a s_1_1.len s_1_1.cap]] w _
  refine go34 ?_
  unfold W34
  refine alloc_step (fun w1 e1 ha n1 => ?_)
  refine alloc_step (fun w2 e2 hc n2 => ?_)
  have ha := ha.ext e2
  refine alloc_step (fun w3 e3 hb n3 => ?_)
  have ha := ha.ext e3
  have hc := hc.ext e3
  have e := Only.trans e1 (Only.trans e2 e3)
  refine ⟨s_0, ha.cell 0, ?_⟩
  refine (c92 t_0 (IsD.ext e _ _ is_0) (by simp only [Dat.sz, Dat.szs] at hs ⊢; omega)).mono ?_
  rintro _ w4 ⟨r_0, rfl, f_0, e4⟩
  refine ⟨r_0, rfl, ?_⟩
  have ha := ha.ext e4
  have hb := hb.ext e4
  have hc := hc.ext e4
  have e := Only.trans e e4
  have z4 := e4.size
  refine set_step hb (by simp) (fun w5 o5 hb n5 => ?_)
  have ha := ha.only o5 (by omega)
  have hc := hc.only o5 (by omega)
  have e := Ext.own e o5 (fun k hk => by omega)
  have f_0 := f_0.only o5 (fun k _ _ => by omega)
  refine ⟨_, ha.cell 1, s_1_1, ha.cell 2, ?_⟩
  refine (c93 (cs := [.int .i64 x_1_0, .slice s_1_1.a s_1_1.len s_1_1.cap]) h_1k (IsD.ext e _ _ is_1) (by simp only [Dat.sz, Dat.szs] at hs ⊢; omega)).mono ?_
  rintro _ w6 ⟨r_1, rfl, f_1, e6⟩
  have hr_1 := f_1.is
  obtain ⟨r_1_1, rfl, wr_1_0, ir_1_1⟩ := cells_Frames hr_1
  refine ⟨_, r_1_1, rfl, ?_⟩
  have ha := ha.ext e6
  have hb := hb.ext e6
  have hc := hc.ext e6
  have e := Only.trans e e6
  have z6 := e6.size
  have f_0 := f_0.ext e6
  refine putAt_step hb rfl (by simp [setAll_length]) (fun w7 o7 hb n7 => ?_)
  have ha := ha.only o7 (by omega)
  have hc := hc.only o7 (by omega)
  have e := Ext.own e o7 (fun k hk => by omega)
  have f_0 := f_0.only o7 (fun k _ _ => by omega)
  have f_1 := f_1.only o7 (fun k _ _ => by omega)
  refine ⟨r_0, hb.cell 0, _, hb.cell 1, r_1_1, hb.cell 2, ?_⟩
  refine put_step hc rfl rfl (fun w8 o8 hc n8 => ?_)
  have e := Ext.own e o8 (fun k hk => by omega)
  have f_0 := f_0.only o8 (fun k _ _ => by omega)
  have f_1 := f_1.only o8 (fun k _ _ => by omega)
  refine ⟨r_0, hc.cell 0, _, hc.cell 1, r_1_1, hc.cell 2, ?_⟩
  exact ⟨[.slice r_0.a r_0.len r_0.cap, .int .i64 x_1_0, .slice r_1_1.a r_1_1.len r_1_1.cap], rfl, frF_st (frF_cons (m := w4.heap.size) (f_0.mono (by omega) (Nat.le_refl _)) (frF_cons (m := w6.heap.size) (f_1.mono (by omega) (Nat.le_refl _)) (frF_nil) (by omega) (by omega)) (by omega) (by omega)), e⟩

/- szByteS -/
theorem c89 {l : List Dat} {a0 : Sl} {left : Int} {w : World} (ht : ∀ e, e ∈ l → Has (.int .u8) e) (h : IsD w (.sl 1 l) [.slice a0.a a0.len a0.cap]) (h0 : 0 ≤ left) (hl : left ≤ 4611686018427387904) : CallW Try.prog 89 #[.slice a0.a a0.len a0.cap, .int .i64 left] w (fun v w' => SzPost (Dat.sl 1 l).sz left v ∧ Ext w w') := by
  refine go89 ?_
  unfold W89
  obtain ⟨hlen, hmax, hel⟩ := isD_sl h
  have hmx : maxLen = 9223372036854775807 := rfl
  rw [hlen, w64 (by omega) (by omega)]
  have hz : Dat.szs l = 0 := by
    refine szs_zero (fun d hd => ?_)
    have ht0 := ht d hd
    obtain ⟨x, rfl⟩ := has_int ht0
    rfl
  refine BIf.dec (fun hn => ⟨⟨_, rfl, .inr ⟨by omega, by simp only [Dat.sz]; omega⟩⟩, Only.refl _ _⟩) (fun hp => ⟨⟨_, rfl, .inl ⟨by simp only [Dat.sz]; omega, by omega⟩⟩, Only.refl _ _⟩)

/- szBlockS -/
theorem c151 {l : List Dat} {a0 : Sl} {left : Int} {w : World} (ht : ∀ e, e ∈ l → Has TyBlock e) (h : IsD w (.sl 2 l) [.slice a0.a a0.len a0.cap]) (h0 : 0 ≤ left) (hl : left ≤ 4611686018427387904) : CallW Try.prog 151 #[.slice a0.a a0.len a0.cap, .int .i64 left] w (fun v w' => SzPost (Dat.sl 2 l).sz left v ∧ Ext w w') := by
  refine go151 ?_
  unfold W151
  obtain ⟨hlen, hmax, hel⟩ := isD_sl h
  have hmx : maxLen = 9223372036854775807 := rfl
  rw [hlen, w64 (by omega) (by omega)]
  have hz : Dat.szs l = 0 := by
    refine szs_zero (fun d hd => ?_)
    have ht0 := ht d hd
    obtain ⟨x_0, x_1, rfl⟩ := has_Block ht0
    rfl
  refine BIf.dec (fun hn => ⟨⟨_, rfl, .inr ⟨by omega, by simp only [Dat.sz]; omega⟩⟩, Only.refl _ _⟩) (fun hp => ⟨⟨_, rfl, .inl ⟨by simp only [Dat.sz]; omega, by omega⟩⟩, Only.refl _ _⟩)

/- szFrames -/
theorem c90 {d : Dat} {cs : List Value} {left : Int} {w : World} (ht : Has TyFrames d) (h : IsD w d cs) (h0 : 0 ≤ left) (hl : left ≤ 4611686018427387904) : CallW Try.prog 90 #[.agg ⟨cs⟩, .int .i64 left] w (fun v w' => SzPost d.sz left v ∧ Ext w w') := by
  obtain ⟨x_0, l_1, rfl, t_1⟩ := has_Frames ht
  obtain ⟨s_1, rfl, ws_0, is_1⟩ := cells_Frames h
  show CallW Try.prog 90 #[.agg #[.int .i64 x_0, .slice s_1.a s_1.len s_1.cap], .int .i64 left] w _
  refine go90 ?_
  unfold W90
  refine alloc_step (fun w1 e ha n1 => ?_)
  have hmx : maxLen = 9223372036854775807 := rfl
  have hx : (0 : Int) ≤ left ∧ left ≤ left := ⟨h0, Int.le_refl _⟩
  have hd := Int.sub_zero left
  refine ⟨s_1, ha.cell 1, (c151 t_1 (IsD.ext e _ _ is_1) (by omega) (by omega)).mono ?_⟩
  rintro _ w2 ⟨⟨r2, rfl, hr2⟩, e2⟩
  have ha := ha.ext e2
  have e := Only.trans e e2
  refine ⟨r2, rfl, BIf.dec (fun hn => ⟨⟨_, rfl, .inr ⟨by omega, by simp only [Dat.sz, Dat.szs] at *; omega⟩⟩, e⟩) (fun hp2 => ?_)⟩
  exact ⟨⟨_, rfl, .inl ⟨by simp only [Dat.sz, Dat.szs] at *; omega, by omega⟩⟩, e⟩

/- szPool -/
theorem c32 {d : Dat} {cs : List Value} {left : Int} {w : World} (ht : Has TyPool d) (h : IsD w d cs) (h0 : 0 ≤ left) (hl : left ≤ 4611686018427387904) : CallW Try.prog 32 #[.agg ⟨cs⟩, .int .i64 left] w (fun v w' => SzPost d.sz left v ∧ Ext w w') := by
  obtain ⟨l_0, x_1_0, l_1_1, rfl, t_0, h_1k, t_1_1⟩ := has_Pool ht
  obtain ⟨s_0, s_1_1, rfl, is_0, is_1, ws_1_0, is_1_1⟩ := cells_Pool h
  show CallW Try.prog 32 #[.agg #[.slice s_0.a s_0.len s_0.cap, .int .i64 x_1_0, .slice s_1_1.a s_1_1.len s_1_1.cap], .int .i64 left] w _
  refine go32 ?_
  unfold W32
  refine alloc_step (fun w1 e ha n1 => ?_)
  have hmx : maxLen = 9223372036854775807 := rfl
  have hx : (0 : Int) ≤ left ∧ left ≤ left := ⟨h0, Int.le_refl _⟩
  have hd := Int.sub_zero left
  refine ⟨s_0, ha.cell 0, (c89 t_0 (IsD.ext e _ _ is_0) (by omega) (by omega)).mono ?_⟩
  rintro _ w2 ⟨⟨r2, rfl, hr2⟩, e2⟩
  have ha := ha.ext e2
  have e := Only.trans e e2
  refine ⟨r2, rfl, BIf.dec (fun hn => ⟨⟨_, rfl, .inr ⟨by omega, by simp only [Dat.sz, Dat.szs] at *; omega⟩⟩, e⟩) (fun hp2 => ?_)⟩
  refine ⟨_, ha.cell 1, s_1_1, ha.cell 2, (c90 (cs := [.int .i64 x_1_0, .slice s_1_1.a s_1_1.len s_1_1.cap]) h_1k (IsD.ext e _ _ is_1) (by omega) (by omega)).mono ?_⟩
  rintro _ w3 ⟨⟨r3, rfl, hr3⟩, e3⟩
  have ha := ha.ext e3
  have e := Only.trans e e3
  refine ⟨r3, rfl, BIf.dec (fun hn => ⟨⟨_, rfl, .inr ⟨by omega, by simp only [Dat.sz, Dat.szs] at *; omega⟩⟩, e⟩) (fun hp3 => ?_)⟩
  exact ⟨⟨_, rfl, .inl ⟨by simp only [Dat.sz, Dat.szs] at *; omega, by omega⟩⟩, e⟩

/- eqByteS -/
theorem c97 {l : List Dat} {a0 a1 : Sl} {w : World} (ht : ∀ e, e ∈ l → Has (.int .u8) e) (h : IsD w (.sl 1 l) [.slice a0.a a0.len a0.cap]) (h2 : IsD w (.sl 1 l) [.slice a1.a a1.len a1.cap]) : CallW Try.prog 97 #[.slice a0.a a0.len a0.cap, .slice a1.a a1.len a1.cap] w (fun v w' => v = .bool true ∧ Ext w w') := by
  refine go97 ?_
  unfold W97
  obtain ⟨hlen, hmax, hel⟩ := isD_sl h
  obtain ⟨hlen2, _, hel2⟩ := isD_sl h2
  have hmx : maxLen = 9223372036854775807 := rfl
  rw [hlen, hlen2]
  refine BIf.f (by simp) ?_
  refine LoopW.m1 (fun (i : Int) w' => ∃ k : Nat, i = k ∧ k ≤ l.length ∧ Ext w w') (fun (i : Int) _ => (l.length - i).toNat) ⟨0, rfl, by omega, Only.refl _ _⟩ ?_
  rintro (i : Int) w4 ⟨k, rfl, hk, e4⟩ J hJ
  refine BIf.dec (fun hlt => ?_) (fun hge => ⟨rfl, e4⟩)
  obtain ⟨d, hd⟩ : ∃ d, l[k]? = some d := ⟨_, List.getElem?_eq_getElem (by omega)⟩
  have e4 := Only.trans e4 (ext_drew w4)
  obtain ⟨p, es, hp, he, hc, his⟩ := isD_at (IsD.ext e4 _ _ h) hd
  obtain ⟨p2, es2, hp2, he2, hc2, his2⟩ := isD_at (IsD.ext e4 _ _ h2) hd
  have ht0 := ht d (mem_get hd)
  have ht1 := ht0
  obtain ⟨x, rfl⟩ := has_int ht1
  obtain ⟨rfl, ws⟩ := isD_int his
  obtain ⟨rfl, wu⟩ := isD_int his2
  refine ⟨by omega, by omega, p, hp, _, hc 0 _ rfl, by omega, by omega, p2, hp2, _, hc2 0 _ rfl, BIf.f (by simp) ?_⟩
  rw [w64 (by omega) (by omega)]
  exact hJ _ _ ⟨k + 1, by omega, by omega, e4⟩ (by omega)

/- eqBlock -/
theorem c188 {d : Dat} {cs1 cs2 : List Value} {w : World} (ht : Has TyBlock d) (h : IsD w d cs1) (h2 : IsD w d cs2) : CallW Try.prog 188 #[.agg ⟨cs1⟩, .agg ⟨cs2⟩] w (fun v w' => v = .bool true ∧ Ext w w') := by
  obtain ⟨x_0, x_1, rfl⟩ := has_Block ht
  obtain ⟨rfl, ws_0, ws_1⟩ := cells_Block h
  obtain ⟨rfl, wu_0, wu_1⟩ := cells_Block h2
  show CallW Try.prog 188 #[.agg #[.int .i64 x_0, .int .i64 x_1], .agg #[.int .i64 x_0, .int .i64 x_1]] w _
  refine go188 ?_
  unfold W188
  refine alloc_step (fun w1 e1 ha n1 => ?_)
  refine alloc_step (fun w2 e2 hb n2 => ?_)
  have ha := ha.ext e2
  have e := Only.trans e1 e2
  refine ⟨_, ha.cell 0, _, hb.cell 0, BIf.f (by simp) ?_⟩
  refine ⟨_, ha.cell 1, _, hb.cell 1, BIf.f (by simp) ?_⟩
  exact ⟨rfl, e⟩

/- eqBlockS -/
theorem c158 {l : List Dat} {a0 a1 : Sl} {w : World} (ht : ∀ e, e ∈ l → Has TyBlock e) (h : IsD w (.sl 2 l) [.slice a0.a a0.len a0.cap]) (h2 : IsD w (.sl 2 l) [.slice a1.a a1.len a1.cap]) : CallW Try.prog 158 #[.slice a0.a a0.len a0.cap, .slice a1.a a1.len a1.cap] w (fun v w' => v = .bool true ∧ Ext w w') := by
  refine go158 ?_
  unfold W158
  obtain ⟨hlen, hmax, hel⟩ := isD_sl h
  obtain ⟨hlen2, _, hel2⟩ := isD_sl h2
  have hmx : maxLen = 9223372036854775807 := rfl
  rw [hlen, hlen2]
  refine BIf.f (by simp) ?_
  refine LoopW.m1 (fun (i : Int) w' => ∃ k : Nat, i = k ∧ k ≤ l.length ∧ Ext w w') (fun (i : Int) _ => (l.length - i).toNat) ⟨0, rfl, by omega, Only.refl _ _⟩ ?_
  rintro (i : Int) w4 ⟨k, rfl, hk, e4⟩ J hJ
  refine BIf.dec (fun hlt => ?_) (fun hge => ⟨rfl, e4⟩)
  obtain ⟨d, hd⟩ : ∃ d, l[k]? = some d := ⟨_, List.getElem?_eq_getElem (by omega)⟩
  have e4 := Only.trans e4 (ext_drew w4)
  obtain ⟨p, es, hp, he, hc, his⟩ := isD_at (IsD.ext e4 _ _ h) hd
  obtain ⟨p2, es2, hp2, he2, hc2, his2⟩ := isD_at (IsD.ext e4 _ _ h2) hd
  have ht0 := ht d (mem_get hd)
  have ht1 := ht0
  obtain ⟨x_0, x_1, rfl⟩ := has_Block ht1
  have his0 := his
  have his20 := his2
  obtain ⟨rfl, ws_0, ws_1⟩ := cells_Block his
  obtain ⟨rfl, wu_0, wu_1⟩ := cells_Block his2
  refine ⟨by omega, by omega, p, hp, _, hc 0 _ rfl, _, hc 1 _ rfl, by omega, by omega, p2, hp2, _, hc2 0 _ rfl, _, hc2 1 _ rfl, (c188 (cs1 := [.int .i64 x_0, .int .i64 x_1]) (cs2 := [.int .i64 x_0, .int .i64 x_1]) ht0 his0 his20).mono ?_⟩
  rintro _ w9 ⟨rfl, e9⟩
  refine ⟨true, rfl, BIf.f rfl ?_⟩
  rw [w64 (by omega) (by omega)]
  exact hJ _ _ ⟨k + 1, by omega, by omega, Only.trans e4 e9⟩ (by omega)

/- eqFrames -/
theorem c98 {d : Dat} {cs1 cs2 : List Value} {w : World} (ht : Has TyFrames d) (h : IsD w d cs1) (h2 : IsD w d cs2) : CallW Try.prog 98 #[.agg ⟨cs1⟩, .agg ⟨cs2⟩] w (fun v w' => v = .bool true ∧ Ext w w') := by
  obtain ⟨x_0, l_1, rfl, t_1⟩ := has_Frames ht
  obtain ⟨s_1, rfl, ws_0, is_1⟩ := cells_Frames h
  obtain ⟨u_1, rfl, wu_0, iu_1⟩ := cells_Frames h2
  show CallW Try.prog 98 #[.agg #[.int .i64 x_0, .slice s_1.a s_1.len s_1.cap], .agg #[.int .i64 x_0, .slice u_1.a u_1.len u_1.cap]] w _
  refine go98 ?_
  unfold W98
  refine alloc_step (fun w1 e1 ha n1 => ?_)
  refine alloc_step (fun w2 e2 hb n2 => ?_)
  have ha := ha.ext e2
  have e := Only.trans e1 e2
  refine ⟨_, ha.cell 0, _, hb.cell 0, BIf.f (by simp) ?_⟩
  refine ⟨s_1, ha.cell 1, u_1, hb.cell 1, (c158 t_1 (IsD.ext e _ _ is_1) (IsD.ext e _ _ iu_1)).mono ?_⟩
  rintro _ w3 ⟨rfl, e3⟩
  have ha := ha.ext e3
  have hb := hb.ext e3
  have e := Only.trans e e3
  refine ⟨true, rfl, BIf.f rfl ?_⟩
  exact ⟨rfl, e⟩

/- eqPool -/
theorem c36 {d : Dat} {cs1 cs2 : List Value} {w : World} (ht : Has TyPool d) (h : IsD w d cs1) (h2 : IsD w d cs2) : CallW Try.prog 36 #[.agg ⟨cs1⟩, .agg ⟨cs2⟩] w (fun v w' => v = .bool true ∧ Ext w w') := by
  obtain ⟨l_0, x_1_0, l_1_1, rfl, t_0, h_1k, t_1_1⟩ := has_Pool ht
  obtain ⟨s_0, s_1_1, rfl, is_0, is_1, ws_1_0, is_1_1⟩ := cells_Pool h
  obtain ⟨u_0, u_1_1, rfl, iu_0, iu_1, wu_1_0, iu_1_1⟩ := cells_Pool h2
  show CallW Try.prog 36 #[.agg #[.slice s_0.a s_0.len s_0.cap, .int .i64 x_1_0, .slice s_1_1.a s_1_1.len s_1_1.cap], .agg #[.slice u_0.a u_0.len u_0.cap, .int .i64 x_1_0, .slice u_1_1.a u_1_1.len u_1_1.cap]] w _
  refine go36 ?_
  unfold W36
  refine alloc_step (fun w1 e1 ha n1 => ?_)
  refine alloc_step (fun w2 e2 hb n2 => ?_)
  have ha := ha.ext e2
  have e := Only.trans e1 e2
  refine ⟨s_0, ha.cell 0, u_0, hb.cell 0, (c97 t_0 (IsD.ext e _ _ is_0) (IsD.ext e _ _ iu_0)).mono ?_⟩
  rintro _ w3 ⟨rfl, e3⟩
  have ha := ha.ext e3
  have hb := hb.ext e3
  have e := Only.trans e e3
  refine ⟨true, rfl, BIf.f rfl ?_⟩
  refine ⟨_, ha.cell 1, s_1_1, ha.cell 2, _, hb.cell 1, u_1_1, hb.cell 2, (c98 (cs1 := [.int .i64 x_1_0, .slice s_1_1.a s_1_1.len s_1_1.cap]) (cs2 := [.int .i64 x_1_0, .slice u_1_1.a u_1_1.len u_1_1.cap]) h_1k (IsD.ext e _ _ is_1) (IsD.ext e _ _ iu_1)).mono ?_⟩
  rintro _ w4 ⟨rfl, e4⟩
  have ha := ha.ext e4
  have hb := hb.ext e4
  have e := Only.trans e e4
  refine ⟨true, rfl, BIf.f rfl ?_⟩
  exact ⟨rfl, e⟩

end Go.Proofs.Ytkgoanjemhbjgaa

/- FnExactSpaceOk: both sides, for the walk. Conditions: none. -/
set_option linter.unusedVariables false
set_option linter.unusedSimpArgs false
namespace Go.Proofs.Ytkgoanjemhbjgaa
open Go Go.Den
theorem pool_of {x : DPool} {w : World} {cs : List Value} (h : IsD w x.dat cs) (hs : x.dat.sz ≤ 1048576) : ∃ sm sf : Sl, cs = [.slice sm.a sm.len sm.cap, .int .i64 x.Free.Total, .slice sf.a sf.len sf.cap] ∧ Bytes w sm x.Mem ∧ FrAt w sf x.Free.Free := by
  obtain ⟨sm, sf, rfl, im, _, _, iff⟩ := cells_Pool h
  have hsz : x.dat.sz = (Dat.sl 1 (x.Mem.map (Dat.int .u8))).sz + ((0 + (((x.Free.Free.map DBlock.dat).length + Dat.szs (x.Free.Free.map DBlock.dat)) + 0)) + 0) := rfl
  rw [sz_nums, List.length_map] at hsz
  have hm := isD_len im
  have hf := isD_len iff
  exact ⟨sm, sf, rfl, ⟨hm.1, isD_cap im, isD_nums im, fun y hy => wf_u8_rng (isD_wf im y hy), by omega⟩, ⟨hf.1, isD_row iff (fun _ => rfl) (fun es y hy => DBlock.is_cells hy), by omega⟩⟩
end Go.Proofs.Ytkgoanjemhbjgaa
