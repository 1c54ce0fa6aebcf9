/- Part 4 of 5: plain readings of code, rules for them, and a proof over them, joined by a program. Conditions: none. -/
import Derived.Test.YteigefjiifihpaaPrun3
import Derived.Test.YteigefjiifihpaaProg
/- The plainer reading of functions of the program, each held against its code. Conditions: none. -/
set_option linter.unusedVariables false
set_option maxRecDepth 100000
namespace Go.Proofs.Yteigefjiifihpaa
open Go Go.Den
/- (*loop.example/g00008/impl.Procs).step$1 -/
def an136 : Ann := (.seq .leaf (.seq .leaf .leaf))
def W136 (a0 : Int) (w : World) (K : Value → World → Prop) : Prop :=
  LetW (w.alloc (.cells #[.int .i64 0, .int .i64 0, .int .i64 0] 86)) fun w1 => MayN w1 ⟨w.heap.size, 0, none⟩ 3 ∧ LetW (puts w1 ⟨w.heap.size, 0, none⟩ 0 [.int .i64 a0, .int .i64 0, .int .i64 0]) fun w2 => ∃ n3 : Int, w2.cell? ⟨w.heap.size, 0, none⟩ = some (.int .i64 n3) ∧ ∃ n4 : Int, w2.cell? ⟨w.heap.size, 1, none⟩ = some (.int .i64 n4) ∧ ∃ n5 : Int, w2.cell? ⟨w.heap.size, 2, none⟩ = some (.int .i64 n5) ∧ K (.agg #[.int .i64 n3, .int .i64 n4, .int .i64 n5]) w2
theorem eq136 (a0 : Int) (w : World) (K : Value → World → Prop) : denFn Try.prog tt Try.f136 an136 [.int .i64 a0] w K = W136 a0 w K := by kernel_rfl
theorem ok136 : OkFn Try.prog 136 := ⟨Try.f136, Try.func136, by kernel_rfl, by kernel_rfl⟩
theorem go136 {a0 : Int} {w : World} {K : Value → World → Prop} (h : W136 a0 w K) : CallW Try.prog 136 #[.int .i64 a0] w K :=
  .inl ⟨ok136, denFn_sound tt_ok mix Try.func136 (by kernel_rfl) (eq136 a0 w K ▸ h)⟩

/- (*loop.example/g00008/impl.Procs).step$2 -/
def an137 : Ann := (.seq .leaf (.seq (.in_ (.seq .leaf (.cond (.seq .leaf .leaf) (.seq .leaf (.cond (.seq (.draw [0, 1, 0, 4, 12, 28, 63, 127] [0, 1, 2, 3, 4, 5, 6, 7]) .leaf) (.seq .leaf (.cond (.seq .leaf .leaf) .leaf))))))) (.seq .leaf .leaf)))
def W137 (a0_0 : Int) (a0_1 : Int) (a0_2 : Int) (a0_3 : Int) (a0_4 : Int) (a0_5 : Int) (a0_6 : Int) (a0_7 : Int) (a0_8 : Int) (a0_9 : Int) (c0 : Addr) (c1 : Addr) (w : World) (K : Value → World → Prop) : Prop :=
  LetW (w.alloc (.cells #[.int .i64 a0_0, .int .i64 a0_1, .int .i64 a0_2, .int .i64 a0_3, .int .i64 a0_4, .int .i64 a0_5, .int .i64 a0_6, .int .i64 a0_7, .int .i64 a0_8, .int .i64 a0_9] 100)) fun w1 => ∃ n2 : Int, w1.cell? (c0.add 2) = some (.int .i64 n2) ∧ BIf (decide ((n2 : Int) > 0)) (∃ n3 : Int, w1.cell? ⟨w.heap.size, 0, none⟩ = some (.int .i64 n3) ∧ ∃ n4 : Int, w1.cell? (c0.add 2) = some (.int .i64 n4) ∧ K (.bool ((n3 : Int) == n4)) w1) (∃ n5 : Int, w1.cell? (c0.add 2) = some (.int .i64 n5) ∧ BIf ((n5 : Int) == 0) (∃ n6 : Int, w1.drew.cell? ⟨w.heap.size, 2, none⟩ = some (.int .i64 n6) ∧ ∃ p7 : Option Addr, w1.drew.cell? c1 = some (.pointer p7) ∧ ∃ p8 : Addr, (p7 : Option Addr) = some p8 ∧ ∃ n9 : Int, w1.drew.cell? (p8.add 2) = some (.int .i64 n9) ∧ K (.bool ((n6 : Int) == n9)) w1.drew) (∃ n10 : Int, w1.cell? (c0.add 2) = some (.int .i64 n10) ∧ BIf ((n10 : Int) == (-1)) (K (.bool true) w1) (∃ n11 : Int, w1.cell? ⟨w.heap.size, 2, none⟩ = some (.int .i64 n11) ∧ ∃ n12 : Int, w1.cell? (c0.add 2) = some (.int .i64 n12) ∧ K (.bool ((n11 : Int) == (IntKind.wrap .i64 (0 - n12)))) w1)))
theorem eq137 (a0_0 : Int) (a0_1 : Int) (a0_2 : Int) (a0_3 : Int) (a0_4 : Int) (a0_5 : Int) (a0_6 : Int) (a0_7 : Int) (a0_8 : Int) (a0_9 : Int) (c0 : Addr) (c1 : Addr) (w : World) (K : Value → World → Prop) : denFn Try.prog tt Try.f137 an137 [.agg #[.int .i64 a0_0, .int .i64 a0_1, .int .i64 a0_2, .int .i64 a0_3, .int .i64 a0_4, .int .i64 a0_5, .int .i64 a0_6, .int .i64 a0_7, .int .i64 a0_8, .int .i64 a0_9], .pointer (some c0), .pointer (some c1)] w K = W137 a0_0 a0_1 a0_2 a0_3 a0_4 a0_5 a0_6 a0_7 a0_8 a0_9 c0 c1 w K := by kernel_rfl
theorem ok137 : OkFn Try.prog 137 := ⟨Try.f137, Try.func137, by kernel_rfl, by kernel_rfl⟩
theorem go137 {a0_0 : Int} {a0_1 : Int} {a0_2 : Int} {a0_3 : Int} {a0_4 : Int} {a0_5 : Int} {a0_6 : Int} {a0_7 : Int} {a0_8 : Int} {a0_9 : Int} {c0 : Addr} {c1 : Addr} {w : World} {K : Value → World → Prop} (h : W137 a0_0 a0_1 a0_2 a0_3 a0_4 a0_5 a0_6 a0_7 a0_8 a0_9 c0 c1 w K) : CallW Try.prog 137 #[.agg #[.int .i64 a0_0, .int .i64 a0_1, .int .i64 a0_2, .int .i64 a0_3, .int .i64 a0_4, .int .i64 a0_5, .int .i64 a0_6, .int .i64 a0_7, .int .i64 a0_8, .int .i64 a0_9], .pointer (some c0), .pointer (some c1)] w K :=
  .inl ⟨ok137, denFn_sound tt_ok mix Try.func137 (by kernel_rfl) (eq137 a0_0 a0_1 a0_2 a0_3 a0_4 a0_5 a0_6 a0_7 a0_8 a0_9 c0 c1 w K ▸ h)⟩

/- (*loop.example/g00008/impl.Procs).end -/
def an138 : Ann := (.seq .leaf (.seq (.seq .leaf (.in_ (.loop 32775 [(6, .bool), (16, .int .i64)] (.seq .leaf (.seq (.cond .leaf .leaf) (.seq (.in_ (.seq .leaf (.seq .leaf (.seq .leaf (.cond (.seq .leaf (.reg [(2, none), (6, some (98311, [(41, .bool)])), (1, none)])) .leaf))))) .leaf)))))) (.join 7 [] (.seq .leaf (.cond .leaf .leaf)) (.seq .leaf (.seq .leaf (.seq (.seq .leaf (.cond (.seq .leaf .leaf) .leaf)) (.seq .leaf .leaf)))))))
def W138 (a0 : Option Addr) (a1 : Int) (a2 : Int) (w : World) (K : Value → World → Prop) : Prop :=
  ∃ p1 : Addr, (a0 : Option Addr) = some p1 ∧ ∃ l2 : Sl, w.cell? (p1.add 0) = some (.slice l2.a l2.len l2.cap) ∧ LoopW [.bool, .int .i64] (fun J5 => fun (b3 : Bool) (n4 : Int) w6 => BIf (decide ((n4 : Int) < ((l2.len : Nat) : Int))) (∃ p7 : Addr, (a0 : Option Addr) = some p7 ∧ ∃ l8 : Sl, w6.cell? (p7.add 0) = some (.slice l8.a l8.len l8.cap) ∧ 0 ≤ (n4 : Int) ∧ (n4 : Int) < ((l8.len : Nat) : Int) ∧ ∃ q9 : Addr, (l8.a : Option Addr) = some q9 ∧ ∃ p10 : Addr, (some (q9.add (Int.toNat n4 * 10)) : Option Addr) = some p10 ∧ ∃ n11 : Int, w6.cell? (p10.add 1) = some (.int .i64 n11) ∧ BIf ((n11 : Int) == a1) (∃ p12 : Addr, (some (q9.add (Int.toNat n4 * 10)) : Option Addr) = some p12 ∧ May w6 (p12.add 1) ∧ LetW (w6.setCell (p12.add 1) (.int .i64 1)) fun w13 => JoinW [.bool] (fun J15 => BIf b3 (J15 true w13) (∃ p17 : Addr, (some (q9.add (Int.toNat n4 * 10)) : Option Addr) = some p17 ∧ ∃ n18 : Int, w13.cell? (p17.add 4) = some (.int .i64 n18) ∧ J15 ((n18 : Int) == 3) w13)) (fun (b14 : Bool) w16 => J5 b14 (IntKind.wrap .i64 (n4 + 1)) w16)) (J5 b3 (IntKind.wrap .i64 (n4 + 1)) w6)) (JoinW [] (fun J19 => BIf b3 (CallW Try.prog 140 #[.pointer a0, .int .i64 1, .int .i64 14] w6 fun v49 w50 => v49 = .tuple #[] ∧ J19 w50) (J19 w6)) (fun w20 => CallW Try.prog 104 #[.pointer a0, .int .i64 a1] w20 fun v21 w22 => ∃ p23 : Option Addr, v21 = .pointer p23 ∧ ∃ p24 : Addr, (p23 : Option Addr) = some p24 ∧ ∃ n25 : Int, w22.cell? (p24.add 1) = some (.int .i64 n25) ∧ CallW Try.prog 104 #[.pointer a0, .int .i64 n25] w22 fun v26 w27 => ∃ p28 : Option Addr, v26 = .pointer p28 ∧ ∃ p29 : Addr, (p28 : Option Addr) = some p29 ∧ ∃ n30 : Int, w27.cell? (p29.add 8) = some (.int .i64 n30) ∧ 0 ≤ (14 : Int) ∧ BIf ((andI .i64 (shrI .i64 n30 14) 1 : Int) == 1) (CallW Try.prog 139 #[.pointer a0, .int .i64 a1] w27 fun v31 w32 => v31 = .tuple #[] ∧ K (.tuple #[]) w32) (∃ p33 : Addr, (p23 : Option Addr) = some p33 ∧ May w27 (p33.add 4) ∧ LetW (w27.setCell (p33.add 4) (.int .i64 3)) fun w34 => ∃ p35 : Addr, (p23 : Option Addr) = some p35 ∧ May w34 (p35.add 5) ∧ LetW (w34.setCell (p35.add 5) (.int .i64 a2)) fun w36 => ∃ p37 : Addr, (p23 : Option Addr) = some p37 ∧ May w36 (p37.add 6) ∧ LetW (w36.setCell (p37.add 6) (.int .i64 0)) fun w38 => ∃ p39 : Addr, (p23 : Option Addr) = some p39 ∧ May w38 (p39.add 7) ∧ LetW (w38.setCell (p39.add 7) (.int .i64 0)) fun w40 => ∃ p41 : Addr, (p23 : Option Addr) = some p41 ∧ May w40 (p41.add 8) ∧ LetW (w40.setCell (p41.add 8) (.int .i64 0)) fun w42 => ∃ p43 : Addr, (p23 : Option Addr) = some p43 ∧ May w42 (p43.add 9) ∧ LetW (w42.setCell (p43.add 9) (.int .i64 0)) fun w44 => ∃ p45 : Addr, (p28 : Option Addr) = some p45 ∧ ∃ n46 : Int, w44.cell? (p45.add 0) = some (.int .i64 n46) ∧ CallW Try.prog 140 #[.pointer a0, .int .i64 n46, .int .i64 14] w44 fun v47 w48 => v47 = .tuple #[] ∧ K (.tuple #[]) w48)))) ((false : Bool), ((0 : Int), ())) w
theorem eq138 (a0 : Option Addr) (a1 : Int) (a2 : Int) (w : World) (K : Value → World → Prop) : denFn Try.prog tt Try.f138 an138 [.pointer a0, .int .i64 a1, .int .i64 a2] w K = W138 a0 a1 a2 w K := by kernel_rfl
theorem ok138 : OkFn Try.prog 138 := ⟨Try.f138, Try.func138, by kernel_rfl, by kernel_rfl⟩
theorem go138 {a0 : Option Addr} {a1 : Int} {a2 : Int} {w : World} {K : Value → World → Prop} (h : W138 a0 a1 a2 w K) : CallW Try.prog 138 #[.pointer a0, .int .i64 a1, .int .i64 a2] w K :=
  .inl ⟨ok138, denFn_sound tt_ok mix Try.func138 (by kernel_rfl) (eq138 a0 a1 a2 w K ▸ h)⟩

/- (*loop.example/g00008/impl.Procs).gone -/
def an139 : Ann := (.seq .leaf (.seq (.seq .leaf (.in_ (.loop 3075 [(4, .slice), (12, .int .i64)] (.seq .leaf (.seq (.cond .leaf .leaf) (.seq (.in_ (.seq .leaf (.seq .leaf (.cond .leaf .leaf)))) .leaf)))))) .leaf))
def W139 (a0 : Option Addr) (a1 : Int) (w : World) (K : Value → World → Prop) : Prop :=
  ∃ p1 : Addr, (a0 : Option Addr) = some p1 ∧ ∃ l2 : Sl, w.cell? (p1.add 0) = some (.slice l2.a l2.len l2.cap) ∧ LoopW [.slice, .int .i64] (fun J5 => fun (l3 : Sl) (n4 : Int) w6 => BIf (decide ((n4 : Int) < ((l2.len : Nat) : Int))) (0 ≤ (n4 : Int) ∧ (n4 : Int) < ((l2.len : Nat) : Int) ∧ ∃ q7 : Addr, (l2.a : Option Addr) = some q7 ∧ ∃ n8 : Int, w6.cell? ((q7.add (Int.toNat n4 * 10)).add 0) = some (.int .i64 n8) ∧ ∃ n9 : Int, w6.cell? ((q7.add (Int.toNat n4 * 10)).add 1) = some (.int .i64 n9) ∧ ∃ n10 : Int, w6.cell? ((q7.add (Int.toNat n4 * 10)).add 2) = some (.int .i64 n10) ∧ ∃ n11 : Int, w6.cell? ((q7.add (Int.toNat n4 * 10)).add 3) = some (.int .i64 n11) ∧ ∃ n12 : Int, w6.cell? ((q7.add (Int.toNat n4 * 10)).add 4) = some (.int .i64 n12) ∧ ∃ n13 : Int, w6.cell? ((q7.add (Int.toNat n4 * 10)).add 5) = some (.int .i64 n13) ∧ ∃ n14 : Int, w6.cell? ((q7.add (Int.toNat n4 * 10)).add 6) = some (.int .i64 n14) ∧ ∃ n15 : Int, w6.cell? ((q7.add (Int.toNat n4 * 10)).add 7) = some (.int .i64 n15) ∧ ∃ n16 : Int, w6.cell? ((q7.add (Int.toNat n4 * 10)).add 8) = some (.int .i64 n16) ∧ ∃ n17 : Int, w6.cell? ((q7.add (Int.toNat n4 * 10)).add 9) = some (.int .i64 n17) ∧ LetW (w6.alloc (.cells #[.int .i64 0, .int .i64 0, .int .i64 0, .int .i64 0, .int .i64 0, .int .i64 0, .int .i64 0, .int .i64 0, .int .i64 0, .int .i64 0] 100)) fun w18 => MayN w18 ⟨w6.heap.size, 0, none⟩ 10 ∧ LetW (puts w18 ⟨w6.heap.size, 0, none⟩ 0 [.int .i64 n8, .int .i64 n9, .int .i64 n10, .int .i64 n11, .int .i64 n12, .int .i64 n13, .int .i64 n14, .int .i64 n15, .int .i64 n16, .int .i64 n17]) fun w19 => ∃ n20 : Int, w19.cell? ⟨w6.heap.size, 0, none⟩ = some (.int .i64 n20) ∧ BIf ((n20 : Int) != a1) (∃ n21 : Int, w19.cell? ⟨w6.heap.size, 0, none⟩ = some (.int .i64 n21) ∧ ∃ n22 : Int, w19.cell? ⟨w6.heap.size, 1, none⟩ = some (.int .i64 n22) ∧ ∃ n23 : Int, w19.cell? ⟨w6.heap.size, 2, none⟩ = some (.int .i64 n23) ∧ ∃ n24 : Int, w19.cell? ⟨w6.heap.size, 3, none⟩ = some (.int .i64 n24) ∧ ∃ n25 : Int, w19.cell? ⟨w6.heap.size, 4, none⟩ = some (.int .i64 n25) ∧ ∃ n26 : Int, w19.cell? ⟨w6.heap.size, 5, none⟩ = some (.int .i64 n26) ∧ ∃ n27 : Int, w19.cell? ⟨w6.heap.size, 6, none⟩ = some (.int .i64 n27) ∧ ∃ n28 : Int, w19.cell? ⟨w6.heap.size, 7, none⟩ = some (.int .i64 n28) ∧ ∃ n29 : Int, w19.cell? ⟨w6.heap.size, 8, none⟩ = some (.int .i64 n29) ∧ ∃ n30 : Int, w19.cell? ⟨w6.heap.size, 9, none⟩ = some (.int .i64 n30) ∧ LetW (w19.alloc (.cells #[.int .i64 n21, .int .i64 n22, .int .i64 n23, .int .i64 n24, .int .i64 n25, .int .i64 n26, .int .i64 n27, .int .i64 n28, .int .i64 n29, .int .i64 n30] 100)) fun w31 => AppendW 100 ti100 l3 ⟨some ⟨w19.heap.size, 0, none⟩, 1, 1⟩ w31 fun l32 w33 => J5 l32 (IntKind.wrap .i64 (n4 + 1)) w33) (J5 l3 (IntKind.wrap .i64 (n4 + 1)) w19)) (∃ p34 : Addr, (a0 : Option Addr) = some p34 ∧ May w6 (p34.add 0) ∧ LetW (w6.setCell (p34.add 0) (.slice l3.a l3.len l3.cap)) fun w35 => K (.tuple #[]) w35)) ((⟨none, 0, 0⟩ : Sl), ((0 : Int), ())) w
theorem eq139 (a0 : Option Addr) (a1 : Int) (w : World) (K : Value → World → Prop) : denFn Try.prog tt Try.f139 an139 [.pointer a0, .int .i64 a1] w K = W139 a0 a1 w K := by kernel_rfl
theorem ok139 : OkFn Try.prog 139 := ⟨Try.f139, Try.func139, by kernel_rfl, by kernel_rfl⟩
theorem go139 {a0 : Option Addr} {a1 : Int} {w : World} {K : Value → World → Prop} (h : W139 a0 a1 w K) : CallW Try.prog 139 #[.pointer a0, .int .i64 a1] w K :=
  .inl ⟨ok139, denFn_sound tt_ok mix Try.func139 (by kernel_rfl) (eq139 a0 a1 w K ▸ h)⟩

/- (*loop.example/g00008/impl.Procs).send -/
def an140 : Ann := (.seq .leaf (.seq (.seq (.reg [(3, none), (6, some (68, [(18, .bool)]))]) (.cond .leaf .leaf)) (.join 68 [] (.seq .leaf (.in_ (.seq .leaf (.cond (.seq .leaf .leaf) (.seq .leaf (.cond .leaf .leaf)))))) (.seq .leaf (.cond (.draw [0, 1, 3, 7, 0, 16, 63, 127, 255, 511] [0, 1, 2, 3, 4, 5, 6, 7, 8, 9]) .leaf)))))
def W140 (a0 : Option Addr) (a1 : Int) (a2 : Int) (w : World) (K : Value → World → Prop) : Prop :=
  CallW Try.prog 104 #[.pointer a0, .int .i64 a1] w fun v1 w2 => ∃ p3 : Option Addr, v1 = .pointer p3 ∧ JoinW [.bool] (fun J5 => BIf (Option.isNone p3) (J5 true w2) (∃ p25 : Addr, (p3 : Option Addr) = some p25 ∧ ∃ n26 : Int, w2.cell? (p25.add 4) = some (.int .i64 n26) ∧ J5 ((n26 : Int) == 3) w2)) (fun (b4 : Bool) w6 => BIf b4 (K (.tuple #[]) w6) (JoinW [] (fun J7 => BIf ((a2 : Int) == 13) (∃ p15 : Addr, (p3 : Option Addr) = some p15 ∧ May w6 (p15.add 4) ∧ LetW (w6.setCell (p15.add 4) (.int .i64 1)) fun w16 => ∃ p17 : Addr, (p3 : Option Addr) = some p17 ∧ ∃ n18 : Int, w16.cell? (p17.add 6) = some (.int .i64 n18) ∧ ∃ p19 : Addr, (p3 : Option Addr) = some p19 ∧ May w16 (p19.add 6) ∧ LetW (w16.setCell (p19.add 6) (.int .i64 (andNotI .i64 n18 4096))) fun w20 => J7 w20) (BIf ((a2 : Int) == 12) (∃ p21 : Addr, (p3 : Option Addr) = some p21 ∧ ∃ n22 : Int, w6.cell? (p21.add 6) = some (.int .i64 n22) ∧ ∃ p23 : Addr, (p3 : Option Addr) = some p23 ∧ May w6 (p23.add 6) ∧ LetW (w6.setCell (p23.add 6) (.int .i64 (andNotI .i64 n22 8192))) fun w24 => J7 w24) (J7 w6))) (fun w8 => ∃ p9 : Addr, (p3 : Option Addr) = some p9 ∧ ∃ n10 : Int, w8.cell? (p9.add 8) = some (.int .i64 n10) ∧ 0 ≤ (a2 : Int) ∧ BIf ((andI .i64 (shrI .i64 n10 a2) 1 : Int) == 0) (∃ p11 : Addr, (p3 : Option Addr) = some p11 ∧ ∃ n12 : Int, w8.drew.cell? (p11.add 6) = some (.int .i64 n12) ∧ 0 ≤ (a2 : Int) ∧ ∃ p13 : Addr, (p3 : Option Addr) = some p13 ∧ May w8.drew (p13.add 6) ∧ LetW (w8.drew.setCell (p13.add 6) (.int .i64 (orI .i64 n12 (shlI .i64 1 a2)))) fun w14 => K (.tuple #[]) w14) (K (.tuple #[]) w8))))
theorem eq140 (a0 : Option Addr) (a1 : Int) (a2 : Int) (w : World) (K : Value → World → Prop) : denFn Try.prog tt Try.f140 an140 [.pointer a0, .int .i64 a1, .int .i64 a2] w K = W140 a0 a1 a2 w K := by kernel_rfl
theorem ok140 : OkFn Try.prog 140 := ⟨Try.f140, Try.func140, by kernel_rfl, by kernel_rfl⟩
theorem go140 {a0 : Option Addr} {a1 : Int} {a2 : Int} {w : World} {K : Value → World → Prop} (h : W140 a0 a1 a2 w K) : CallW Try.prog 140 #[.pointer a0, .int .i64 a1, .int .i64 a2] w K :=
  .inl ⟨ok140, denFn_sound tt_ok mix Try.func140 (by kernel_rfl) (eq140 a0 a1 a2 w K ▸ h)⟩

/- loop.example/g00008/spec.l16Has -/
def an143 : Ann := (.seq .leaf (.seq .leaf .leaf))
def W143 (a0 : Int) (a1 : Int) (w : World) (K : Value → World → Prop) : Prop :=
  CallW Try.prog 153 #[.int .i64 a1] w fun v1 w2 => ∃ n3 : Int, v1 = .int .i64 n3 ∧ (n3 : Int) ≠ 0 ∧ (2 : Int) ≠ 0 ∧ K (.bool ((Int.tmod (IntKind.wrap .i64 (Int.tdiv a0 n3)) 2 : Int) == 1)) w2
theorem eq143 (a0 : Int) (a1 : Int) (w : World) (K : Value → World → Prop) : denFn Try.prog tt Try.f143 an143 [.int .i64 a0, .int .i64 a1] w K = W143 a0 a1 w K := by kernel_rfl
theorem ok143 : OkFn Try.prog 143 := ⟨Try.f143, Try.func143, by kernel_rfl, by kernel_rfl⟩
theorem go143 {a0 : Int} {a1 : Int} {w : World} {K : Value → World → Prop} (h : W143 a0 a1 w K) : CallW Try.prog 143 #[.int .i64 a0, .int .i64 a1] w K :=
  .inl ⟨ok143, denFn_sound tt_ok mix Try.func143 (by kernel_rfl) (eq143 a0 a1 w K ▸ h)⟩

/- loop.example/g00008/spec.l16Send -/
def an151 : Ann := (.seq .leaf (.seq .leaf (.seq (.seq .leaf (.cond .leaf .leaf)) (.join 78 [] (.seq .leaf (.cond (.seq .leaf .leaf) .leaf)) (.join 78 [] (.seq .leaf (.cond .leaf .leaf)) (.join 74 [] (.seq .leaf (.cond .leaf .leaf)) .leaf))))))
def W151 (a0_0 : Sl) (a1 : Int) (a2 : Int) (w : World) (K : Value → World → Prop) : Prop :=
  LetW (w.alloc (.cells #[.slice a0_0.a a0_0.len a0_0.cap] 84)) fun w1 => ∃ l2 : Sl, w1.cell? ⟨w.heap.size, 0, none⟩ = some (.slice l2.a l2.len l2.cap) ∧ 0 ≤ (a1 : Int) ∧ (a1 : Int) < ((l2.len : Nat) : Int) ∧ ∃ q3 : Addr, (l2.a : Option Addr) = some q3 ∧ ∃ n4 : Int, w1.cell? ((q3.add (Int.toNat a1 * 10)).add 0) = some (.int .i64 n4) ∧ ∃ n5 : Int, w1.cell? ((q3.add (Int.toNat a1 * 10)).add 1) = some (.int .i64 n5) ∧ ∃ n6 : Int, w1.cell? ((q3.add (Int.toNat a1 * 10)).add 2) = some (.int .i64 n6) ∧ ∃ n7 : Int, w1.cell? ((q3.add (Int.toNat a1 * 10)).add 3) = some (.int .i64 n7) ∧ ∃ n8 : Int, w1.cell? ((q3.add (Int.toNat a1 * 10)).add 4) = some (.int .i64 n8) ∧ ∃ n9 : Int, w1.cell? ((q3.add (Int.toNat a1 * 10)).add 5) = some (.int .i64 n9) ∧ ∃ n10 : Int, w1.cell? ((q3.add (Int.toNat a1 * 10)).add 6) = some (.int .i64 n10) ∧ ∃ n11 : Int, w1.cell? ((q3.add (Int.toNat a1 * 10)).add 7) = some (.int .i64 n11) ∧ ∃ n12 : Int, w1.cell? ((q3.add (Int.toNat a1 * 10)).add 8) = some (.int .i64 n12) ∧ ∃ n13 : Int, w1.cell? ((q3.add (Int.toNat a1 * 10)).add 9) = some (.int .i64 n13) ∧ LetW (w1.alloc (.cells #[.int .i64 0, .int .i64 0, .int .i64 0, .int .i64 0, .int .i64 0, .int .i64 0, .int .i64 0, .int .i64 0, .int .i64 0, .int .i64 0] 100)) fun w14 => MayN w14 ⟨w1.heap.size, 0, none⟩ 10 ∧ LetW (puts w14 ⟨w1.heap.size, 0, none⟩ 0 [.int .i64 n4, .int .i64 n5, .int .i64 n6, .int .i64 n7, .int .i64 n8, .int .i64 n9, .int .i64 n10, .int .i64 n11, .int .i64 n12, .int .i64 n13]) fun w15 => ∃ n16 : Int, w15.cell? ⟨w1.heap.size, 4, none⟩ = some (.int .i64 n16) ∧ BIf ((n16 : Int) == 3) (K (.tuple #[]) w15) (JoinW [] (fun J17 => BIf ((a2 : Int) == 13) (May w15 ⟨w1.heap.size, 4, none⟩ ∧ LetW (w15.setCell ⟨w1.heap.size, 4, none⟩ (.int .i64 1)) fun w50 => ∃ n51 : Int, w50.cell? ⟨w1.heap.size, 6, none⟩ = some (.int .i64 n51) ∧ CallW Try.prog 131 #[.int .i64 n51, .int .i64 12] w50 fun v52 w53 => ∃ n54 : Int, v52 = .int .i64 n54 ∧ May w53 ⟨w1.heap.size, 6, none⟩ ∧ LetW (w53.setCell ⟨w1.heap.size, 6, none⟩ (.int .i64 n54)) fun w55 => J17 w55) (J17 w15)) (fun w18 => JoinW [] (fun J19 => BIf ((a2 : Int) == 12) (∃ n45 : Int, w18.cell? ⟨w1.heap.size, 6, none⟩ = some (.int .i64 n45) ∧ CallW Try.prog 131 #[.int .i64 n45, .int .i64 13] w18 fun v46 w47 => ∃ n48 : Int, v46 = .int .i64 n48 ∧ May w47 ⟨w1.heap.size, 6, none⟩ ∧ LetW (w47.setCell ⟨w1.heap.size, 6, none⟩ (.int .i64 n48)) fun w49 => J19 w49) (J19 w18)) (fun w20 => JoinW [] (fun J21 => ∃ n36 : Int, w20.cell? ⟨w1.heap.size, 8, none⟩ = some (.int .i64 n36) ∧ CallW Try.prog 143 #[.int .i64 n36, .int .i64 a2] w20 fun v37 w38 => ∃ b39 : Bool, v37 = .bool b39 ∧ BIf (!b39) (∃ n40 : Int, w38.cell? ⟨w1.heap.size, 6, none⟩ = some (.int .i64 n40) ∧ CallW Try.prog 154 #[.int .i64 n40, .int .i64 a2] w38 fun v41 w42 => ∃ n43 : Int, v41 = .int .i64 n43 ∧ May w42 ⟨w1.heap.size, 6, none⟩ ∧ LetW (w42.setCell ⟨w1.heap.size, 6, none⟩ (.int .i64 n43)) fun w44 => J21 w44) (J21 w38)) (fun w22 => ∃ l23 : Sl, w22.cell? ⟨w.heap.size, 0, none⟩ = some (.slice l23.a l23.len l23.cap) ∧ ∃ n24 : Int, w22.cell? ⟨w1.heap.size, 0, none⟩ = some (.int .i64 n24) ∧ ∃ n25 : Int, w22.cell? ⟨w1.heap.size, 1, none⟩ = some (.int .i64 n25) ∧ ∃ n26 : Int, w22.cell? ⟨w1.heap.size, 2, none⟩ = some (.int .i64 n26) ∧ ∃ n27 : Int, w22.cell? ⟨w1.heap.size, 3, none⟩ = some (.int .i64 n27) ∧ ∃ n28 : Int, w22.cell? ⟨w1.heap.size, 4, none⟩ = some (.int .i64 n28) ∧ ∃ n29 : Int, w22.cell? ⟨w1.heap.size, 5, none⟩ = some (.int .i64 n29) ∧ ∃ n30 : Int, w22.cell? ⟨w1.heap.size, 6, none⟩ = some (.int .i64 n30) ∧ ∃ n31 : Int, w22.cell? ⟨w1.heap.size, 7, none⟩ = some (.int .i64 n31) ∧ ∃ n32 : Int, w22.cell? ⟨w1.heap.size, 8, none⟩ = some (.int .i64 n32) ∧ ∃ n33 : Int, w22.cell? ⟨w1.heap.size, 9, none⟩ = some (.int .i64 n33) ∧ 0 ≤ (a1 : Int) ∧ (a1 : Int) < ((l23.len : Nat) : Int) ∧ ∃ q34 : Addr, (l23.a : Option Addr) = some q34 ∧ MayN w22 (q34.add (Int.toNat a1 * 10)) 10 ∧ LetW (puts w22 (q34.add (Int.toNat a1 * 10)) 0 [.int .i64 n24, .int .i64 n25, .int .i64 n26, .int .i64 n27, .int .i64 n28, .int .i64 n29, .int .i64 n30, .int .i64 n31, .int .i64 n32, .int .i64 n33]) fun w35 => K (.tuple #[]) w35))))
theorem eq151 (a0_0 : Sl) (a1 : Int) (a2 : Int) (w : World) (K : Value → World → Prop) : denFn Try.prog tt Try.f151 an151 [.agg #[.slice a0_0.a a0_0.len a0_0.cap], .int .i64 a1, .int .i64 a2] w K = W151 a0_0 a1 a2 w K := by kernel_rfl
theorem ok151 : OkFn Try.prog 151 := ⟨Try.f151, Try.func151, by kernel_rfl, by kernel_rfl⟩
theorem go151 {a0_0 : Sl} {a1 : Int} {a2 : Int} {w : World} {K : Value → World → Prop} (h : W151 a0_0 a1 a2 w K) : CallW Try.prog 151 #[.agg #[.slice a0_0.a a0_0.len a0_0.cap], .int .i64 a1, .int .i64 a2] w K :=
  .inl ⟨ok151, denFn_sound tt_ok mix Try.func151 (by kernel_rfl) (eq151 a0_0 a1 a2 w K ▸ h)⟩

/- loop.example/g00008/spec.l16Cut -/
def an152 : Ann := (.seq .leaf (.seq (.draw [0, 0, 2, 0, 14, 31, 0, 64, 0, 256, 960, 2047, 4095, 8191] [1, 2, 3, 4, 6, 7, 8, 9, 10, 0, 5, 11, 12, 13]) (.seq .leaf .leaf)))
def W152 (a0_0 : Sl) (a1 : Int) (w : World) (K : Value → World → Prop) : Prop :=
  LetW (w.alloc (.cells #[.slice a0_0.a a0_0.len a0_0.cap] 84)) fun w1 => LetW (w1.alloc (.cells #[.slice none 0 0] 84)) fun w2 => ∃ l3 : Sl, w2.drew.cell? ⟨w.heap.size, 0, none⟩ = some (.slice l3.a l3.len l3.cap) ∧ 0 ≤ (a1 : Int) ∧ (a1 : Int) ≤ ((l3.cap : Nat) : Int) ∧ ∃ l4 : Sl, w2.drew.cell? ⟨w.heap.size, 0, none⟩ = some (.slice l4.a l4.len l4.cap) ∧ 0 ≤ (IntKind.wrap .i64 (a1 + 1) : Int) ∧ (IntKind.wrap .i64 (a1 + 1) : Int) ≤ ((l4.len : Nat) : Int) ∧ LetW (w2.drew.alloc (.cells #[] 100)) fun w5 => (∃ l6 : Sl, w5.cell? ⟨w.heap.size, 0, none⟩ = some (.slice l6.a l6.len l6.cap) ∧ (.slice l6.a l6.len l6.cap : Value) = (.slice l4.a l4.len l4.cap : Value)) ∧ (∃ l7 : Sl, w5.cell? ⟨w.heap.size, 0, none⟩ = some (.slice l7.a l7.len l7.cap) ∧ (.slice l7.a l7.len l7.cap : Value) = (.slice l3.a l3.len l3.cap : Value)) ∧ AppendW 100 ti100 ⟨some ⟨w2.drew.heap.size, 0, none⟩, 0, 0⟩ ⟨cutA l3.a l3.cap (Int.toNat 0) 10, Int.toNat a1 - Int.toNat 0, l3.cap - Int.toNat 0⟩ w5 fun l8 w9 => (∃ l10 : Sl, w9.cell? ⟨w.heap.size, 0, none⟩ = some (.slice l10.a l10.len l10.cap) ∧ (.slice l10.a l10.len l10.cap : Value) = (.slice l4.a l4.len l4.cap : Value)) ∧ AppendW 100 ti100 l8 ⟨cutA l4.a l4.cap (Int.toNat (IntKind.wrap .i64 (a1 + 1))) 10, Int.toNat ((l4.len : Nat) : Int) - Int.toNat (IntKind.wrap .i64 (a1 + 1)), l4.cap - Int.toNat (IntKind.wrap .i64 (a1 + 1))⟩ w9 fun l11 w12 => May w12 ⟨w.heap.size, 0, none⟩ ∧ LetW (w12.setCell ⟨w.heap.size, 0, none⟩ (.slice l11.a l11.len l11.cap)) fun w13 => ∃ l14 : Sl, w13.cell? ⟨w.heap.size, 0, none⟩ = some (.slice l14.a l14.len l14.cap) ∧ May w13 ⟨w1.heap.size, 0, none⟩ ∧ LetW (w13.setCell ⟨w1.heap.size, 0, none⟩ (.slice l14.a l14.len l14.cap)) fun w15 => ∃ l16 : Sl, w15.cell? ⟨w1.heap.size, 0, none⟩ = some (.slice l16.a l16.len l16.cap) ∧ K (.agg #[.slice l16.a l16.len l16.cap]) w15
theorem eq152 (a0_0 : Sl) (a1 : Int) (w : World) (K : Value → World → Prop) : denFn Try.prog tt Try.f152 an152 [.agg #[.slice a0_0.a a0_0.len a0_0.cap], .int .i64 a1] w K = W152 a0_0 a1 w K := by kernel_rfl
theorem ok152 : OkFn Try.prog 152 := ⟨Try.f152, Try.func152, by kernel_rfl, by kernel_rfl⟩
theorem go152 {a0_0 : Sl} {a1 : Int} {w : World} {K : Value → World → Prop} (h : W152 a0_0 a1 w K) : CallW Try.prog 152 #[.agg #[.slice a0_0.a a0_0.len a0_0.cap], .int .i64 a1] w K :=
  .inl ⟨ok152, denFn_sound tt_ok mix Try.func152 (by kernel_rfl) (eq152 a0_0 a1 w K ▸ h)⟩

/- loop.example/g00008/spec.l16Pow -/
def an153 : Ann := (.seq .leaf (.seq .leaf .leaf))
def W153 (a0 : Int) (w : World) (K : Value → World → Prop) : Prop :=
  CallW Try.prog 156 #[.int .i64 a0] w fun v1 w2 => ∃ n3 : Int, v1 = .int .u64 n3 ∧ K (.int .i64 (IntKind.wrap .i64 n3)) w2
theorem eq153 (a0 : Int) (w : World) (K : Value → World → Prop) : denFn Try.prog tt Try.f153 an153 [.int .i64 a0] w K = W153 a0 w K := by kernel_rfl
theorem ok153 : OkFn Try.prog 153 := ⟨Try.f153, Try.func153, by kernel_rfl, by kernel_rfl⟩
theorem go153 {a0 : Int} {w : World} {K : Value → World → Prop} (h : W153 a0 w K) : CallW Try.prog 153 #[.int .i64 a0] w K :=
  .inl ⟨ok153, denFn_sound tt_ok mix Try.func153 (by kernel_rfl) (eq153 a0 w K ▸ h)⟩

/- loop.example/g00008/spec.l16With -/
def an154 : Ann := (.seq .leaf (.seq (.seq .leaf (.cond (.seq .leaf .leaf) .leaf)) (.seq .leaf .leaf)))
def W154 (a0 : Int) (a1 : Int) (w : World) (K : Value → World → Prop) : Prop :=
  CallW Try.prog 143 #[.int .i64 a0, .int .i64 a1] w fun v1 w2 => ∃ b3 : Bool, v1 = .bool b3 ∧ BIf b3 (K (.int .i64 a0) w2) (CallW Try.prog 153 #[.int .i64 a1] w2 fun v4 w5 => ∃ n6 : Int, v4 = .int .i64 n6 ∧ K (.int .i64 (IntKind.wrap .i64 (a0 + n6))) w5)
theorem eq154 (a0 : Int) (a1 : Int) (w : World) (K : Value → World → Prop) : denFn Try.prog tt Try.f154 an154 [.int .i64 a0, .int .i64 a1] w K = W154 a0 a1 w K := by kernel_rfl
theorem ok154 : OkFn Try.prog 154 := ⟨Try.f154, Try.func154, by kernel_rfl, by kernel_rfl⟩
theorem go154 {a0 : Int} {a1 : Int} {w : World} {K : Value → World → Prop} (h : W154 a0 a1 w K) : CallW Try.prog 154 #[.int .i64 a0, .int .i64 a1] w K :=
  .inl ⟨ok154, denFn_sound tt_ok mix Try.func154 (by kernel_rfl) (eq154 a0 a1 w K ▸ h)⟩

/- loop.example/g00008/spec.l1Pow -/
def an156 : Ann := (.seq .leaf (.seq .leaf (.seq (.seq .leaf (.in_ (.loop 1 [(3, .int .u64), (4, .int .i64)] (.seq (.seq .leaf (.cond .leaf .leaf)) (.seq (.in_ .leaf) .leaf))))) (.seq .leaf .leaf))))
def W156 (a0 : Int) (w : World) (K : Value → World → Prop) : Prop :=
  LoopW [.int .u64, .int .i64] (fun J3 => fun (n1 : Int) (n2 : Int) w4 => BIf (decide ((n2 : Int) < a0)) (J3 (IntKind.wrap .u64 (n1 * 2)) (IntKind.wrap .i64 (n2 + 1)) w4) (K (.int .u64 n1) w4)) ((1 : Int), ((0 : Int), ())) w
theorem eq156 (a0 : Int) (w : World) (K : Value → World → Prop) : denFn Try.prog tt Try.f156 an156 [.int .i64 a0] w K = W156 a0 w K := by kernel_rfl
theorem ok156 : OkFn Try.prog 156 := ⟨Try.f156, Try.func156, by kernel_rfl, by kernel_rfl⟩
theorem go156 {a0 : Int} {w : World} {K : Value → World → Prop} (h : W156 a0 w K) : CallW Try.prog 156 #[.int .i64 a0] w K :=
  .inl ⟨ok156, denFn_sound tt_ok mix Try.func156 (by kernel_rfl) (eq156 a0 w K ▸ h)⟩

end Go.Proofs.Yteigefjiifihpaa

/- The types of the laws' parameters, as values of Lean's. Conditions: none. -/
set_option linter.unusedVariables false
set_option maxRecDepth 100000
namespace Go.Proofs.Yteigefjiifihpaa
open Go Go.Den
theorem o2 : Opens Try.prog 2 (cInt .i64) := opens_int Try.underlying2
structure DProc where
  Id : Int
  Parent : Int
  Group : Int
  User : Int
  State : Int
  Status : Int
  Pending : Int
  Mask : Int
  Ignored : Int
  Caught : Int
def DProc.cells (x : DProc) : List Value := [.int .i64 x.Id, .int .i64 x.Parent, .int .i64 x.Group, .int .i64 x.User, .int .i64 x.State, .int .i64 x.Status, .int .i64 x.Pending, .int .i64 x.Mask, .int .i64 x.Ignored, .int .i64 x.Caught]
structure DProcOp where
  Kind : Int
  Id : Int
  To : Int
  N : Int
def cDProcOp : Cod DProcOp := cMap (cPair (cInt .i64) (cPair (cInt .i64) (cPair (cInt .i64) (cPair (cInt .i64) cUnit)))) (fun x => ⟨x.1, x.2.1, x.2.2.1, x.2.2.2.1⟩)
abbrev TyProcOp : Ty := .st [(.int .i64), (.int .i64), (.int .i64), (.int .i64)]
def DProcOp.dat (x : DProcOp) : Dat := .st [.int .i64 x.Kind, .int .i64 x.Id, .int .i64 x.To, .int .i64 x.N]
theorem cDProcOp_dat {w : World} {cs : List Value} {x : DProcOp} (h : cDProcOp.is w cs x) : IsD w x.dat cs := by
  obtain ⟨y, rfl, ⟨a0, b0, rfl, _, h0, ⟨a1, b1, rfl, _, h1, ⟨a2, b2, rfl, _, h2, ⟨a3, b3, rfl, _, h3, z⟩⟩⟩⟩⟩ := h
  exact isD_mkSt (isF_mk (isD_mkInt h0) (isF_mk (isD_mkInt h1) (isF_mk (isD_mkInt h2) (isF_mk (isD_mkInt h3) (isF_mk0 z)))))
theorem DProcOp.has (x : DProcOp) : Has TyProcOp x.dat := mk_st (mkF_cons (mk_int) (mkF_cons (mk_int) (mkF_cons (mk_int) (mkF_cons (mk_int) (mkF_nil)))))
theorem DProcOp.is_cells {w : World} {cs : List Value} {x : DProcOp} (h : IsD w x.dat cs) : cs = [.int .i64 x.Kind, .int .i64 x.Id, .int .i64 x.To, .int .i64 x.N] := by
  have q := isD_st h
  obtain ⟨_, _, rfl, i0, q⟩ := isF_cons q
  obtain ⟨_, _, rfl, i1, q⟩ := isF_cons q
  obtain ⟨_, _, rfl, i2, q⟩ := isF_cons q
  obtain ⟨_, _, rfl, i3, q⟩ := isF_cons q
  obtain rfl := isF_nil q
  obtain ⟨rfl, _⟩ := isD_int i0
  obtain ⟨rfl, _⟩ := isD_int i1
  obtain ⟨rfl, _⟩ := isD_int i2
  obtain ⟨rfl, _⟩ := isD_int i3
  rfl
def DProcOp.cells (x : DProcOp) : List Value := [.int .i64 x.Kind, .int .i64 x.Id, .int .i64 x.To, .int .i64 x.N]
theorem o80 : Opens Try.prog 80 cDProcOp := opens_map _ (opens_struct Try.underlying80 (by kernel_rfl) (opensF_cons rfl (by kernel_rfl) o2 (opensF_cons rfl (by kernel_rfl) o2 (opensF_cons rfl (by kernel_rfl) o2 (opensF_cons rfl (by kernel_rfl) o2 opensF_nil)))))
theorem o65 : Opens Try.prog 65 (cSlice cDProcOp) := opens_slice Try.underlying65 (by kernel_rfl) o80
structure DProcRes where
  Code : Int
  N : Int
  Status : Int
abbrev TyProcRes : Ty := .st [(.int .i64), (.int .i64), (.int .i64)]
def DProcRes.dat (x : DProcRes) : Dat := .st [.int .i64 x.Code, .int .i64 x.N, .int .i64 x.Status]
theorem DProcRes.has (x : DProcRes) : Has TyProcRes x.dat := mk_st (mkF_cons (mk_int) (mkF_cons (mk_int) (mkF_cons (mk_int) (mkF_nil))))
def DProcRes.cells (x : DProcRes) : List Value := [.int .i64 x.Code, .int .i64 x.N, .int .i64 x.Status]
end Go.Proofs.Yteigefjiifihpaa

/- FnExactPick: the state in memory, and the small functions of both sides. Conditions: none. -/
set_option linter.unusedVariables false
set_option linter.unusedSimpArgs false
namespace Go.Proofs.Yteigefjiifihpaa
open Go Go.Den
/-- A thread's, a lock's address, by its place. -/
def ptrAt (a : Option Addr) (z : Nat) (i : Int) : Option Addr := if i < 0 then none else a.map (fun p => p.add (i.toNat * z))
end Go.Proofs.Yteigefjiifihpaa

/- FnExactPick: whom a thread waits for, on the reference's side. Conditions: none. -/
set_option linter.unusedVariables false
set_option linter.unusedSimpArgs false
namespace Go.Proofs.Yteigefjiifihpaa
open Go Go.Den
theorem idxFrom_find {α : Type} (p : α → Bool) : ∀ (l : List α) (k : Nat), (idxFrom p l k = -1 ∧ l.find? p = none) ∨ ∃ i x, idxFrom p l k = ((k + i : Nat) : Int) ∧ l[i]? = some x ∧ l.find? p = some x
  | [], k => .inl ⟨rfl, rfl⟩
  | x :: r, k => by
    unfold idxFrom
    by_cases hp : p x = true
    · rw [if_pos hp]
      exact .inr ⟨0, x, rfl, rfl, by simp [List.find?, hp]⟩
    · rw [if_neg hp]
      have hp : p x = false := by simpa using hp
      rcases idxFrom_find p r (k + 1) with ⟨h1, h2⟩ | ⟨i, y, h1, h2, h3⟩
      · exact .inl ⟨h1, by simp [List.find?, hp, h2]⟩
      · exact .inr ⟨i + 1, y, by rw [h1]; congr 1; omega, by simpa using h2, by simp [List.find?, hp, h3]⟩
end Go.Proofs.Yteigefjiifihpaa

/- FnExactPick: one thread, on the reference's side. Conditions: none. -/
set_option linter.unusedVariables false
set_option linter.unusedSimpArgs false
namespace Go.Proofs.Yteigefjiifihpaa
open Go Go.Den
end Go.Proofs.Yteigefjiifihpaa

/- FnExactPick: a thread's priority, and who is picked, on the reference's side. Conditions: none. -/
set_option linter.unusedVariables false
set_option linter.unusedSimpArgs false
namespace Go.Proofs.Yteigefjiifihpaa
open Go Go.Den
end Go.Proofs.Yteigefjiifihpaa

/- FnExactPick: who is picked, on the reference's side. Conditions: none. -/
set_option linter.unusedVariables false
set_option linter.unusedSimpArgs false
namespace Go.Proofs.Yteigefjiifihpaa
open Go Go.Den
end Go.Proofs.Yteigefjiifihpaa

/- FnExactPick: when a state can be, on the reference's side. Conditions: none. -/
set_option linter.unusedVariables false
set_option linter.unusedSimpArgs false
namespace Go.Proofs.Yteigefjiifihpaa
open Go Go.Den
end Go.Proofs.Yteigefjiifihpaa

/- FnExactPick: Pick, on the reference's side. Conditions: none. -/
set_option linter.unusedVariables false
set_option linter.unusedSimpArgs false
namespace Go.Proofs.Yteigefjiifihpaa
open Go Go.Den
end Go.Proofs.Yteigefjiifihpaa

/- FnExactPick: whom a thread waits for, on the program's side. Conditions: none. -/
set_option linter.unusedVariables false
set_option linter.unusedSimpArgs false
namespace Go.Proofs.Yteigefjiifihpaa
open Go Go.Den
theorem ptr_none {a : Option Addr} {z : Nat} : ptrAt a z (-1) = none := rfl
theorem ptr_some {a : Option Addr} {z : Nat} {p : Addr} (h : a = some p) (i : Nat) : ptrAt a z (i : Int) = some (p.add (i * z)) := by
  unfold ptrAt; rw [if_neg (by omega), h, Int.toNat_natCast]; rfl
end Go.Proofs.Yteigefjiifihpaa

/- FnExactPick, plain law: waiting comes to its end within as many steps as there are threads. Conditions: none. -/
set_option linter.unusedVariables false
set_option linter.unusedSimpArgs false
namespace Go.Proofs.Yteigefjiifihpaa
open Go Go.Den
end Go.Proofs.Yteigefjiifihpaa

/- FnExactPick: when a state can be, on the program's side. Conditions: none. -/
set_option linter.unusedVariables false
set_option linter.unusedSimpArgs false
namespace Go.Proofs.Yteigefjiifihpaa
open Go Go.Den
end Go.Proofs.Yteigefjiifihpaa

/- FnExactPick: the threads of a state that can be, on the program's side. Conditions: none. -/
set_option linter.unusedVariables false
set_option linter.unusedSimpArgs false
namespace Go.Proofs.Yteigefjiifihpaa
open Go Go.Den
end Go.Proofs.Yteigefjiifihpaa

/- FnExactPick: when a state can be, on the program's side: the walk. Conditions: none. -/
set_option linter.unusedVariables false
set_option linter.unusedSimpArgs false
namespace Go.Proofs.Yteigefjiifihpaa
open Go Go.Den
end Go.Proofs.Yteigefjiifihpaa

/- FnExactPick, plain law: a priority is the greatest of one's own and of those that wait. Conditions: none. -/
set_option linter.unusedVariables false
set_option linter.unusedSimpArgs false
namespace Go.Proofs.Yteigefjiifihpaa
open Go Go.Den
end Go.Proofs.Yteigefjiifihpaa

/- Sorted lists with a key, and the plain law of the scheduler: what a state keeps. Conditions: none. -/
set_option linter.unusedVariables false
set_option linter.unusedSimpArgs false
namespace Go.Proofs.Yteigefjiifihpaa
open Go Go.Den
/-! ## Sorted lists -/
section
variable {α : Type} {key : α → Int}
def Srt (key : α → Int) (l : List α) : Prop := l.Pairwise (fun x y => key x < key y)
theorem Srt.uniq : ∀ {l : List α}, Srt key l → ∀ {x y : α}, x ∈ l → y ∈ l → key x = key y → x = y
  | [], _, x, y, hx, _, _ => by cases hx
  | a :: r, h, x, y, hx, hy, he => by
    obtain ⟨h1, h2⟩ := List.pairwise_cons.1 h
    rcases List.mem_cons.1 hx with hx' | hx' <;> rcases List.mem_cons.1 hy with hy' | hy'
    · rw [hx', hy']
    · have := h1 y hy'; rw [hx'] at he; omega
    · have := h1 x hx'; rw [hy'] at he; omega
    · exact Srt.uniq h2 hx' hy' he
theorem Srt.find {l : List α} (h : Srt key l) {x : α} (hx : x ∈ l) : l.find? (fun y => key y == key x) = some x := by
  rcases hf : l.find? (fun y => key y == key x) with _ | y
  · have := List.find?_eq_none.1 hf x hx
    simp at this
  · have h1 := List.find?_some hf
    have h2 := List.mem_of_find?_eq_some hf
    rw [h.uniq h2 hx (by simpa using h1)]
theorem Srt.lt {l : List α} (h : Srt key l) {i j : Nat} {x y : α} (hx : l[i]? = some x) (hy : l[j]? = some y) (hij : i < j) : key x < key y := by
  obtain ⟨hi, rfl⟩ := List.getElem?_eq_some_iff.1 hx
  obtain ⟨hj, rfl⟩ := List.getElem?_eq_some_iff.1 hy
  exact List.pairwise_iff_getElem.1 h i j hi hj hij
theorem Srt.idx {l : List α} (h : Srt key l) {i : Nat} {x : α} (hx : l[i]? = some x) : idxFrom (fun y => key y == key x) l 0 = (i : Int) :=
  idx_at hx (by simp) (fun j y hj hy => by have := h.lt hy hx hj; simp; omega)
/-- One element turned, its key kept. -/
theorem Srt.set {l : List α} (h : Srt key l) {i : Nat} {x y : α} (hx : l[i]? = some x) (hk : key y = key x) : Srt key (l.set i y) := by
  unfold Srt
  rw [List.pairwise_iff_getElem]
  intro a b ha hb hab
  rw [List.length_set] at ha hb
  have hxe := (List.getElem?_eq_some_iff.1 hx).2
  have h0 := List.pairwise_iff_getElem.1 h a b ha hb hab
  rw [List.getElem_set, List.getElem_set]
  split
  · rename_i hia
    subst hia
    rw [if_neg (by omega), hk, ← hxe]
    exact h0
  · split
    · rename_i hib
      subst hib
      rw [hk, ← hxe]
      exact h0
    · exact h0
theorem Srt.mem_set {l : List α} (h : Srt key l) {i : Nat} {x y : α} (hx : l[i]? = some x) (z : α) : z ∈ l.set i y ↔ z = y ∨ (z ∈ l ∧ key z ≠ key x) := by
  have hi := (List.getElem?_eq_some_iff.1 hx).1
  constructor
  · intro hz
    obtain ⟨j, hj⟩ := List.getElem?_of_mem hz
    by_cases hij : i = j
    · subst hij
      rw [List.getElem?_set_self hi] at hj
      cases hj; exact .inl rfl
    · rw [List.getElem?_set_ne hij] at hj
      refine .inr ⟨List.mem_of_getElem? hj, fun he => ?_⟩
      rcases Nat.lt_trichotomy i j with hlt | heq | hgt
      · have := h.lt hx hj hlt; omega
      · exact hij heq
      · have := h.lt hj hx hgt; omega
  · rintro (rfl | ⟨hz, hne⟩)
    · exact List.mem_iff_getElem?.2 ⟨i, List.getElem?_set_self hi⟩
    · obtain ⟨j, hj⟩ := List.getElem?_of_mem hz
      have hij : i ≠ j := by rintro rfl; rw [hx] at hj; cases hj; exact hne rfl
      exact List.mem_iff_getElem?.2 ⟨j, by rw [List.getElem?_set_ne hij]; exact hj⟩
theorem Srt.filter {l : List α} (h : Srt key l) (p : α → Bool) : Srt key (l.filter p) := List.Pairwise.filter p h
/-- What is taken out by its place is taken out by its key. -/
theorem Srt.erase {l : List α} (h : Srt key l) {i : Nat} {x : α} (hx : l[i]? = some x) : l.take i ++ l.drop (i + 1) = l.filter (fun y => key y != key x) := by
  obtain ⟨hi, hv⟩ := List.getElem?_eq_some_iff.1 hx
  have hl : l = l.take i ++ x :: l.drop (i + 1) := by rw [← hv, ← List.drop_eq_getElem_cons hi, List.take_append_drop]
  have h1 : (l.take i).filter (fun y => key y != key x) = l.take i := by
    rw [List.filter_eq_self]
    intro a ha
    obtain ⟨j, hj⟩ := List.getElem?_of_mem ha
    have hji : j < i := by have := (List.getElem?_eq_some_iff.1 hj).1; rw [List.length_take] at this; omega
    rw [List.getElem?_take_of_lt hji] at hj
    have := h.lt hj hx hji
    simp; omega
  have h2 : (l.drop (i + 1)).filter (fun y => key y != key x) = l.drop (i + 1) := by
    rw [List.filter_eq_self]
    intro a ha
    obtain ⟨j, hj⟩ := List.getElem?_of_mem ha
    rw [List.getElem?_drop] at hj
    have := h.lt hx hj (by omega)
    simp; omega
  have h3 := congrArg (List.filter (fun y => key y != key x)) hl
  rw [h3, List.filter_append, List.filter_cons, h1, h2]
  simp
/-- A new element in its place. -/
theorem Srt.ins {l : List α} (h : Srt key l) {i : Nat} {x : α} (h1 : ∀ y, y ∈ l.take i → key y < key x) (h2 : ∀ y, y ∈ l.drop i → key x < key y) : Srt key (l.take i ++ x :: l.drop i) := by
  unfold Srt
  rw [List.pairwise_append]
  refine ⟨List.Pairwise.sublist (List.take_sublist _ _) h, List.pairwise_cons.2 ⟨h2, List.Pairwise.sublist (List.drop_sublist _ _) h⟩, fun a ha b hb => ?_⟩
  rcases List.mem_cons.1 hb with rfl | hb
  · exact h1 a ha
  · have := h1 a ha; have := h2 b hb; omega
theorem mem_ins {l : List α} {i : Nat} {x z : α} : z ∈ l.take i ++ x :: l.drop i ↔ z = x ∨ z ∈ l := by
  conv => rhs; rhs; rw [← List.take_append_drop i l]
  simp only [List.mem_append, List.mem_cons]
  exact ⟨fun h => by rcases h with h | h | h; exact .inr (.inl h); exact .inl h; exact .inr (.inr h), fun h => by rcases h with h | h | h; exact .inr (.inl h); exact .inl h; exact .inr (.inr h)⟩
theorem Srt.nodup {l : List α} (h : Srt key l) : (l.map key).Nodup := by
  rw [List.nodup_iff_pairwise_ne, List.pairwise_map]
  exact h.imp (fun h => by omega)
/-- The keys fill a range from below. -/
theorem Srt.fill {l : List α} (h : Srt key l) (hr : ∀ x, x ∈ l → 0 ≤ key x) : ∀ (i : Nat) (x : α), l[i]? = some x → (i : Int) ≤ key x
  | 0, x, hx => hr x (List.mem_of_getElem? hx)
  | i + 1, x, hx => by
    have hi := (List.getElem?_eq_some_iff.1 hx).1
    have hg : l[i]? = some l[i] := List.getElem?_eq_getElem (by omega)
    have := Srt.fill h hr i _ hg
    have := h.lt hg hx (by omega)
    omega
end
/-! ## What a state keeps -/
theorem filter_lt {α : Type} {p q : α → Bool} : ∀ (l : List α), (∀ x, x ∈ l → p x = true → q x = true) → (∃ x, x ∈ l ∧ p x = false ∧ q x = true) → (l.filter p).length < (l.filter q).length
  | [], _, ⟨x, hx, _⟩ => by cases hx
  | a :: r, h, hex => by
    have hle : (r.filter p).length ≤ (r.filter q).length := by
      clear hex
      induction r with
      | nil => exact Nat.le_refl _
      | cons b r ih =>
        have ih := ih (fun x hx => h x (by rcases List.mem_cons.1 hx with hx | hx <;> simp [hx]))
        have hb := h b (by simp)
        by_cases hp : p b = true
        · rw [List.filter_cons_of_pos hp, List.filter_cons_of_pos (hb hp)]; simp; exact ih
        · rw [List.filter_cons_of_neg hp]
          by_cases hq : q b = true
          · rw [List.filter_cons_of_pos hq]; simp; omega
          · rw [List.filter_cons_of_neg hq]; exact ih
    have ha := h a (by simp)
    by_cases hp : p a = true
    · rw [List.filter_cons_of_pos hp, List.filter_cons_of_pos (ha hp)]
      obtain ⟨x, hx, h1, h2⟩ := hex
      cases hx with
      | head => rw [h1] at hp; cases hp
      | tail _ hx =>
        have := filter_lt r (fun x hx => h x (by simp [hx])) ⟨x, hx, h1, h2⟩
        simp; exact this
    · rw [List.filter_cons_of_neg hp]
      by_cases hq : q a = true
      · rw [List.filter_cons_of_pos hq]; simp; omega
      · obtain ⟨x, hx, h1, h2⟩ := hex
        cases hx with
        | head => exact absurd h2 hq
        | tail _ hx =>
          rw [List.filter_cons_of_neg hq]
          exact filter_lt r (fun x hx => h x (by simp [hx])) ⟨x, hx, h1, h2⟩
end Go.Proofs.Yteigefjiifihpaa

/- The scheduler: what the walks need of a state; a state can be, in two words. Conditions: none. -/
set_option linter.unusedVariables false
set_option linter.unusedSimpArgs false
namespace Go.Proofs.Yteigefjiifihpaa
open Go Go.Den
theorem srt_of {α : Type} {key : α → Int} {l : List α} (h : ∀ i y, l[i]? = some y → ∀ z, 0 < i → l[i - 1]? = some z → key z < key y) : Srt key l := by
  have hh : ∀ n i x y, l[i]? = some x → l[i + n + 1]? = some y → key x < key y := by
    intro n
    induction n with
    | zero => intro i x y hx hy; exact h (i + 0 + 1) y hy x (by omega) hx
    | succ n ih =>
      intro i x y hx hy
      have hl := (List.getElem?_eq_some_iff.1 hy).1
      have hz : l[i + n + 1]? = some l[i + n + 1] := List.getElem?_eq_getElem (by omega)
      have h1 := ih i x _ hx hz
      have h2 := h (i + (n + 1) + 1) y hy _ (by omega) (by rw [show i + (n + 1) + 1 - 1 = i + n + 1 by omega]; exact hz)
      omega
  unfold Srt
  rw [List.pairwise_iff_getElem]
  intro i j hi hj hij
  exact hh (j - i - 1) i _ _ (List.getElem?_eq_getElem hi) (by rw [show i + (j - i - 1) + 1 = j by omega]; exact List.getElem?_eq_getElem hj)
end Go.Proofs.Yteigefjiifihpaa

/- The scheduler, plain law: what an operation does, and that a state stays one that can be. Conditions: none. -/
set_option linter.unusedVariables false
set_option linter.unusedSimpArgs false
namespace Go.Proofs.Yteigefjiifihpaa
open Go Go.Den
/-! ## What an operation does -/
/-! ## A state stays one that can be -/
end Go.Proofs.Yteigefjiifihpaa

/- The scheduler, plain law: a state stays one that can be, through every operation. Conditions: none. -/
set_option linter.unusedVariables false
set_option linter.unusedSimpArgs false
namespace Go.Proofs.Yteigefjiifihpaa
open Go Go.Den
end Go.Proofs.Yteigefjiifihpaa

/- FnExactPick: the measure of the program's priority. Conditions: none. -/
set_option linter.unusedVariables false
set_option linter.unusedSimpArgs false
namespace Go.Proofs.Yteigefjiifihpaa
open Go Go.Den
end Go.Proofs.Yteigefjiifihpaa

/- FnExactPick: a thread's priority, on the program's side. Conditions: none. -/
set_option linter.unusedVariables false
set_option linter.unusedSimpArgs false
namespace Go.Proofs.Yteigefjiifihpaa
open Go Go.Den
end Go.Proofs.Yteigefjiifihpaa

/- FnExactPick: who is picked, on the program's side. Conditions: none. -/
set_option linter.unusedVariables false
set_option linter.unusedSimpArgs false
namespace Go.Proofs.Yteigefjiifihpaa
open Go Go.Den
end Go.Proofs.Yteigefjiifihpaa

/- The scheduler, the reference's side: stand, hand on. Conditions: none. -/
set_option linter.unusedVariables false
set_option linter.unusedSimpArgs false
namespace Go.Proofs.Yteigefjiifihpaa
open Go Go.Den
end Go.Proofs.Yteigefjiifihpaa

/- Processes, plain law: what an operation does. Conditions: none. -/
set_option linter.unusedVariables false
set_option linter.unusedSimpArgs false
namespace Go.Proofs.Yteigefjiifihpaa
open Go Go.Den
/-- One process, by itself. -/
structure PrOk (x : DProc) : Prop where
  id : 1 ≤ x.Id ∧ x.Id ≤ 32
  grp : 1 ≤ x.Group ∧ x.Group ≤ 32
  usr : 0 ≤ x.User ∧ x.User ≤ 255
  st : 1 ≤ x.State ∧ x.State ≤ 3
  stat : 0 ≤ x.Status ∧ x.Status ≤ 255
  stz : x.State ≠ 3 → x.Status = 0
  pend : VS x.Pending
  mask : SS x.Mask
  ign : SS x.Ignored
  cau : SS x.Caught
  apart : ∀ i, hasS x.Ignored i = true → hasS x.Caught i = false
  zom : x.State = 3 → x.Pending = 0 ∧ x.Mask = 0 ∧ x.Ignored = 0 ∧ x.Caught = 0
structure PInv (l : List DProc) : Prop where
  srt : Srt DProc.Id l
  ok : ∀ x, x ∈ l → PrOk x
  head : ∃ x, l[0]? = some x ∧ x.Id = 1 ∧ x.Parent = 0 ∧ x.State ≠ 3
  par : ∀ x, x ∈ l → x.Id ≠ 1 → ∃ q, q ∈ l ∧ q.Id = x.Parent ∧ q.State ≠ 3
  rank : ∃ r : Int → Nat, ∀ x, x ∈ l → x.Id ≠ 1 → r x.Parent < r x.Id
def ixP (l : List DProc) (id : Int) : Int := idxFrom (fun x : DProc => x.Id == id) l 0
def prOf (l : List DProc) (id : Int) : Option DProc := l.find? (fun x : DProc => x.Id == id)
theorem ixP_find (l : List DProc) (id : Int) : (ixP l id = -1 ∧ prOf l id = none) ∨ ∃ i x, ixP l id = ((i : Nat) : Int) ∧ l[i]? = some x ∧ prOf l id = some x := by
  rcases idxFrom_find (fun x : DProc => x.Id == id) l 0 with h | ⟨i, x, h1, h2, h3⟩
  · exact .inl h
  · exact .inr ⟨i, x, by rw [← Nat.zero_add i]; exact h1, h2, h3⟩
theorem prOf_some {l : List DProc} {id : Int} {x : DProc} (h : prOf l id = some x) : x ∈ l ∧ x.Id = id := by
  unfold prOf at h
  exact ⟨List.mem_of_find?_eq_some h, by simpa using List.find?_some h⟩
/-- The numbers fill a range from one. -/
theorem PInv.fill {l : List DProc} (h : PInv l) {i : Nat} {x : DProc} (hx : l[i]? = some x) : (i : Int) + 1 ≤ x.Id := by
  have hs : Srt (fun x : DProc => x.Id - 1) l := h.srt.imp (fun {a b} hlt => by show a.Id - 1 < b.Id - 1; omega)
  have := hs.fill (fun x hx => by have := (h.ok x hx).id.1; omega) i x hx
  omega
theorem PInv.len {l : List DProc} (h : PInv l) : 1 ≤ l.length ∧ l.length ≤ 32 := by
  constructor
  · obtain ⟨x, hx, _⟩ := h.head
    have := (List.getElem?_eq_some_iff.1 hx).1
    omega
  · refine Nat.le_of_not_lt (fun hgt => ?_)
    have hg : l[l.length - 1]? = some l[l.length - 1] := List.getElem?_eq_getElem (by omega)
    have := h.fill hg
    have := (h.ok _ (List.mem_of_getElem? hg)).id.2
    omega
/-! ## What an operation does -/
def sendX (x : DProc) (sig : Nat) : DProc :=
  if hasS x.Ignored sig = true then
    ⟨x.Id, x.Parent, x.Group, x.User, if sig = 13 then 1 else x.State, x.Status, if sig = 12 then lessS x.Pending 13 else if sig = 13 then lessS x.Pending 12 else x.Pending, x.Mask, x.Ignored, x.Caught⟩
  else ⟨x.Id, x.Parent, x.Group, x.User, if sig = 13 then 1 else x.State, x.Status, withS (if sig = 12 then lessS x.Pending 13 else if sig = 13 then lessS x.Pending 12 else x.Pending) sig, x.Mask, x.Ignored, x.Caught⟩
def sendY (sig : Nat) (x : DProc) : DProc := if x.State = 3 then x else sendX x sig
def sendF (l : List DProc) (i : Nat) (sig : Nat) : List DProc := match l[i]? with
  | some x => l.set i (sendY sig x)
  | none => l
def reP (id : Int) (x : DProc) : DProc := if x.Parent = id then ⟨x.Id, 1, x.Group, x.User, x.State, x.Status, x.Pending, x.Mask, x.Ignored, x.Caught⟩ else x
def deadKid (l : List DProc) (id : Int) : Bool := l.any (fun x => x.Parent == id && x.State == 3)
def endA (l : List DProc) (id : Int) : List DProc := if deadKid l id = true then sendF (l.map (reP id)) 0 14 else l.map (reP id)
def zomb (x : DProc) (status : Int) : DProc := ⟨x.Id, x.Parent, x.Group, x.User, 3, status, 0, 0, 0, 0⟩
def endB (l : List DProc) (id status : Int) : List DProc := match prOf l id with
  | none => l
  | some x => match prOf l x.Parent with
    | none => l
    | some u => if hasS u.Ignored 14 = true then l.filter (fun y => y.Id != id) else sendF (l.set (ixP l id).toNat (zomb x status)) (ixP l x.Parent).toNat 14
def endF (l : List DProc) (id status : Int) : List DProc := endB (endA l id) id status
def gapQ : List DProc → Nat → Nat
  | [], i => i
  | x :: r, i => if x.Id = (i : Int) + 1 then gapQ r (i + 1) else i
def child (g : Nat) (x : DProc) : DProc := ⟨(g : Int) + 1, x.Id, x.Group, x.User, 1, x.Status, 0, x.Mask, x.Ignored, x.Caught⟩
def forkF (l : List DProc) (x : DProc) : List DProc := l.take (gapQ l 0) ++ child (gapQ l 0) x :: l.drop (gapQ l 0)
def meant (me : DProc) (to_ : Int) (x : DProc) : Bool := if to_ > 0 then x.Id == to_ else if to_ = 0 then x.Group == me.Group else if to_ = -1 then true else x.Group == IntKind.i64.wrap (0 - to_)
abbrev PRes := List DProc × Int × Int × Int
def waitR (l : List DProc) (me : DProc) (to_ : Int) : PRes := match l.find? (fun x => x.Parent == me.Id && meant me to_ x && x.State == 3) with
  | some z => (l.filter (fun y => y.Id != z.Id), 0, z.Id, z.Status)
  | none => if l.any (fun x => x.Parent == me.Id && meant me to_ x) = true then (l, 9, 0, 0) else (l, 11, 0, 0)
def aimed (me : DProc) (to_ : Int) (x : DProc) : Bool := meant me to_ x && !(to_ == -1 && (x.Id == 1 || x.Id == me.Id))
def mayK (me x : DProc) : Bool := me.User == 0 || me.User == x.User
def hit (me : DProc) (to_ : Int) (x : DProc) : Bool := aimed me to_ x && mayK me x
def killR (l : List DProc) (me : DProc) (to_ n : Int) : PRes :=
  if n < 0 ∨ n > 15 then (l, 1, 0, 0)
  else if l.any (aimed me to_) = false then (l, 3, 0, 0)
  else if (l.filter (hit me to_)).length = 0 then (l, 2, 0, 0)
  else (if n > 0 then l.map (fun x => if hit me to_ x = true then sendY n.toNat x else x) else l, 0, ((l.filter (hit me to_)).length : Nat), 0)
open Classical in
noncomputable def maskR (l : List DProc) (i : Nat) (x : DProc) (to_ : Int) : PRes := if VS to_ then (l.set i ⟨x.Id, x.Parent, x.Group, x.User, x.State, x.Status, x.Pending, lessS (lessS to_ 9) 12, x.Ignored, x.Caught⟩, 0, x.Mask, 0) else (l, 1, 0, 0)
def actX (x : DProc) (s : Nat) (n : Int) : DProc := ⟨x.Id, x.Parent, x.Group, x.User, x.State, x.Status, if n = 1 then lessS x.Pending s else x.Pending, x.Mask, if n = 1 then withS (lessS x.Ignored s) s else lessS x.Ignored s, if n = 2 then withS (lessS x.Caught s) s else lessS x.Caught s⟩
def actR (l : List DProc) (i : Nat) (x : DProc) (to_ n : Int) : PRes :=
  if to_ < 1 ∨ to_ > 15 ∨ n < 0 ∨ n > 2 ∨ to_ = 9 ∨ to_ = 12 then (l, 1, 0, 0) else (l.set i (actX x to_.toNat n), 0, 0, 0)
/-- The least signal, from s on, that is told and not kept off; 0. -/
def leastS (x : DProc) : Nat → Nat → Nat
  | 0, _ => 0
  | k + 1, s => if hasS x.Pending s = true ∧ hasS x.Mask s = false then s else leastS x k (s + 1)
def sigOf (x : DProc) : Nat := if hasS x.Pending 9 = true then 9 else if x.State = 2 then 0 else leastS x 15 1
def takeR (l : List DProc) (i : Nat) (x : DProc) : PRes :=
  if sigOf x = 0 then (l, 9, 0, 0)
  else if hasS x.Caught (sigOf x) = true then (l.set i ⟨x.Id, x.Parent, x.Group, x.User, x.State, x.Status, lessS x.Pending (sigOf x), withS x.Mask (sigOf x), x.Ignored, x.Caught⟩, 0, (sigOf x : Nat), 2)
  else if sigOf x = 12 then (l.set i ⟨x.Id, x.Parent, x.Group, x.User, 2, x.Status, lessS x.Pending 12, x.Mask, x.Ignored, x.Caught⟩, 0, 12, 1)
  else if sigOf x = 14 ∨ sigOf x = 13 ∨ x.Id = 1 then (l.set i ⟨x.Id, x.Parent, x.Group, x.User, x.State, x.Status, lessS x.Pending (sigOf x), x.Mask, x.Ignored, x.Caught⟩, 0, (sigOf x : Nat), 1)
  else (endF (l.set i ⟨x.Id, x.Parent, x.Group, x.User, x.State, x.Status, lessS x.Pending (sigOf x), x.Mask, x.Ignored, x.Caught⟩) x.Id (128 + (sigOf x : Nat)), 0, (sigOf x : Nat), 1)
def grpR (l : List DProc) (id to_ n : Int) : PRes := match prOf l to_ with
  | none => (l, 3, 0, 0)
  | some y => if (to_ ≠ id ∧ y.Parent ≠ id) ∨ y.State = 3 then (l, 3, 0, 0) else if n < 1 ∨ n > 32 then (l, 1, 0, 0)
    else if n = to_ ∨ l.any (fun z => z.Id != to_ && z.Group == n) = true then (l.set (ixP l to_).toNat ⟨y.Id, y.Parent, n, y.User, y.State, y.Status, y.Pending, y.Mask, y.Ignored, y.Caught⟩, 0, 0, 0) else (l, 2, 0, 0)
def usrR (l : List DProc) (i : Nat) (x : DProc) (n : Int) : PRes :=
  if n < 0 ∨ n > 255 then (l, 1, 0, 0) else if x.User ≠ 0 ∧ x.User ≠ n then (l, 2, 0, 0) else (l.set i ⟨x.Id, x.Parent, x.Group, n, x.State, x.Status, x.Pending, x.Mask, x.Ignored, x.Caught⟩, 0, 0, 0)
noncomputable def prR (l : List DProc) (i : Nat) (x : DProc) (kind id to_ n : Int) : PRes :=
  if kind = 1 then (if l.length = 32 then (l, 18, 0, 0) else (forkF l x, 0, ((gapQ l 0 : Nat) : Int) + 1, 0))
  else if kind = 2 then (if n < 0 ∨ n > 255 then (l, 1, 0, 0) else if id = 1 then (l, 2, 0, 0) else (endF l id n, 0, 0, 0))
  else if kind = 3 then waitR l x to_
  else if kind = 4 then killR l x to_ n
  else if kind = 5 then maskR l i x to_
  else if kind = 6 then actR l i x to_ n
  else if kind = 7 then takeR l i x
  else if kind = 8 then grpR l id to_ n
  else usrR l i x n
noncomputable def stepP (l : List DProc) (kind id to_ n : Int) : PRes :=
  if kind < 1 ∨ kind > 9 then (l, 1, 0, 0)
  else match l[(ixP l id).toNat]? with
    | none => (l, 3, 0, 0)
    | some x => if ixP l id < 0 then (l, 3, 0, 0) else if x.State = 3 then (l, 21, 0, 0) else prR l (ixP l id).toNat x kind id to_ n
end Go.Proofs.Yteigefjiifihpaa

/- Processes, plain law: a state stays one that can be, through every operation. Conditions: none. -/
set_option linter.unusedVariables false
set_option linter.unusedSimpArgs false
namespace Go.Proofs.Yteigefjiifihpaa
open Go Go.Den
/-- The same processes, each in its place, its number, parent and life as they were. -/
def PSim (l l' : List DProc) : Prop := l'.length = l.length ∧ ∀ (i : Nat) x, l[i]? = some x → ∃ y, l'[i]? = some y ∧ y.Id = x.Id ∧ y.Parent = x.Parent ∧ (y.State = 3 ↔ x.State = 3) ∧ PrOk y
theorem PSim.back {l l' : List DProc} (h : PSim l l') {i : Nat} {y : DProc} (hy : l'[i]? = some y) : ∃ x, l[i]? = some x ∧ y.Id = x.Id ∧ y.Parent = x.Parent ∧ (y.State = 3 ↔ x.State = 3) ∧ PrOk y := by
  have hi := (List.getElem?_eq_some_iff.1 hy).1
  rw [h.1] at hi
  have hx : l[i]? = some l[i] := List.getElem?_eq_getElem hi
  obtain ⟨z, hz, h1⟩ := h.2 i _ hx
  rw [hy] at hz; cases hz
  exact ⟨_, hx, h1⟩
theorem PInv.sim {l l' : List DProc} (h : PInv l) (s : PSim l l') : PInv l' := by
  have hm : ∀ y, y ∈ l' → ∃ x, x ∈ l ∧ y.Id = x.Id ∧ y.Parent = x.Parent ∧ (y.State = 3 ↔ x.State = 3) ∧ PrOk y := fun y hy => by
    obtain ⟨i, hi⟩ := List.getElem?_of_mem hy
    obtain ⟨x, hx, h1⟩ := s.back hi
    exact ⟨x, List.mem_of_getElem? hx, h1⟩
  have hm2 : ∀ x, x ∈ l → ∃ y, y ∈ l' ∧ y.Id = x.Id ∧ y.Parent = x.Parent ∧ (y.State = 3 ↔ x.State = 3) := fun x hx => by
    obtain ⟨i, hi⟩ := List.getElem?_of_mem hx
    obtain ⟨y, hy, h1, h2, h3, _⟩ := s.2 i x hi
    exact ⟨y, List.mem_of_getElem? hy, h1, h2, h3⟩
  refine ⟨?_, fun y hy => ?_, ?_, fun y hy h1 => ?_, ?_⟩
  · refine List.pairwise_iff_getElem.2 (fun i j hi hj hij => ?_)
    obtain ⟨x, hx, h1, _⟩ := s.back (List.getElem?_eq_getElem hi)
    obtain ⟨z, hz, h2, _⟩ := s.back (List.getElem?_eq_getElem hj)
    rw [h1, h2]; exact h.srt.lt hx hz hij
  · obtain ⟨x, hx, _, _, _, ok⟩ := hm y hy; exact ok
  · obtain ⟨x, hx, h1, h2, h3⟩ := h.head
    obtain ⟨y, hy, g1, g2, g3, _⟩ := s.2 0 x hx
    exact ⟨y, hy, by omega, by omega, fun e => h3 (g3.1 e)⟩
  · obtain ⟨x, hx, e1, e2, e3, _⟩ := hm y hy
    obtain ⟨q, hq, g1, g2⟩ := h.par x hx (by omega)
    obtain ⟨p, hp, f1, f2, f3⟩ := hm2 q hq
    exact ⟨p, hp, by omega, fun e => g2 (f3.1 e)⟩
  · obtain ⟨r, hr⟩ := h.rank
    refine ⟨r, fun y hy h1 => ?_⟩
    obtain ⟨x, hx, e1, e2, e3, _⟩ := hm y hy
    rw [e1, e2]; exact hr x hx (by omega)
theorem PSim.set {l : List DProc} (h : PInv l) {i : Nat} {x y : DProc} (hx : l[i]? = some x) (h1 : y.Id = x.Id) (h2 : y.Parent = x.Parent) (h3 : y.State = 3 ↔ x.State = 3) (ok : PrOk y) : PSim l (l.set i y) := by
  refine ⟨List.length_set .., fun j z hz => ?_⟩
  by_cases hij : i = j
  · subst hij
    rw [hx] at hz; cases hz
    exact ⟨y, List.getElem?_set_self (List.getElem?_eq_some_iff.1 hx).1, h1, h2, h3, ok⟩
  · exact ⟨z, by rw [List.getElem?_set_ne hij]; exact hz, rfl, rfl, Iff.rfl, h.ok z (List.mem_of_getElem? hz)⟩
theorem PSim.map {l : List DProc} {f : DProc → DProc} (h : ∀ x, x ∈ l → (f x).Id = x.Id ∧ (f x).Parent = x.Parent ∧ ((f x).State = 3 ↔ x.State = 3) ∧ PrOk (f x)) : PSim l (l.map f) := by
  refine ⟨List.length_map .., fun j z hz => ?_⟩
  exact ⟨f z, by rw [List.getElem?_map, hz]; rfl, h z (List.mem_of_getElem? hz)⟩
theorem VS.small {s : Int} (h : VS s) : 0 ≤ s ∧ s ≤ 9223372036854775807 := ⟨h.1, by have := h.2.1; omega⟩
theorem SS.less {s : Int} (h : SS s) {i : Nat} (hi : i ≤ 62) : SS (lessS s i) := by
  have hs := VS.small h.1
  refine ⟨VS.less h.1 hi, ?_, ?_⟩
  · rw [(hasS_less hs.1 hs.2 hi 9).1, h.2.1]; rfl
  · rw [(hasS_less hs.1 hs.2 hi 12).1, h.2.2]; rfl
theorem SS.with_ {s : Int} (h : SS s) {i : Nat} (h1 : 1 ≤ i) (hi : i ≤ 15) (h9 : i ≠ 9) (h12 : i ≠ 12) : SS (withS s i) := by
  have hs := VS.small h.1
  refine ⟨VS.with_ h.1 h1 hi, ?_, ?_⟩
  · rw [(hasS_with hs.1 hs.2 (by omega) 9).1, h.2.1]; simpa using h9
  · rw [(hasS_with hs.1 hs.2 (by omega) 12).1, h.2.2]; simpa using h12
theorem ss_zero : SS 0 := ⟨⟨by decide, by decide, by decide⟩, by decide, by decide⟩
theorem has_zero (i : Nat) : hasS 0 i = false := by unfold hasS; simp
/-- A signal that is sent. -/
theorem sendY_ok {x : DProc} {sig : Nat} (h : PrOk x) (h1 : 1 ≤ sig) (h2 : sig ≤ 15) : (sendY sig x).Id = x.Id ∧ (sendY sig x).Parent = x.Parent ∧ ((sendY sig x).State = 3 ↔ x.State = 3) ∧ PrOk (sendY sig x) := by
  unfold sendY
  by_cases hz : x.State = 3
  · rw [if_pos hz]; exact ⟨rfl, rfl, Iff.rfl, h⟩
  rw [if_neg hz]
  have hp : VS (if sig = 12 then lessS x.Pending 13 else if sig = 13 then lessS x.Pending 12 else x.Pending) := by
    split
    · exact VS.less h.pend (by omega)
    · split
      · exact VS.less h.pend (by omega)
      · exact h.pend
  have hst : (if sig = 13 then (1 : Int) else x.State) ≠ 3 ∧ 1 ≤ (if sig = 13 then (1 : Int) else x.State) ∧ (if sig = 13 then (1 : Int) else x.State) ≤ 3 := by
    have := h.st
    split
    · exact ⟨by decide, by decide, by decide⟩
    · exact ⟨hz, this.1, this.2⟩
  unfold sendX
  split
  · exact ⟨rfl, rfl, ⟨fun e => absurd e hst.1, fun e => absurd e hz⟩, ⟨h.id, h.grp, h.usr, hst.2, h.stat, fun _ => h.stz hz, hp, h.mask, h.ign, h.cau, h.apart, fun e => absurd e hst.1⟩⟩
  · exact ⟨rfl, rfl, ⟨fun e => absurd e hst.1, fun e => absurd e hz⟩, ⟨h.id, h.grp, h.usr, hst.2, h.stat, fun _ => h.stz hz, VS.with_ hp h1 h2, h.mask, h.ign, h.cau, h.apart, fun e => absurd e hst.1⟩⟩
theorem PInv.send {l : List DProc} (h : PInv l) (i : Nat) {sig : Nat} (h1 : 1 ≤ sig) (h2 : sig ≤ 15) : PSim l (sendF l i sig) := by
  unfold sendF
  split
  · rename_i x hx
    obtain ⟨a, b, c, d⟩ := sendY_ok (h.ok x (List.mem_of_getElem? hx)) h1 h2
    exact PSim.set h hx a b c d
  · exact ⟨rfl, fun i x hx => ⟨x, hx, rfl, rfl, Iff.rfl, h.ok x (List.mem_of_getElem? hx)⟩⟩
theorem PInv.reP {l : List DProc} (h : PInv l) {id : Int} (hid : 1 < id) : PInv (l.map (reP id)) ∧ ∀ x, x ∈ l.map (Proofs.Yteigefjiifihpaa.reP id) → x.Parent ≠ id := by
  have e1 : ∀ x : DProc, (Proofs.Yteigefjiifihpaa.reP id x).Id = x.Id := fun x => by unfold Proofs.Yteigefjiifihpaa.reP; split <;> rfl
  have e2 : ∀ x : DProc, (Proofs.Yteigefjiifihpaa.reP id x).State = x.State := fun x => by unfold Proofs.Yteigefjiifihpaa.reP; split <;> rfl
  have e3 : ∀ x : DProc, (Proofs.Yteigefjiifihpaa.reP id x).Parent = if x.Parent = id then 1 else x.Parent := fun x => by unfold Proofs.Yteigefjiifihpaa.reP; split <;> rfl
  have e4 : ∀ x, x ∈ l → PrOk (Proofs.Yteigefjiifihpaa.reP id x) := fun x hx => by
    have := h.ok x hx
    unfold Proofs.Yteigefjiifihpaa.reP
    split
    · exact ⟨this.id, this.grp, this.usr, this.st, this.stat, this.stz, this.pend, this.mask, this.ign, this.cau, this.apart, this.zom⟩
    · exact this
  obtain ⟨x1, hx1, g1, g2, g3⟩ := h.head
  refine ⟨⟨?_, fun y hy => ?_, ?_, fun y hy h1 => ?_, ?_⟩, fun y hy => ?_⟩
  · unfold Srt
    rw [List.pairwise_map]
    exact h.srt.imp (fun hlt => by rw [e1, e1]; exact hlt)
  · obtain ⟨x, hx, rfl⟩ := List.mem_map.1 hy; exact e4 x hx
  · refine ⟨Proofs.Yteigefjiifihpaa.reP id x1, by rw [List.getElem?_map, hx1]; rfl, by rw [e1]; exact g1, ?_, by rw [e2]; exact g3⟩
    rw [e3]
    by_cases h0 : x1.Parent = id
    · omega
    · rw [if_neg h0]; exact g2
  · obtain ⟨x, hx, rfl⟩ := List.mem_map.1 hy
    rw [e1] at h1
    rw [e3]
    by_cases hp : x.Parent = id
    · rw [if_pos hp]
      exact ⟨_, List.mem_map.2 ⟨x1, List.mem_of_getElem? hx1, rfl⟩, by rw [e1]; exact g1, by rw [e2]; exact g3⟩
    · rw [if_neg hp]
      obtain ⟨q, hq, h2, h3⟩ := h.par x hx h1
      exact ⟨_, List.mem_map.2 ⟨q, hq, rfl⟩, by rw [e1]; exact h2, by rw [e2]; exact h3⟩
  · obtain ⟨r, hr⟩ := h.rank
    refine ⟨fun a => if a = 1 then 0 else r a + 1, fun y hy h1 => ?_⟩
    obtain ⟨x, hx, rfl⟩ := List.mem_map.1 hy
    rw [e1] at h1
    rw [e1, e3]
    have := hr x hx h1
    show (if (if x.Parent = id then (1 : Int) else x.Parent) = 1 then 0 else r (if x.Parent = id then 1 else x.Parent) + 1) < if x.Id = 1 then 0 else r x.Id + 1
    rw [if_neg h1]
    by_cases hp : x.Parent = id
    · rw [if_pos hp, if_pos rfl]; omega
    · rw [if_neg hp]
      split <;> omega
  · obtain ⟨x, hx, rfl⟩ := List.mem_map.1 hy
    rw [e3]
    split
    · omega
    · assumption
/-- One that is nobody's parent goes. -/
theorem PInv.drop {l : List DProc} (h : PInv l) {id : Int} (hid : id ≠ 1) (hk : ∀ x, x ∈ l → x.Parent ≠ id) : PInv (l.filter (fun y => y.Id != id)) := by
  have hm : ∀ x, x ∈ l.filter (fun y : DProc => y.Id != id) ↔ x ∈ l ∧ x.Id ≠ id := fun x => by rw [List.mem_filter]; simp
  refine ⟨h.srt.filter _, fun x hx => h.ok x ((hm x).1 hx).1, ?_, fun x hx h1 => ?_, ?_⟩
  · obtain ⟨x, hx, g1, g2, g3⟩ := h.head
    refine ⟨x, ?_, g1, g2, g3⟩
    cases l with
    | nil => simp at hx
    | cons a r =>
      simp at hx; subst hx
      rw [List.filter_cons, if_pos (by simp; omega)]; rfl
  · obtain ⟨hx1, hx2⟩ := (hm x).1 hx
    obtain ⟨q, hq, h2, h3⟩ := h.par x hx1 h1
    exact ⟨q, (hm q).2 ⟨hq, fun e => hk x hx1 (by omega)⟩, h2, h3⟩
  · obtain ⟨r, hr⟩ := h.rank
    exact ⟨r, fun x hx h1 => hr x ((hm x).1 hx).1 h1⟩
/-- One that is nobody's parent dies. -/
theorem PInv.zomb {l : List DProc} (h : PInv l) {i : Nat} {x : DProc} (hx : l[i]? = some x) (h1 : x.Id ≠ 1) (hk : ∀ y, y ∈ l → y.Parent ≠ x.Id) {status : Int} (hs : 0 ≤ status ∧ status ≤ 255) : PInv (l.set i (zomb x status)) := by
  have hm := fun z => Srt.mem_set h.srt (y := Proofs.Yteigefjiifihpaa.zomb x status) hx z
  have ho := h.ok x (List.mem_of_getElem? hx)
  have hi := (List.getElem?_eq_some_iff.1 hx).1
  refine ⟨h.srt.set hx rfl, fun z hz => ?_, ?_, fun z hz g1 => ?_, ?_⟩
  · rcases (hm z).1 hz with rfl | ⟨hz, _⟩
    · exact ⟨ho.id, ho.grp, ho.usr, ⟨by show (1 : Int) ≤ 3; decide, by show (3 : Int) ≤ 3; decide⟩, hs, fun e => absurd rfl e, ss_zero.1, ss_zero, ss_zero, ss_zero, fun i _ => has_zero i, fun _ => ⟨rfl, rfl, rfl, rfl⟩⟩
    · exact h.ok z hz
  · obtain ⟨a, ha, g1, g2, g3⟩ := h.head
    refine ⟨a, ?_, g1, g2, g3⟩
    rw [List.getElem?_set_ne]
    · exact ha
    · rintro rfl
      rw [hx] at ha; cases ha; exact h1 g1
  · have hq : ∃ p, p ∈ l ∧ p.Id = z.Parent ∧ p.State ≠ 3 ∧ p.Id ≠ x.Id := by
      rcases (hm z).1 hz with rfl | ⟨hz, _⟩
      · obtain ⟨q, hq, h2, h3⟩ := h.par x (List.mem_of_getElem? hx) h1
        exact ⟨q, hq, h2, h3, fun e => hk x (List.mem_of_getElem? hx) (by omega)⟩
      · obtain ⟨q, hq, h2, h3⟩ := h.par z hz g1
        exact ⟨q, hq, h2, h3, fun e => hk z hz (by omega)⟩
    obtain ⟨q, hq, h2, h3, h4⟩ := hq
    exact ⟨q, (hm q).2 (.inr ⟨hq, h4⟩), h2, h3⟩
  · obtain ⟨r, hr⟩ := h.rank
    refine ⟨r, fun z hz g1 => ?_⟩
    rcases (hm z).1 hz with rfl | ⟨hz, _⟩
    · exact hr x (List.mem_of_getElem? hx) h1
    · exact hr z hz g1
theorem PInv.ix {l : List DProc} (h : PInv l) {i : Nat} {x : DProc} (hx : l[i]? = some x) : ixP l x.Id = (i : Int) ∧ prOf l x.Id = some x := ⟨h.srt.idx hx, h.srt.find (List.mem_of_getElem? hx)⟩
/-- The parent of one that is not the first. -/
theorem PInv.up {l : List DProc} (h : PInv l) {x : DProc} (hx : x ∈ l) (h1 : x.Id ≠ 1) : ∃ (j : Nat) (u : DProc), l[j]? = some u ∧ u.Id = x.Parent ∧ u.State ≠ 3 ∧ ixP l x.Parent = (j : Int) ∧ prOf l x.Parent = some u := by
  obtain ⟨q, hq, h2, h3⟩ := h.par x hx h1
  obtain ⟨j, hj⟩ := List.getElem?_of_mem hq
  obtain ⟨a, b⟩ := h.ix hj
  rw [h2] at a b
  exact ⟨j, q, hj, h2, h3, a, b⟩
theorem PInv.endA {l : List DProc} (h : PInv l) {id : Int} (hid : 1 < id) : PInv (endA l id) ∧ (∀ x, x ∈ Proofs.Yteigefjiifihpaa.endA l id → x.Parent ≠ id) ∧ ∀ (i : Nat) x, l[i]? = some x → ∃ y, (Proofs.Yteigefjiifihpaa.endA l id)[i]? = some y ∧ y.Id = x.Id := by
  obtain ⟨h1, h2⟩ := h.reP hid
  have h3 : ∀ (i : Nat) x, l[i]? = some x → (l.map (Proofs.Yteigefjiifihpaa.reP id))[i]? = some (Proofs.Yteigefjiifihpaa.reP id x) ∧ (Proofs.Yteigefjiifihpaa.reP id x).Id = x.Id := fun i x hx => by
    refine ⟨by rw [List.getElem?_map, hx]; rfl, ?_⟩
    unfold Proofs.Yteigefjiifihpaa.reP; split <;> rfl
  unfold Proofs.Yteigefjiifihpaa.endA
  split
  · have hs := h1.send 0 (sig := 14) (by omega) (by omega)
    refine ⟨h1.sim hs, fun y hy => ?_, fun i x hx => ?_⟩
    · obtain ⟨i, hi⟩ := List.getElem?_of_mem hy
      obtain ⟨x, hx, _, e, _⟩ := hs.back hi
      rw [e]; exact h2 x (List.mem_of_getElem? hx)
    · obtain ⟨g1, g2⟩ := h3 i x hx
      obtain ⟨y, hy, e, _⟩ := hs.2 i _ g1
      exact ⟨y, hy, by rw [e]; exact g2⟩
  · exact ⟨h1, h2, fun i x hx => ⟨_, h3 i x hx⟩⟩
theorem PInv.endF {l : List DProc} (h : PInv l) {i : Nat} {x : DProc} (hx : l[i]? = some x) (h1 : x.Id ≠ 1) {status : Int} (hs : 0 ≤ status ∧ status ≤ 255) : PInv (endF l x.Id status) := by
  have hid := (h.ok x (List.mem_of_getElem? hx)).id
  obtain ⟨g1, g2, g3⟩ := h.endA (id := x.Id) (by omega)
  unfold Proofs.Yteigefjiifihpaa.endF endB
  obtain ⟨y, hy, hye⟩ := g3 i x hx
  obtain ⟨e1, e2⟩ := g1.ix hy
  rw [hye] at e1 e2
  rw [e2]
  dsimp only
  obtain ⟨j, u, hj, f1, f2, f3, f4⟩ := g1.up (List.mem_of_getElem? hy) (by omega)
  rw [f4]
  dsimp only
  split
  · exact g1.drop h1 g2
  · rw [e1]
    have hz := g1.zomb (i := i) (x := y) hy (by omega) (fun z hz => by rw [hye]; exact g2 z hz) hs
    exact hz.sim (hz.send _ (by omega) (by omega))
end Go.Proofs.Yteigefjiifihpaa

/- Processes, plain law: every operation keeps a state one that can be. Conditions: none. -/
set_option linter.unusedVariables false
set_option linter.unusedSimpArgs false
namespace Go.Proofs.Yteigefjiifihpaa
open Go Go.Den
theorem gapQ_spec : ∀ (l : List DProc) (i : Nat), ∃ j, gapQ l i = i + j ∧ j ≤ l.length ∧ (∀ m x, m < j → l[m]? = some x → x.Id = ((i + m : Nat) : Int) + 1) ∧ ∀ x, l[j]? = some x → x.Id ≠ ((i + j : Nat) : Int) + 1
  | [], i => ⟨0, rfl, Nat.le_refl _, (fun m x hm _ => absurd hm (Nat.not_lt_zero _)), (fun x hx => by simp at hx)⟩
  | y :: r, i => by
    unfold gapQ
    by_cases hy : y.Id = (i : Int) + 1
    · rw [if_pos hy]
      obtain ⟨j, h1, h2, h3, h4⟩ := gapQ_spec r (i + 1)
      refine ⟨j + 1, by omega, by simp; omega, fun m x hm hx => ?_, fun x hx => ?_⟩
      · cases m with
        | zero => simp at hx; subst hx; simpa using hy
        | succ m =>
          rw [h3 m x (by omega) (by simpa using hx)]
          have : ((i + 1 + m : Nat) : Int) = ((i + (m + 1) : Nat) : Int) := by congr 1; omega
          omega
      · have := h4 x (by simpa using hx)
        rw [show i + (j + 1) = i + 1 + j by omega]; exact this
    · rw [if_neg hy]
      exact ⟨0, rfl, Nat.zero_le _, (fun m x hm _ => absurd hm (Nat.not_lt_zero _)), (fun x hx => by simp at hx; subst hx; simpa using hy)⟩
/-- The first number that is free. -/
theorem PInv.gap {l : List DProc} (h : PInv l) : 1 ≤ gapQ l 0 ∧ gapQ l 0 ≤ l.length ∧ (∀ (m : Nat) x, m < gapQ l 0 → l[m]? = some x → x.Id = (m : Int) + 1) ∧ (∀ (m : Nat) x, gapQ l 0 ≤ m → l[m]? = some x → ((gapQ l 0 : Nat) : Int) + 1 < x.Id) := by
  obtain ⟨j, h1, h2, h3, h4⟩ := gapQ_spec l 0
  rw [Nat.zero_add] at h1
  rw [h1]
  refine ⟨?_, h2, fun m x hm hx => by rw [h3 m x hm hx, Nat.zero_add], fun m x hm hx => ?_⟩
  · obtain ⟨x, hx, g, _⟩ := h.head
    rcases Nat.eq_zero_or_pos j with rfl | hp
    · have := h4 x hx
      simp at this
      exact absurd g this
    · exact hp
  · have hml := (List.getElem?_eq_some_iff.1 hx).1
    have hg : l[j]? = some l[j] := List.getElem?_eq_getElem (by omega)
    have h5 := h4 _ hg
    have h6 := h.fill hg
    rw [Nat.zero_add] at h5
    rcases Nat.lt_or_eq_of_le hm with hlt | rfl
    · have := h.srt.lt hg hx hlt; omega
    · rw [hg] at hx; cases hx; omega
theorem PInv.gapNew {l : List DProc} (h : PInv l) : ∀ y, y ∈ l → y.Id ≠ ((gapQ l 0 : Nat) : Int) + 1 := fun y hy => by
  obtain ⟨m, hm⟩ := List.getElem?_of_mem hy
  obtain ⟨_, _, h3, h4⟩ := h.gap
  rcases Nat.lt_or_ge m (gapQ l 0) with hlt | hge
  · have := h3 m y hlt hm; omega
  · have := h4 m y hge hm; omega
/-- A full table has no number left. -/
theorem PInv.full {l : List DProc} (h : PInv l) : l.length = 32 ↔ gapQ l 0 = 32 := by
  obtain ⟨h1, h2, h3, h4⟩ := h.gap
  have hl := h.len
  constructor
  · intro he
    refine Nat.le_antisymm (by omega) (Nat.le_of_not_lt (fun hlt => ?_))
    have hg : l[31]? = some l[31] := List.getElem?_eq_getElem (by omega)
    have h5 := (h.ok _ (List.mem_of_getElem? hg)).id.2
    have hs : Srt (fun x : DProc => x.Id - 2) (l.drop (gapQ l 0)) := (List.Pairwise.sublist (List.drop_sublist _ _) h.srt).imp (fun {a b} hlt => by show a.Id - 2 < b.Id - 2; omega)
    have hs2 : Srt (fun x : DProc => x.Id - (((gapQ l 0 : Nat) : Int) + 2)) (l.drop (gapQ l 0)) := (List.Pairwise.sublist (List.drop_sublist _ _) h.srt).imp (fun {a b} hlt => by show a.Id - _ < b.Id - _; omega)
    have hd : (l.drop (gapQ l 0))[31 - gapQ l 0]? = some l[31] := by rw [List.getElem?_drop, show gapQ l 0 + (31 - gapQ l 0) = 31 by omega]; exact hg
    have := hs2.fill (fun x hx => by
      obtain ⟨m, hm⟩ := List.getElem?_of_mem hx
      rw [List.getElem?_drop] at hm
      have := h4 _ x (by omega) hm
      omega) _ _ hd
    omega
  · intro he; omega
theorem PInv.fork {l : List DProc} (h : PInv l) (hl : l.length ≠ 32) {x : DProc} (hx : x ∈ l) (hs : x.State ≠ 3) : PInv (forkF l x) := by
  obtain ⟨h1, h2, h3, h4⟩ := h.gap
  have ho := h.ok x hx
  have hle := h.len
  have hg : gapQ l 0 ≠ 32 := fun e => hl (h.full.2 e)
  have hnew := h.gapNew
  have hm : ∀ z, z ∈ forkF l x ↔ z = child (gapQ l 0) x ∨ z ∈ l := fun z => mem_ins
  refine ⟨?_, fun z hz => ?_, ?_, fun z hz g1 => ?_, ?_⟩
  · refine h.srt.ins (fun y hy => ?_) (fun y hy => ?_)
    · obtain ⟨m, hm⟩ := List.getElem?_of_mem hy
      have hml : m < gapQ l 0 := by have := (List.getElem?_eq_some_iff.1 hm).1; rw [List.length_take] at this; omega
      rw [List.getElem?_take_of_lt hml] at hm
      have := h3 m y hml hm
      show y.Id < ((gapQ l 0 : Nat) : Int) + 1
      omega
    · obtain ⟨m, hm⟩ := List.getElem?_of_mem hy
      rw [List.getElem?_drop] at hm
      exact h4 _ y (by omega) hm
  · rcases (hm z).1 hz with rfl | hz
    · refine ⟨⟨by show (1 : Int) ≤ (_ : Nat) + 1; omega, by show ((_ : Nat) : Int) + 1 ≤ 32; omega⟩, ho.grp, ho.usr, ⟨by show (1 : Int) ≤ 1; decide, by show (1 : Int) ≤ 3; decide⟩, ho.stat, fun _ => ho.stz hs, ss_zero.1, ho.mask, ho.ign, ho.cau, ho.apart, fun e => ?_⟩
      exact absurd (show (1 : Int) = 3 from e) (by decide)
    · exact h.ok z hz
  · obtain ⟨a, ha, g1, g2, g3⟩ := h.head
    refine ⟨a, ?_, g1, g2, g3⟩
    unfold forkF
    rw [List.getElem?_append_left (by rw [List.length_take]; omega), List.getElem?_take_of_lt (by omega)]
    exact ha
  · rcases (hm z).1 hz with rfl | hz
    · exact ⟨x, (hm x).2 (.inr hx), rfl, hs⟩
    · obtain ⟨q, hq, f1, f2⟩ := h.par z hz g1
      exact ⟨q, (hm q).2 (.inr hq), f1, f2⟩
  · obtain ⟨r, hr⟩ := h.rank
    refine ⟨fun a => if a = ((gapQ l 0 : Nat) : Int) + 1 then r x.Id + 1 else r a, fun z hz g1 => ?_⟩
    have hxn := hnew x hx
    rcases (hm z).1 hz with rfl | hz
    · show (if x.Id = _ then r x.Id + 1 else r x.Id) < if ((gapQ l 0 : Nat) : Int) + 1 = ((gapQ l 0 : Nat) : Int) + 1 then r x.Id + 1 else _
      rw [if_neg hxn, if_pos rfl]; exact Nat.lt_succ_self _
    · obtain ⟨q, hq, f1, f2⟩ := h.par z hz g1
      have hqn := hnew q hq
      have hzn := hnew z hz
      show (if z.Parent = _ then _ else _) < if z.Id = _ then _ else _
      rw [if_neg hzn, if_neg (by omega)]
      exact hr z hz g1
theorem sigOf_le (x : DProc) : sigOf x ≤ 15 ∧ (sigOf x ≠ 0 → hasS x.Pending (sigOf x) = true) := by
  have hL : ∀ (k s : Nat), 1 ≤ s → (leastS x k s = 0 ∨ (leastS x k s < s + k ∧ hasS x.Pending (leastS x k s) = true)) := by
    intro k
    induction k with
    | zero => exact fun s _ => .inl rfl
    | succ k ih =>
      intro s hs
      unfold leastS
      split
      · exact .inr ⟨by omega, by rename_i h; exact h.1⟩
      · rcases ih (s + 1) (by omega) with h | ⟨h1, h2⟩
        · exact .inl h
        · exact .inr ⟨by omega, h2⟩
  unfold sigOf
  split
  · exact ⟨by omega, fun _ => by assumption⟩
  · split
    · exact ⟨by omega, fun h => absurd rfl h⟩
    · rcases hL 15 1 (by omega) with h | ⟨h1, h2⟩
      · rw [h]; exact ⟨by omega, fun h => absurd rfl h⟩
      · exact ⟨by omega, fun _ => h2⟩
/-- A field but number, parent and death is turned. -/
theorem PInv.turn {l : List DProc} (h : PInv l) {i : Nat} {x : DProc} (hx : l[i]? = some x) (hz : x.State ≠ 3) {g u s p m n c : Int} (hg : 1 ≤ g ∧ g ≤ 32) (hu : 0 ≤ u ∧ u ≤ 255) (hs : 1 ≤ s ∧ s ≤ 2) (hp : VS p) (hm : SS m) (hn : SS n) (hc : SS c) (ha : ∀ i, hasS n i = true → hasS c i = false) : PSim l (l.set i ⟨x.Id, x.Parent, g, u, s, x.Status, p, m, n, c⟩) := by
  have ho := h.ok x (List.mem_of_getElem? hx)
  have h3 : s ≠ 3 := by omega
  exact PSim.set h hx rfl rfl ⟨fun e => absurd e h3, fun e => absurd e hz⟩ ⟨ho.id, hg, hu, ⟨hs.1, by show s ≤ 3; omega⟩, ho.stat, fun _ => ho.stz hz, hp, hm, hn, hc, ha, fun e => absurd e h3⟩
theorem PrOk.alive {x : DProc} (h : PrOk x) (hz : x.State ≠ 3) : 1 ≤ x.State ∧ x.State ≤ 2 := by have := h.st; omega
theorem PInv.take {l : List DProc} (h : PInv l) {i : Nat} {x : DProc} (hx : l[i]? = some x) (hz : x.State ≠ 3) : PInv (takeR l i x).1 := by
  have ho := h.ok x (List.mem_of_getElem? hx)
  have hst := ho.alive hz
  obtain ⟨s1, s2⟩ := sigOf_le x
  unfold takeR
  split
  · exact h
  rename_i hs0
  have hl : VS (lessS x.Pending (sigOf x)) := VS.less ho.pend (by omega)
  split
  · rename_i hc
    have h9 : sigOf x ≠ 9 := fun e => by have := ho.cau.2.1; rw [e] at hc; rw [this] at hc; cases hc
    have h12 : sigOf x ≠ 12 := fun e => by have := ho.cau.2.2; rw [e] at hc; rw [this] at hc; cases hc
    exact h.sim (h.turn hx hz ho.grp ho.usr hst hl (SS.with_ ho.mask (by omega) s1 h9 h12) ho.ign ho.cau ho.apart)
  split
  · rename_i h12
    rw [h12] at hl
    exact h.sim (h.turn hx hz ho.grp ho.usr ⟨by decide, by decide⟩ hl ho.mask ho.ign ho.cau ho.apart)
  have hsim := h.turn hx hz ho.grp ho.usr hst hl ho.mask ho.ign ho.cau ho.apart
  split
  · exact h.sim hsim
  · rename_i h3
    have hi := (List.getElem?_eq_some_iff.1 hx).1
    exact (h.sim hsim).endF (x := ⟨x.Id, x.Parent, x.Group, x.User, x.State, x.Status, lessS x.Pending (sigOf x), x.Mask, x.Ignored, x.Caught⟩) (List.getElem?_set_self hi) (fun e => h3 (.inr (.inr e))) ⟨by omega, by omega⟩
theorem PInv.act {l : List DProc} (h : PInv l) {i : Nat} {x : DProc} (hx : l[i]? = some x) (hz : x.State ≠ 3) (to_ n : Int) : PInv (actR l i x to_ n).1 := by
  have ho := h.ok x (List.mem_of_getElem? hx)
  unfold actR
  split
  · exact h
  rename_i hg
  obtain ⟨t, rfl⟩ := Int.eq_ofNat_of_zero_le (show 0 ≤ to_ by omega)
  rw [Int.toNat_natCast]
  refine h.sim (h.turn hx hz ho.grp ho.usr (ho.alive hz) ?_ ho.mask ?_ ?_ ?_)
  · split
    · exact VS.less ho.pend (by omega)
    · exact ho.pend
  · split
    · exact SS.with_ (SS.less ho.ign (by omega)) (by omega) (by omega) (by omega) (by omega)
    · exact SS.less ho.ign (by omega)
  · split
    · exact SS.with_ (SS.less ho.cau (by omega)) (by omega) (by omega) (by omega) (by omega)
    · exact SS.less ho.cau (by omega)
  · intro j hj
    have i0 := VS.small ho.ign.1
    have c0 := VS.small ho.cau.1
    have i1 := VS.small (SS.less ho.ign (i := t) (by omega)).1
    have c1 := VS.small (SS.less ho.cau (i := t) (by omega)).1
    have hap := ho.apart j
    by_cases hn1 : n = 1
    · rw [if_pos hn1, (hasS_with i1.1 i1.2 (by omega) j).1, (hasS_less i0.1 i0.2 (by omega) j).1] at hj
      rw [if_neg (by omega), (hasS_less c0.1 c0.2 (by omega) j).1]
      by_cases htj : t = j
      · subst htj; simp
      · have : (t == j) = false := by simpa using htj
        rw [this] at hj
        simp at hj
        rw [hap hj.1]; rfl
    · rw [if_neg hn1, (hasS_less i0.1 i0.2 (by omega) j).1] at hj
      have hij : hasS x.Ignored j = true ∧ t ≠ j := by simpa using hj
      have htj : (t == j) = false := by simpa using hij.2
      split
      · rw [(hasS_with c1.1 c1.2 (by omega) j).1, (hasS_less c0.1 c0.2 (by omega) j).1, hap hij.1, htj]; rfl
      · rw [(hasS_less c0.1 c0.2 (by omega) j).1, hap hij.1]; rfl
theorem PInv.wait {l : List DProc} (h : PInv l) (x : DProc) (to_ : Int) : PInv (waitR l x to_).1 := by
  unfold waitR
  split
  · rename_i z hf
    have hz := List.mem_of_find?_eq_some hf
    have h1 := List.find?_some hf
    have h3 : z.State = 3 := by simp at h1; exact h1.2
    refine h.drop (fun e => ?_) (fun y hy e => ?_)
    · obtain ⟨a, ha, g1, g2, g3⟩ := h.head
      rw [h.srt.uniq hz (List.mem_of_getElem? ha) (by omega)] at h3
      exact g3 h3
    · by_cases hy1 : y.Id = 1
      · obtain ⟨a, ha, g1, g2, g3⟩ := h.head
        rw [h.srt.uniq hy (List.mem_of_getElem? ha) (by omega)] at e
        have := (h.ok z hz).id.1
        omega
      · obtain ⟨q, hq, f1, f2⟩ := h.par y hy hy1
        rw [h.srt.uniq hq hz (by omega)] at f2
        exact f2 h3
  · split <;> exact h
theorem PInv.kill {l : List DProc} (h : PInv l) (x : DProc) (to_ n : Int) : PInv (killR l x to_ n).1 := by
  unfold killR
  split
  · exact h
  split
  · exact h
  split
  · exact h
  show PInv (if n > 0 then _ else l)
  split
  · refine h.sim (PSim.map (fun z hz => ?_))
    split
    · exact sendY_ok (h.ok z hz) (by omega) (by omega)
    · exact ⟨rfl, rfl, Iff.rfl, h.ok z hz⟩
  · exact h
theorem PInv.grp {l : List DProc} (h : PInv l) (id to_ n : Int) : PInv (grpR l id to_ n).1 := by
  unfold grpR
  split
  · exact h
  rename_i y hy
  obtain ⟨hm, he⟩ := prOf_some hy
  split
  · exact h
  rename_i h1
  split
  · exact h
  split
  · obtain ⟨j, hj⟩ := List.getElem?_of_mem hm
    have hix := (h.ix hj).1
    rw [he] at hix
    rw [hix, Int.toNat_natCast]
    have ho := h.ok y hm
    have hz : y.State ≠ 3 := fun e => h1 (.inr e)
    exact h.sim (h.turn hj hz (by omega) ho.usr (ho.alive hz) ho.pend ho.mask ho.ign ho.cau ho.apart)
  · exact h
/-- A state stays one that can be. -/
theorem PInv.step {l : List DProc} (h : PInv l) (kind id to_ n : Int) : PInv (stepP l kind id to_ n).1 := by
  unfold stepP
  split
  · exact h
  split
  · exact h
  rename_i x hx
  split
  · exact h
  split
  · exact h
  rename_i hz
  rename_i hneg
  have hxm := List.mem_of_getElem? hx
  have ho := h.ok x hxm
  have hxid : x.Id = id := by
    rcases ixP_find l id with ⟨e, _⟩ | ⟨i, y, e1, e2, e3⟩
    · omega
    · rw [e1, Int.toNat_natCast, e2] at hx
      cases hx
      exact (prOf_some e3).2
  unfold prR
  split
  · split
    · exact h
    · rename_i hl; exact h.fork hl hxm hz
  split
  · split
    · exact h
    · split
      · exact h
      · rename_i h1 h2
        subst hxid
        exact h.endF hx h2 (by omega)
  split
  · exact h.wait x to_
  split
  · exact h.kill x to_ n
  split
  · unfold maskR
    split
    · rename_i hv
      have h1 : VS (lessS (lessS to_ 9) 12) := VS.less (VS.less hv (by omega)) (by omega)
      have v0 := VS.small hv
      have v1 := VS.small (VS.less hv (i := 9) (by omega))
      refine h.sim (h.turn hx hz ho.grp ho.usr (ho.alive hz) ho.pend ⟨h1, ?_, ?_⟩ ho.ign ho.cau ho.apart)
      · rw [(hasS_less v1.1 v1.2 (by omega) 9).1, (hasS_less v0.1 v0.2 (by omega) 9).1]; simp
      · rw [(hasS_less v1.1 v1.2 (by omega) 12).1]; simp
    · exact h
  split
  · exact h.act hx hz to_ n
  split
  · exact h.take hx hz
  split
  · exact h.grp id to_ n
  · unfold usrR
    split
    · exact h
    split
    · exact h
    · exact h.sim (h.turn hx hz ho.grp (by omega) (ho.alive hz) ho.pend ho.mask ho.ign ho.cau ho.apart)
end Go.Proofs.Yteigefjiifihpaa

/- Processes, the reference's side: sets of signals, one process. Conditions: none. -/
set_option linter.unusedVariables false
set_option linter.unusedSimpArgs false
namespace Go.Proofs.Yteigefjiifihpaa
open Go Go.Den
abbrev RP (t : Sl) (l : List DProc) : Asr := aRow t 10 (recs DProc.cells l)
theorem plain_pr (x : DProc) : ∀ v, v ∈ x.cells → plainB v = true := by intro v hv; simp [DProc.cells] at hv; rcases hv with rfl | rfl | rfl | rfl | rfl | rfl | rfl | rfl | rfl | rfl <;> rfl
structure QAt (w : World) (t : Sl) (l : List DProc) : Prop where
  tl : t.len = l.length
  tr : RowAt w t.a (t.len * 10) (l.flatMap DProc.cells)
  few : l.length ≤ 1048576
theorem QAt.ext {w w' : World} {t : Sl} {l : List DProc} (h : QAt w t l) (e : Ext w w') : QAt w' t l := ⟨h.tl, e.row h.tr, h.few⟩
theorem qatOf {w0 w : World} {As : List Asr} (h : SH w0 w As) (i : Nat) {t : Sl} {l : List DProc} (hi : As[i]? = some (RP t l)) (hf : l.length ≤ 1048576) : QAt w t l := ⟨by rw [h.len i hi, recs_len], h.rowR i hi, hf⟩
theorem QAt.pr {w : World} {t : Sl} {l : List DProc} (h : QAt w t l) {i : Nat} {x : DProc} (hx : l[i]? = some x) : ∃ p, t.a = some p ∧ ∀ j v, x.cells[j]? = some v → w.cell? ((p.add (i * 10)).add j) = some v :=
  RowAt.elem (f := DProc.cells) (z := 10) (fun _ => rfl) h.tr hx (by have := (List.getElem?_eq_some_iff.1 hx).1; have := h.tl; omega)
instance (s : Int) : Decidable (VS s) := by unfold VS; infer_instance
theorem pow_le (n : Nat) (h : n ≤ 62) : 1 ≤ (2 : Nat) ^ n ∧ (2 : Nat) ^ n ≤ 4611686018427387904 := ⟨Nat.one_le_two_pow, (Nat.pow_le_pow_right (by decide) h : 2 ^ n ≤ 2 ^ 62)⟩
theorem c156 {n : Nat} (hn : n ≤ 62) {w : World} : CallW Try.prog 156 #[.int .i64 (n : Int)] w (fun v w' => v = .int .u64 ((2 ^ n : Nat) : Int) ∧ w' = w) := by
  refine go156 ?_
  unfold W156
  refine LoopW.m2 (fun (r i : Int) w' => ∃ m : Nat, i = m ∧ m ≤ n ∧ r = ((2 ^ m : Nat) : Int) ∧ w' = w) (fun _ (i : Int) _ => (n - i).toNat) ⟨0, rfl, by omega, rfl, rfl⟩ ?_
  rintro (r : Int) (i : Int) w1 ⟨m, rfl, hm, rfl, rfl⟩ J hJ
  refine BIf.dec (fun hlt => ?_) (fun hge => ?_)
  · have h1 := pow_le m (by omega)
    rw [w64 (n := (m : Int) + 1) (by omega) (by omega), wu64 (by omega) (by omega)]
    exact hJ _ _ _ ⟨m + 1, by omega, by omega, by rw [Nat.pow_succ]; omega, rfl⟩ (by omega)
  · exact ⟨by rw [show m = n by omega], rfl⟩
theorem c153 {n : Nat} (hn : n ≤ 62) {w : World} : CallW Try.prog 153 #[.int .i64 (n : Int)] w (fun v w' => v = .int .i64 ((2 ^ n : Nat) : Int) ∧ w' = w) := by
  refine go153 ?_
  unfold W153
  refine (c156 hn).mono ?_
  rintro _ w ⟨rfl, rfl⟩
  have h1 := pow_le n hn
  exact ⟨_, rfl, by rw [w64 (by omega) (by omega)], rfl⟩
theorem c143 {s : Int} {n : Nat} (h0 : 0 ≤ s) (h1 : s ≤ 9223372036854775807) (hn : n ≤ 62) {w : World} : CallW Try.prog 143 #[.int .i64 s, .int .i64 (n : Int)] w (fun v w' => v = .bool (hasS s n) ∧ w' = w) := by
  refine go143 ?_
  unfold W143
  refine (c153 hn).mono ?_
  rintro _ w ⟨rfl, rfl⟩
  have h2 := pow_le n hn
  refine ⟨_, rfl, by omega, by decide, ?_, rfl⟩
  have h3 : 0 ≤ s / ((2 ^ n : Nat) : Int) := Int.ediv_nonneg h0 (by omega)
  have h4 : s / ((2 ^ n : Nat) : Int) ≤ s := Int.ediv_le_self _ h0
  rw [hasS_div h0, Int.tdiv_eq_ediv_of_nonneg h0, w64 (by omega) (by omega), Int.tmod_eq_emod_of_nonneg h3]
theorem c131 {s : Int} {n : Nat} (h0 : 0 ≤ s) (h1 : s ≤ 9223372036854775807) (hn : n ≤ 62) {w : World} : CallW Try.prog 131 #[.int .i64 s, .int .i64 (n : Int)] w (fun v w' => v = .int .i64 (lessS s n) ∧ w' = w) := by
  refine go131 ?_
  unfold W131
  refine (c143 h0 h1 hn).mono ?_
  rintro _ w ⟨rfl, rfl⟩
  have h2 := pow_le n hn
  refine ⟨_, rfl, BIf.of (fun hb => ?_) (fun hb => ?_)⟩
  · refine (c153 hn).mono ?_
    rintro _ _ ⟨rfl, rfl⟩
    refine ⟨_, rfl, ?_, rfl⟩
    unfold lessS
    rw [if_pos hb, w64 (by omega) (by omega)]
  · refine ⟨?_, rfl⟩
    unfold lessS
    rw [hb]; rfl
theorem c154 {s : Int} {n : Nat} (h0 : 0 ≤ s) (h1 : s ≤ 4611686018427387903) (hn : n ≤ 62) {w : World} : CallW Try.prog 154 #[.int .i64 s, .int .i64 (n : Int)] w (fun v w' => v = .int .i64 (withS s n) ∧ w' = w) := by
  refine go154 ?_
  unfold W154
  refine (c143 h0 (by omega) hn).mono ?_
  rintro _ w ⟨rfl, rfl⟩
  have h2 := pow_le n hn
  refine ⟨_, rfl, BIf.of (fun hb => ?_) (fun hb => ?_)⟩
  · refine ⟨?_, rfl⟩
    unfold withS
    rw [if_pos hb]
  · refine (c153 hn).mono ?_
    rintro _ _ ⟨rfl, rfl⟩
    refine ⟨_, rfl, ?_, rfl⟩
    unfold withS
    rw [hb, w64 (by omega) (by omega)]; rfl
theorem c130 {s : Int} {w : World} : CallW Try.prog 130 #[.int .i64 s] w (fun v w' => v = .bool (decide (VS s)) ∧ w' = w) := by
  refine go130 ?_
  unfold W130
  refine JoinW.cut1 (fun (b : Bool) w' => b = decide (0 ≤ s ∧ s < 65536) ∧ w' = w) ?_ ?_
  · refine BIf.dec (fun hge => ?_) (fun hlt => ⟨(decide_eq_false (by omega)).symm, rfl⟩)
    refine (c153 (n := 16) (by omega)).mono ?_
    rintro _ _ ⟨rfl, rfl⟩
    refine ⟨_, rfl, ?_, rfl⟩
    rw [decide_eq_decide]
    show s < 65536 ↔ _
    omega
  rintro (b : Bool) w ⟨rfl, rfl⟩
  refine JoinW.cut1 (fun (b : Bool) w' => b = decide (VS s) ∧ w' = w) ?_ ?_
  · refine BIf.dec (fun hc => ⟨by decide, ?_, rfl⟩) (fun hc => ⟨?_, rfl⟩)
    · rw [Int.tmod_eq_emod_of_nonneg hc.1]
      show decide _ = _
      rw [decide_eq_decide]
      unfold VS
      exact ⟨fun h => ⟨hc.1, hc.2, h⟩, fun h => h.2.2⟩
    · exact (decide_eq_false (fun h => hc ⟨h.1, h.2.1⟩)).symm
  · rintro (b : Bool) w ⟨rfl, rfl⟩
    exact ⟨rfl, rfl⟩
/-- The place of a process. -/
theorem c102 {t : Sl} {l : List DProc} {id : Int} {w : World} (h : QAt w t l) : CallW Try.prog 102 #[.agg #[.slice t.a t.len t.cap], .int .i64 id] w (fun v w' => v = .int .i64 (ixP l id) ∧ Ext w w') := by
  refine go102 ?_
  unfold W102
  have hs := SH.start w
  refine hs.alloc (fun w1 hs e1 n1 => ?_)
  have h1 := h.ext hs.ext
  have e1 := hs.ext
  have hfew := h.few
  have htl := h.tl
  refine LoopW.m1 (fun (i : Int) w' => 0 ≤ i ∧ i ≤ t.len ∧ idxFrom (fun x : DProc => x.Id == id) (l.drop i.toNat) i.toNat = ixP l id ∧ w' = w1) (fun (i : Int) _ => (t.len - i).toNat) ⟨by omega, by omega, rfl, rfl⟩ ?_
  rintro (i : Int) w1 ⟨hi0, hi1, hr, rfl⟩ J hJ
  obtain ⟨k, rfl⟩ := Int.eq_ofNat_of_zero_le hi0
  rw [Int.toNat_natCast] at hr ⊢
  refine ⟨t, hs.cell 0 rfl rfl, BIf.dec (fun hlt => ?_) (fun hge => ?_)⟩
  · have hk : k < l.length := by omega
    have hget : l[k]? = some l[k] := List.getElem?_eq_getElem hk
    obtain ⟨p, hp, hc⟩ := h1.pr hget
    rw [idxFrom_step _ _ _ hk] at hr
    refine ⟨t, hs.cell 0 rfl rfl, hi0, hlt, p, hp, _, hc 0 _ rfl, BIf.eq (fun e => ?_) (fun e => ?_)⟩
    · rw [if_pos (by simpa using e)] at hr
      exact ⟨by rw [hr], e1⟩
    · rw [if_neg (by simpa using e)] at hr
      rw [w64 (by omega) (by omega)]
      exact hJ _ _ ⟨by omega, by omega, hr, rfl⟩ (by omega)
  · rw [idxFrom_end _ _ _ (by omega)] at hr
    exact ⟨by rw [← hr], e1⟩
def livesP (l : List DProc) (id : Int) : Bool := match prOf l id with
  | none => false
  | some x => x.State != 3
end Go.Proofs.Yteigefjiifihpaa

/- Processes, the reference's side: one process held against the rules; the chain of parents, plain. Conditions: none. -/
set_option linter.unusedVariables false
set_option linter.unusedSimpArgs false
namespace Go.Proofs.Yteigefjiifihpaa
open Go Go.Den
def OneP (l : List DProc) (i : Nat) (x : DProc) : Prop := PrOk x ∧ ∀ z, 0 < i → l[i - 1]? = some z → z.Id < x.Id
def Num1 (l : List DProc) (i : Nat) (x : DProc) : Prop := 1 ≤ x.Id ∧ x.Id ≤ 32 ∧ (∀ z, 0 < i → l[i - 1]? = some z → z.Id < x.Id) ∧ (1 ≤ x.Group ∧ x.Group ≤ 32) ∧ 0 ≤ x.User ∧ x.User ≤ 255
def Num2 (x : DProc) : Prop := (1 ≤ x.State ∧ x.State ≤ 3) ∧ (0 ≤ x.Status ∧ x.Status ≤ 255) ∧ (x.State ≠ 3 → x.Status = 0)
theorem OneP.num1 {l : List DProc} {i : Nat} {x : DProc} (h : OneP l i x) : Num1 l i x := ⟨h.1.id.1, h.1.id.2, h.2, h.1.grp, h.1.usr⟩
theorem OneP.num2 {l : List DProc} {i : Nat} {x : DProc} (h : OneP l i x) : Num2 x := ⟨h.1.st, h.1.stat, h.1.stz⟩
end Go.Proofs.Yteigefjiifihpaa

/- Processes, plain law: the chains of parents. Conditions: none. -/
set_option linter.unusedVariables false
set_option linter.unusedSimpArgs false
namespace Go.Proofs.Yteigefjiifihpaa
open Go Go.Den
def parP (l : List DProc) (a : Int) : Int := match prOf l a with
  | some x => x.Parent
  | none => 0
/-- From a, the first is reached in k steps at the most. -/
def reachP (l : List DProc) : Nat → Int → Prop
  | 0, a => a = 1
  | k + 1, a => a = 1 ∨ reachP l k (parP l a)
def stepsP (l : List DProc) : Nat → Int → Nat
  | 0, _ => 0
  | k + 1, a => if a = 1 then 0 else stepsP l k (parP l a) + 1
theorem reachP_one (l : List DProc) : ∀ k, reachP l k 1
  | 0 => rfl
  | _ + 1 => .inl rfl
theorem reachP_up {l : List DProc} : ∀ {k : Nat} {a : Int}, reachP l k a → ∀ m, k ≤ m → reachP l m a
  | 0, a, h, m, _ => by rw [show a = 1 from h]; exact reachP_one l m
  | k + 1, a, h, m, hm => by
    obtain ⟨n, rfl⟩ : ∃ n, m = n + 1 := ⟨m - 1, by omega⟩
    rcases h with h | h
    · exact .inl h
    · exact .inr (reachP_up h n (by omega))
theorem stepsP_same {l : List DProc} : ∀ {k : Nat} {a : Int}, reachP l k a → ∀ m, k ≤ m → stepsP l m a = stepsP l k a
  | 0, a, h, m, _ => by
    cases m with
    | zero => rfl
    | succ m => unfold stepsP; rw [if_pos (show a = 1 from h)]
  | k + 1, a, h, m, hm => by
    obtain ⟨n, rfl⟩ : ∃ n, m = n + 1 := ⟨m - 1, by omega⟩
    unfold stepsP
    by_cases h1 : a = 1
    · rw [if_pos h1, if_pos h1]
    · rw [if_neg h1, if_neg h1, stepsP_same (h.resolve_left h1) n (by omega)]
theorem PInv.reach {l : List DProc} (h : PInv l) : ∀ x, x ∈ l → reachP l (l.length - 1) x.Id := by
  obtain ⟨r, hr⟩ := h.rank
  have key : ∀ (n : Nat) x, x ∈ l → (l.filter (fun y => decide (r y.Id < r x.Id))).length = n → reachP l n x.Id := by
    intro n
    induction n using Nat.strongRecOn with
    | _ n ih =>
    intro x hx hn
    by_cases h1 : x.Id = 1
    · rw [h1]; exact reachP_one l n
    obtain ⟨q, hq, g1, g2⟩ := h.par x hx h1
    have hlt := hr x hx h1
    rw [← g1] at hlt
    have hc : (l.filter (fun y => decide (r y.Id < r q.Id))).length < n := by
      rw [← hn]
      exact filter_lt l (fun y hy hyq => by have := of_decide_eq_true hyq; exact decide_eq_true (by omega)) ⟨q, hq, decide_eq_false (by omega), decide_eq_true hlt⟩
    have := reachP_up (ih _ hc q hq rfl) (n - 1) (by omega)
    obtain ⟨m, rfl⟩ : ∃ m, n = m + 1 := ⟨n - 1, by omega⟩
    refine .inr ?_
    have hp : parP l x.Id = q.Id := by
      unfold parP
      rw [show prOf l x.Id = some x from h.srt.find hx, g1]
    rw [hp]; exact this
  intro x hx
  refine reachP_up (key _ x hx rfl) _ ?_
  have := filter_lt (p := fun y : DProc => decide (r y.Id < r x.Id)) (q := fun _ => true) l (fun _ _ _ => rfl) ⟨x, hx, decide_eq_false (by omega), rfl⟩
  rw [List.filter_eq_self.2 (fun _ _ => rfl)] at this
  omega
structure POkL (k : Nat) (l : List DProc) : Prop where
  len : 1 ≤ l.length ∧ l.length ≤ 32
  one : ∀ i x, l[i]? = some x → OneP l i x
  head : ∃ x, l[0]? = some x ∧ x.Id = 1 ∧ x.Parent = 0 ∧ x.State ≠ 3
  par : ∀ (i : Nat) x, l[i]? = some x → 0 < i → livesP l x.Parent = true
  reach : ∀ (i : Nat) x, l[i]? = some x → reachP l k x.Id
theorem livesP_iff {l : List DProc} {a : Int} : livesP l a = true ↔ ∃ q, prOf l a = some q ∧ q.State ≠ 3 := by
  unfold livesP
  constructor
  · intro h
    split at h
    · cases h
    · rename_i x hx; exact ⟨x, hx, by simpa using h⟩
  · rintro ⟨q, hq, hz⟩; rw [hq]; simpa using hz
theorem POkL.inv {k : Nat} {l : List DProc} (h : POkL k l) : PInv l := by
  have hs : Srt DProc.Id l := srt_of (fun i y hy z h0 hz => (h.one i y hy).2 z h0 hz)
  obtain ⟨x1, hx1, g1, g2, g3⟩ := h.head
  have hpos : ∀ (i : Nat) x, l[i]? = some x → x.Id ≠ 1 → 0 < i := fun i x hx h1 => by
    refine Nat.pos_of_ne_zero (fun e => ?_)
    subst e
    rw [hx1] at hx; cases hx; exact h1 g1
  have hpar : ∀ x, x ∈ l → x.Id ≠ 1 → ∃ q, prOf l x.Parent = some q ∧ q.State ≠ 3 := fun x hx h1 => by
    obtain ⟨i, hi⟩ := List.getElem?_of_mem hx
    exact livesP_iff.1 (h.par i x hi (hpos i x hi h1))
  refine ⟨hs, fun x hx => ?_, h.head, fun x hx h1 => ?_, stepsP l k, fun x hx h1 => ?_⟩
  · obtain ⟨i, hi⟩ := List.getElem?_of_mem hx; exact (h.one i x hi).1
  · obtain ⟨q, hq, hz⟩ := hpar x hx h1
    exact ⟨q, (prOf_some hq).1, (prOf_some hq).2, hz⟩
  · obtain ⟨q, hq, hz⟩ := hpar x hx h1
    have hp : parP l x.Id = x.Parent := by
      unfold parP
      rw [show prOf l x.Id = some x from hs.find hx]
    obtain ⟨i, hi⟩ := List.getElem?_of_mem hx
    have hr := h.reach i x hi
    cases k with
    | zero => exact absurd hr h1
    | succ k =>
      have hr' := hr.resolve_left h1
      rw [hp] at hr'
      have := stepsP_same hr' (k + 1) (by omega)
      rw [this]
      show stepsP l k x.Parent < if x.Id = 1 then 0 else stepsP l k (parP l x.Id) + 1
      rw [if_neg h1, hp]; omega
theorem PInv.one {l : List DProc} (h : PInv l) (i : Nat) (x : DProc) (hx : l[i]? = some x) : OneP l i x := ⟨h.ok x (List.mem_of_getElem? hx), fun z h0 hz => h.srt.lt hz hx (by omega)⟩
theorem PInv.lives {l : List DProc} (h : PInv l) (i : Nat) (x : DProc) (hx : l[i]? = some x) (h0 : 0 < i) : livesP l x.Parent = true := by
  have h1 : x.Id ≠ 1 := by have := h.fill hx; omega
  obtain ⟨j, u, _, _, hz, _, hu⟩ := h.up (List.mem_of_getElem? hx) h1
  exact livesP_iff.2 ⟨u, hu, hz⟩
theorem PInv.okL {l : List DProc} (h : PInv l) {k : Nat} (hk : l.length ≤ k + 1) : POkL k l :=
  ⟨h.len, h.one, h.head, h.lives, fun i x hx => reachP_up (h.reach x (List.mem_of_getElem? hx)) k (by omega)⟩
/-- What a check answers. -/
def KPr (l : List DProc) (w : World) (v : Value) (w' : World) : Prop := ∃ b, v = .bool b ∧ (b = true ↔ PInv l) ∧ Ext w w'
theorem KPr.no {l : List DProc} {w w' : World} (h : ¬ PInv l) (e : Ext w w') : KPr l w (.bool false) w' := ⟨false, rfl, ⟨(fun h => nomatch h), fun hh => absurd hh h⟩, e⟩
end Go.Proofs.Yteigefjiifihpaa

/- Processes, the reference's side: a signal sent, one taken out, an end. Conditions: none. -/
set_option linter.unusedVariables false
set_option linter.unusedSimpArgs false
namespace Go.Proofs.Yteigefjiifihpaa
open Go Go.Den
abbrev pAgg (t : Sl) : Value := .agg #[.slice t.a t.len t.cap]
abbrev BX (b : Nat) (x : DProc) : Asr := aB b (x.cells.map Ce.v)
abbrev BS (b : Nat) (t : Sl) : Asr := aB b ([Value.slice t.a t.len t.cap].map Ce.v)
/-- Processes handed by value. -/
def KP (w0 : World) (F : List Asr) (l : List DProc) (v : Value) (w' : World) : Prop := ∃ t : Sl, v = pAgg t ∧ SH w0 w' (RP t l :: F)
def KPR (w0 : World) (F : List Asr) (r : PRes) (v : Value) (w' : World) : Prop := ∃ t : Sl, v = .tuple #[pAgg t, .agg #[.int .i64 r.2.1, .int .i64 r.2.2.1, .int .i64 r.2.2.2]] ∧ SH w0 w' (RP t r.1 :: F)
def pend1 (x : DProc) (sig : Nat) : Int := if sig = 13 then lessS x.Pending 12 else x.Pending
def pend2 (x : DProc) (sig : Nat) : Int := if sig = 12 then lessS (pend1 x sig) 13 else pend1 x sig
def pend3 (x : DProc) (sig : Nat) : Int := if hasS x.Ignored sig = true then pend2 x sig else withS (pend2 x sig) sig
theorem pend_eq (x : DProc) (sig : Nat) : sendX x sig = ⟨x.Id, x.Parent, x.Group, x.User, if sig = 13 then 1 else x.State, x.Status, pend3 x sig, x.Mask, x.Ignored, x.Caught⟩ := by
  have : pend2 x sig = (if sig = 12 then lessS x.Pending 13 else if sig = 13 then lessS x.Pending 12 else x.Pending) := by
    unfold pend2 pend1
    by_cases h : sig = 12
    · subst h; rfl
    · rw [if_neg h, if_neg h]
  unfold pend3 sendX
  rw [this]
  split <;> rfl
theorem pend_vs {x : DProc} (h : PrOk x) (sig : Nat) : VS (pend1 x sig) ∧ VS (pend2 x sig) := by
  have h1 : VS (pend1 x sig) := by
    unfold pend1
    split
    · exact VS.less h.pend (by omega)
    · exact h.pend
  refine ⟨h1, ?_⟩
  unfold pend2
  split
  · exact VS.less h1 (by omega)
  · exact h1
theorem sendF_at {l : List DProc} {i sig : Nat} {x : DProc} (hx : l[i]? = some x) : sendF l i sig = l.set i (sendY sig x) := by unfold sendF; rw [hx]
theorem s151 {w0 w : World} {F : List Asr} {t : Sl} {l : List DProc} {i : Nat} {x : DProc} {sig : Nat} (h : SH w0 w (RP t l :: F)) (hx : l[i]? = some x) (ho : PrOk x) (hs1 : 1 ≤ sig) (hs2 : sig ≤ 15) (hf : l.length ≤ 1048576) :
    CallW Try.prog 151 #[pAgg t, .int .i64 (i : Int), .int .i64 (sig : Int)] w (fun v w' => v = .tuple #[] ∧ SH w0 w' (RP t (sendF l i sig) :: F)) := by
  refine go151 ?_
  unfold W151
  have hil := (List.getElem?_eq_some_iff.1 hx).1
  have htl := h.len 0 rfl
  rw [recs_len] at htl
  obtain ⟨q, hqa⟩ := h.rowQ 0 rfl hx
  simp only [Int.toNat_natCast]
  rw [sendF_at hx]
  refine h.alloc (fun w1 h e1 n1 => ?_)
  refine ⟨t, h.cell 0 rfl rfl, by omega, by omega, q, hqa, _, h.rdR 1 rfl hqa hx rfl, _, h.rdR 1 rfl hqa hx rfl, _, h.rdR 1 rfl hqa hx rfl, _, h.rdR 1 rfl hqa hx rfl, _, h.rdR 1 rfl hqa hx rfl, _, h.rdR 1 rfl hqa hx rfl, _, h.rdR 1 rfl hqa hx rfl, _, h.rdR 1 rfl hqa hx rfl, _, h.rdR 1 rfl hqa hx rfl, _, h.rdR 1 rfl hqa hx rfl, ?_⟩
  refine h.alloc (fun w14 h e14 n14 => ?_)
  refine h.put 0 rfl rfl rfl (fun w15 h n15 => ?_)
  refine ⟨_, h.cell 0 rfl rfl, BIf.eq (fun hz => ⟨trivial, ?_⟩) (fun hz => ?_)⟩
  · unfold sendY
    rw [if_pos hz, ← set_at hx]
    exact ((h.dropAt 1).dropAt 0)
  obtain ⟨v1, v2⟩ := pend_vs ho sig
  have hy : sendY sig x = ⟨x.Id, x.Parent, x.Group, x.User, if sig = 13 then 1 else x.State, x.Status, pend3 x sig, x.Mask, x.Ignored, x.Caught⟩ := by
    unfold sendY; rw [if_neg hz, pend_eq]
  rw [hy]
  refine JoinW.cut0 (fun w' => SH w0 w' (BX w1.heap.size ⟨x.Id, x.Parent, x.Group, x.User, if sig = 13 then 1 else x.State, x.Status, pend1 x sig, x.Mask, x.Ignored, x.Caught⟩ :: BS w.heap.size t :: RP t l :: F)) ?_ ?_
  · unfold pend1
    refine BIf.eq (fun h13 => ?_) (fun h13 => ?_)
    · rw [if_pos (by omega), if_pos (by omega)]
      refine h.setV 0 rfl rfl (fun w50 h n50 => ?_)
      refine ⟨_, h.cell 0 rfl rfl, (c131 (n := 12) (VS.small ho.pend).1 (VS.small ho.pend).2 (by omega)).mono ?_⟩
      rintro _ w53 ⟨rfl, rfl⟩
      refine ⟨_, rfl, ?_⟩
      exact h.setV 0 rfl rfl (fun w55 h n55 => h)
    · rw [if_neg (by omega), if_neg (by omega)]
      exact h
  clear h
  intro w18 h
  refine JoinW.cut0 (fun w' => SH w0 w' (BX w1.heap.size ⟨x.Id, x.Parent, x.Group, x.User, if sig = 13 then 1 else x.State, x.Status, pend2 x sig, x.Mask, x.Ignored, x.Caught⟩ :: BS w.heap.size t :: RP t l :: F)) ?_ ?_
  · unfold pend2
    refine BIf.eq (fun h12 => ?_) (fun h12 => ?_)
    · rw [if_pos (by omega : sig = 12)]
      refine ⟨_, h.cell 0 rfl rfl, (c131 (n := 13) (VS.small v1).1 (VS.small v1).2 (by omega)).mono ?_⟩
      rintro _ w47 ⟨rfl, rfl⟩
      refine ⟨_, rfl, ?_⟩
      exact h.setV 0 rfl rfl (fun w49 h n49 => h)
    · rw [if_neg (by omega : ¬ sig = 12)]
      exact h
  clear h
  intro w20 h
  refine JoinW.cut0 (fun w' => SH w0 w' (BX w1.heap.size ⟨x.Id, x.Parent, x.Group, x.User, if sig = 13 then 1 else x.State, x.Status, pend3 x sig, x.Mask, x.Ignored, x.Caught⟩ :: BS w.heap.size t :: RP t l :: F)) ?_ ?_
  · refine ⟨_, h.cell 0 rfl rfl, (c143 (VS.small ho.ign.1).1 (VS.small ho.ign.1).2 (by omega)).mono ?_⟩
    rintro _ w38 ⟨rfl, rfl⟩
    unfold pend3
    refine ⟨_, rfl, BIf.not (BIf.of (fun hb => ?_) (fun hb => ?_))⟩
    · rw [if_pos hb]; exact h
    · rw [if_neg (show ¬ hasS x.Ignored sig = true by rw [hb]; decide)]
      refine ⟨_, h.cell 0 rfl rfl, (c154 v2.1 (by have := v2.2.1; omega) (by omega)).mono ?_⟩
      rintro _ w42 ⟨rfl, rfl⟩
      refine ⟨_, rfl, ?_⟩
      exact h.setV 0 rfl rfl (fun w44 h n44 => h)
  clear h
  intro w22 h
  refine ⟨t, h.cell 1 rfl rfl, _, h.cell 0 rfl rfl, _, h.cell 0 rfl rfl, _, h.cell 0 rfl rfl, _, h.cell 0 rfl rfl, _, h.cell 0 rfl rfl, _, h.cell 0 rfl rfl, _, h.cell 0 rfl rfl, _, h.cell 0 rfl rfl, _, h.cell 0 rfl rfl, _, h.cell 0 rfl rfl, by omega, by omega, q, hqa, ?_⟩
  refine h.putR 2 (⟨x.Id, x.Parent, x.Group, x.User, if sig = 13 then 1 else x.State, x.Status, pend3 x sig, x.Mask, x.Ignored, x.Caught⟩ : DProc) rfl hqa hx rfl rfl rfl (fun w35 h n35 => ⟨trivial, ?_⟩)
  exact ((h.dropAt 1).dropAt 0)
theorem s152 {w0 w : World} {F : List Asr} {t : Sl} {l : List DProc} {i : Nat} (h : SH w0 w (RP t l :: F)) (hi : i < l.length) (hf : l.length ≤ 1048576) :
    CallW Try.prog 152 #[pAgg t, .int .i64 (i : Int)] w (KP w0 F (l.take i ++ l.drop (i + 1))) := by
  refine go152 ?_
  unfold W152
  have htl := h.len 0 rfl
  rw [recs_len] at htl
  have htc := h.lenCap 0 rfl
  refine h.alloc (fun w1 h e1 n1 => ?_)
  refine h.alloc (fun w2 h e2 n2 => ?_)
  have h := h.drew
  simp only [Int.toNat_natCast]
  rw [w64 (n := (i : Int) + 1) (by omega) (by omega), show ((i : Int) + 1).toNat = i + 1 by omega]
  refine ⟨t, h.cell 1 rfl rfl, by omega, by omega, t, h.cell 1 rfl rfl, by omega, by omega, ?_⟩
  refine h.alloc (fun w5 h e5 n5 => ?_)
  refine ⟨⟨t, h.cell 2 rfl rfl, rfl⟩, ⟨t, h.cell 2 rfl rfl, rfl⟩, ?_⟩
  have hrow := h.rowR 3 rfl
  have h := h.drop.nil (some ⟨w2.drew.heap.size, 0, none⟩) 10
  refine SH.appendR (f := DProc.cells) (l := []) (us := l.take i) h (hrow.pre (fun _ => rfl) (by omega)) (by simp; omega) (fun _ => rfl) rfl rfl (by decide) (by show (_ + _) * 80 ≤ _; simp; omega) plain_pr (fun l8 w9 h hl8 _ => ?_)
  refine ⟨⟨t, h.cell 2 rfl rfl, rfl⟩, ?_⟩
  have hrow := h.rowR 3 rfl
  refine SH.appendR (f := DProc.cells) (us := l.drop (i + 1)) h (hrow.suf (fun _ => rfl) htl htc (by omega)) (by simp; omega) (fun _ => rfl) rfl rfl (by decide) (by show (_ + _) * 80 ≤ _; simp; omega) plain_pr (fun l11 w12 h hl11 _ => ?_)
  refine h.setV 2 rfl rfl (fun w13 h n13 => ?_)
  refine ⟨l11, h.cell 2 rfl rfl, ?_⟩
  refine h.setV 1 rfl rfl (fun w15 h n15 => ?_)
  refine ⟨l11, h.cell 1 rfl rfl, l11, rfl, ?_⟩
  rw [List.nil_append] at h
  exact (((h.dropAt 3).dropAt 2).dropAt 1)
end Go.Proofs.Yteigefjiifihpaa

/- Processes, the reference's side: the end of one. Conditions: none. -/
set_option linter.unusedVariables false
set_option linter.unusedSimpArgs false
namespace Go.Proofs.Yteigefjiifihpaa
open Go Go.Den
theorem mapTo_get {α : Type} (f : α → α) {l : List α} {m : Nat} {x : α} (hx : l[m]? = some x) : ((l.take m).map f ++ l.drop m)[m]? = some x := by
  have hm := (List.getElem?_eq_some_iff.1 hx).1
  rw [List.getElem?_append_right (by simp; omega)]
  simp [Nat.min_eq_left (Nat.le_of_lt hm), hx]
theorem mapTo_set {α : Type} (f : α → α) {l : List α} {m : Nat} {x : α} (hx : l[m]? = some x) : ((l.take m).map f ++ l.drop m).set m (f x) = (l.take (m + 1)).map f ++ l.drop (m + 1) := by
  obtain ⟨hm, hv⟩ := List.getElem?_eq_some_iff.1 hx
  rw [List.set_append_right _ _ (by simp; omega), List.drop_eq_getElem_cons hm, hv, List.take_add_one, hx, List.map_append]
  simp [Nat.min_eq_left (Nat.le_of_lt hm)]
theorem mapTo_len {α : Type} (f : α → α) (l : List α) (m : Nat) : ((l.take m).map f ++ l.drop m).length = l.length := by simp; omega
theorem any_step {α : Type} (p : α → Bool) {l : List α} {m : Nat} {x : α} (hx : l[m]? = some x) : (l.take (m + 1)).any p = ((l.take m).any p || p x) := by
  rw [List.take_add_one, hx, List.any_append]; simp
theorem s127 {w0 w : World} {F : List Asr} {t : Sl} {l : List DProc} {i : Nat} {x : DProc} {status : Int} (h : SH w0 w (RP t l :: F)) (hv : PInv l) (hx : l[i]? = some x) (hx1 : x.Id ≠ 1) (hs : 0 ≤ status ∧ status ≤ 255) :
    CallW Try.prog 127 #[pAgg t, .int .i64 x.Id, .int .i64 status] w (KP w0 F (endF l x.Id status)) := by
  refine go127 ?_
  unfold W127
  have hlen := hv.len
  have htl := h.len 0 rfl
  rw [recs_len] at htl
  have hid := (hv.ok x (List.mem_of_getElem? hx)).id
  have hid1 : 1 < x.Id := by omega
  refine h.alloc (fun w1 h e1 n1 => ?_)
  refine h.alloc (fun w2 h e2 n2 => ?_)
  have h : SH w0 w2 (aB w1.heap.size ([Value.slice none 0 0].map Ce.v) :: BS w.heap.size t :: RP t ((l.take 0).map (reP x.Id) ++ l.drop 0) :: F) := h
  generalize hidd : x.Id = id at *
  refine LoopW.m2 (fun (b : Bool) (i : Int) w' => ∃ m : Nat, i = m ∧ m ≤ l.length ∧ b = (l.take m).any (fun x => x.Parent == id && x.State == 3) ∧ SH w0 w' (aB w1.heap.size ([Value.slice none 0 0].map Ce.v) :: BS w.heap.size t :: RP t ((l.take m).map (reP id) ++ l.drop m) :: F)) (fun _ (i : Int) _ => (l.length - i).toNat) ⟨0, rfl, by omega, rfl, h⟩ ?_
  clear h
  rintro (b : Bool) (i' : Int) w6 ⟨m, rfl, hm, rfl, h⟩ J hJ
  refine ⟨t, h.cell 1 rfl rfl, BIf.dec (fun hlt => ?_) (fun hge => ?_)⟩
  · have hget : l[m]? = some l[m] := List.getElem?_eq_getElem (by omega)
    have hstep := any_step (fun x : DProc => x.Parent == id && x.State == 3) hget
    have hmg := mapTo_get (reP id) hget
    have hms := mapTo_set (reP id) hget
    generalize l[m] = y at *
    obtain ⟨q, hqa⟩ := h.rowQ 2 rfl hmg
    simp only [Int.toNat_natCast]
    rw [w64 (n := (m : Int) + 1) (by omega) (by omega)]
    refine ⟨t, h.cell 1 rfl rfl, by omega, by omega, q, hqa, _, h.rdR 2 rfl hqa hmg rfl, BIf.eq (fun hpar => ?_) (fun hpar => ?_)⟩
    · have hre : reP id y = ⟨y.Id, 1, y.Group, y.User, y.State, y.Status, y.Pending, y.Mask, y.Ignored, y.Caught⟩ := by unfold reP; rw [if_pos hpar]
      refine ⟨t, h.cell 1 rfl rfl, by omega, by omega, q, hqa, ?_⟩
      rw [set_at hmg] at h
      refine h.setR 2 (reP id y) rfl hqa (by rw [mapTo_len]; omega) (by show 1 < 10; omega) (by rw [hre]; rfl) (fun w13 h n13 => ?_)
      rw [hms] at h
      have hmg2 : ((l.take (m + 1)).map (reP id) ++ l.drop (m + 1))[m]? = some (reP id y) := by rw [← hms]; exact List.getElem?_set_self (by rw [mapTo_len]; omega)
      refine JoinW.cut1 (fun (b : Bool) w' => b = (l.take (m + 1)).any (fun x => x.Parent == id && x.State == 3) ∧ w' = w13) ?_ ?_
      · rw [hstep, hpar]
        refine BIf.of (fun hb => ⟨by rw [hb]; rfl, rfl⟩) (fun hb => ⟨t, h.cell 1 rfl rfl, by omega, by omega, q, hqa, _, h.rdR 2 rfl hqa hmg2 rfl, ?_, rfl⟩)
        rw [hb, hre]; simp
      · rintro (b : Bool) w16 ⟨hb, rfl⟩
        exact hJ _ _ _ ⟨m + 1, by omega, by omega, hb, h⟩ (by omega)
    · have hre : reP id y = y := by unfold reP; rw [if_neg hpar]
      rw [hre] at hms
      rw [← set_at hmg] at hms
      refine hJ _ _ _ ⟨m + 1, by omega, by omega, ?_, by rw [← hms]; exact h⟩ (by omega)
      rw [hstep, show (y.Parent == id) = false by simpa using hpar]; simp
  · clear hJ J
    have hmm : m = l.length := by omega
    subst hmm
    rw [List.take_length, List.drop_length, List.append_nil] at h
    rw [List.take_length]
    obtain ⟨r1, r2⟩ := hv.reP hid1
    obtain ⟨g1, g2, g3⟩ := hv.endA hid1
    have glen := g1.len
    refine JoinW.cut0 (fun w' => SH w0 w' (RP t (endA l id) :: aB w1.heap.size ([Value.slice none 0 0].map Ce.v) :: BS w.heap.size t :: F)) ?_ ?_
    · unfold endA
      have hdk : l.any (fun x => x.Parent == id && x.State == 3) = deadKid l id := rfl
      rw [hdk]
      refine BIf.of (fun hb => ?_) (fun hb => ?_)
      · rw [if_pos hb]
        have hpos0 : 0 < (l.map (reP id)).length := by rw [List.length_map]; omega
        have hg0 : (l.map (reP id))[0]? = some (l.map (reP id))[0] := List.getElem?_eq_getElem hpos0
        refine ⟨t, h.cell 1 rfl rfl, (s151 (i := 0) (sig := 14) (h.front (n := 2) rfl) hg0 (r1.ok _ (List.mem_of_getElem? hg0)) (by omega) (by omega) (by simp; omega)).mono ?_⟩
        rintro _ w72 ⟨rfl, h⟩
        exact ⟨rfl, h⟩
      · rw [if_neg (by rw [hb]; decide)]
        exact h.front (n := 2) rfl
    clear h
    intro w21 h
    have hlen2 : (endA l id).length ≤ 1048576 := by omega
    obtain ⟨y, hy, hyid⟩ := g3 i x hx
    rw [hidd] at hyid
    obtain ⟨f1, f2⟩ := g1.ix hy
    rw [hyid] at f1 f2
    obtain ⟨j, u, hj, u1, u2, u3, u4⟩ := g1.up (List.mem_of_getElem? hy) (by omega)
    have hij : i ≠ j := by
      rintro rfl
      rw [hy] at hj; cases hj
      exact g2 y (List.mem_of_getElem? hy) (by omega)
    have hfin : endF l id status = if hasS u.Ignored 14 = true then (endA l id).filter (fun y => y.Id != id) else sendF ((endA l id).set i (zomb y status)) j 14 := by
      unfold endF endB
      rw [f2]; dsimp only; rw [u4]; dsimp only; rw [f1, u3, Int.toNat_natCast, Int.toNat_natCast]
    have htl2 := h.len 0 rfl
    rw [recs_len] at htl2
    have hil := (List.getElem?_eq_some_iff.1 hy).1
    have hjl := (List.getElem?_eq_some_iff.1 hj).1
    have huo := g1.ok u (List.mem_of_getElem? hj)
    have herase := g1.srt.erase hy
    rw [hyid] at herase
    have hz := g1.zomb hy (by omega) (fun z hz => by rw [hyid]; exact g2 z hz) hs
    rw [hfin]
    clear hfin g3
    generalize endA l id = l' at *
    refine ⟨t, h.cell 2 rfl rfl, (c102 (qatOf h 0 rfl hlen2)).mono ?_⟩
    rintro _ w24 ⟨rfl, e24⟩
    have h := h.to e24
    obtain ⟨q, hqa⟩ := h.rowQ 0 rfl hy
    rw [f1]
    refine ⟨_, rfl, t, h.cell 2 rfl rfl, by omega, by omega, q, hqa, ?_⟩
    simp only [Int.toNat_natCast]
    refine ⟨_, h.rdR 0 rfl hqa hy rfl, _, h.rdR 0 rfl hqa hy rfl, _, h.rdR 0 rfl hqa hy rfl, _, h.rdR 0 rfl hqa hy rfl, _, h.rdR 0 rfl hqa hy rfl, _, h.rdR 0 rfl hqa hy rfl, _, h.rdR 0 rfl hqa hy rfl, _, h.rdR 0 rfl hqa hy rfl, _, h.rdR 0 rfl hqa hy rfl, _, h.rdR 0 rfl hqa hy rfl, ?_⟩
    refine h.alloc (fun w38 h e38 n38 => ?_)
    refine h.put 0 rfl rfl rfl (fun w39 h n39 => ?_)
    refine ⟨t, h.cell 3 rfl rfl, _, h.cell 0 rfl rfl, (c102 (qatOf h 1 rfl hlen2)).mono ?_⟩
    rintro _ w43 ⟨rfl, e43⟩
    have h := h.to e43
    rw [u3]
    refine ⟨_, rfl, t, h.cell 3 rfl rfl, by omega, by omega, q, hqa, ?_⟩
    simp only [Int.toNat_natCast]
    refine ⟨_, h.rdR 1 rfl hqa hj rfl, (c143 (n := 14) (VS.small huo.ign.1).1 (VS.small huo.ign.1).2 (by omega)).mono ?_⟩
    rintro _ w49 ⟨rfl, rfl⟩
    refine ⟨_, rfl, BIf.of (fun hb => ?_) (fun hb => ?_)⟩
    · rw [if_pos hb]
      refine ⟨t, h.cell 3 rfl rfl, (s152 (i := i) (h.front (n := 1) rfl) hil hlen2).mono ?_⟩
      rintro _ w53 ⟨t2, rfl, h⟩
      refine ⟨t2, rfl, ?_⟩
      refine h.setV 2 rfl rfl (fun w55 h n55 => ?_)
      refine ⟨t2, h.cell 2 rfl rfl, t2, rfl, ?_⟩
      rw [herase] at h
      exact (((h.dropAt 3).dropAt 2).dropAt 1)
    · rw [if_neg (by rw [hb]; decide)]
      refine ⟨t, h.cell 3 rfl rfl, _, h.cell 0 rfl rfl, _, h.cell 0 rfl rfl, _, h.cell 0 rfl rfl, _, h.cell 0 rfl rfl, by omega, by omega, q, hqa, ?_⟩
      refine h.putR 1 (zomb y status) rfl hqa hy rfl rfl rfl (fun w63 h n63 => ?_)
      have hj2 : (l'.set i (zomb y status))[j]? = some u := by rw [List.getElem?_set_ne hij]; exact hj
      refine ⟨t, h.cell 3 rfl rfl, (s151 (i := j) (sig := 14) (h.front (n := 1) rfl) hj2 huo (by omega) (by omega) (by simp; omega)).mono ?_⟩
      rintro _ w66 ⟨rfl, h⟩
      refine ⟨rfl, t, h.cell 3 rfl rfl, ?_⟩
      refine h.setV 2 rfl rfl (fun w68 h n68 => ?_)
      refine ⟨t, h.cell 2 rfl rfl, t, rfl, ?_⟩
      exact (((h.dropAt 3).dropAt 2).dropAt 1)
end Go.Proofs.Yteigefjiifihpaa

/- Processes, the reference's side: fork, wait. Conditions: none. -/
set_option linter.unusedVariables false
set_option linter.unusedSimpArgs false
namespace Go.Proofs.Yteigefjiifihpaa
open Go Go.Den
abbrev rs3 (x y z : Int) : List Value := [.int .i64 x, .int .i64 y, .int .i64 z]
abbrev ZT : List Value := [.slice none 0 0]
/-- Processes and an answer, laid into their blocks and handed back. -/
theorem retP {w0 w : World} {As : List Asr} (h : SH w0 w As) (i j : Nat) {b c : Nat} {v0 : Value} {us : List Value} (hb : As[i]? = some (aB b ([v0].map Ce.v))) {t : Sl} {x y z : Int} {K : Value → World → Prop}
    (hc : (As.set i (BS b t))[j]? = some (aB c (us.map Ce.v))) (hu : us.length = 3) (hij : i < As.length ∧ i ≠ j)
    (hk : ∀ w2, SH w0 w2 ((As.set i (BS b t)).set j (aB c ((rs3 x y z).map Ce.v))) → K (.tuple #[pAgg t, .agg #[.int .i64 x, .int .i64 y, .int .i64 z]]) w2) :
    May w ⟨b, 0, none⟩ ∧ LetW (w.setCell ⟨b, 0, none⟩ (.slice t.a t.len t.cap)) fun w14 => MayN w14 ⟨c, 0, none⟩ 3 ∧ LetW (Den.puts w14 ⟨c, 0, none⟩ 0 [.int .i64 x, .int .i64 y, .int .i64 z]) fun w15 => ∃ l16 : Sl, w15.cell? ⟨b, 0, none⟩ = some (.slice l16.a l16.len l16.cap) ∧ ∃ n17 : Int, w15.cell? ⟨c, 0, none⟩ = some (.int .i64 n17) ∧ ∃ n18 : Int, w15.cell? ⟨c, 1, none⟩ = some (.int .i64 n18) ∧ ∃ n19 : Int, w15.cell? ⟨c, 2, none⟩ = some (.int .i64 n19) ∧ K (.tuple #[.agg #[.slice l16.a l16.len l16.cap], .agg #[.int .i64 n17, .int .i64 n18, .int .i64 n19]]) w15 := by
  refine h.setV i hb rfl (fun w13 h nw => ?_)
  refine h.put j hc rfl hu (fun w14 h nw => ?_)
  have g1 : ((As.set i (BS b t)).set j (aB c ((rs3 x y z).map Ce.v)))[i]? = some (BS b t) := by
    rw [List.getElem?_set_ne (by omega), List.getElem?_set_self hij.1]
  have hj := (List.getElem?_eq_some_iff.1 hc).1
  have g2 : ((As.set i (BS b t)).set j (aB c ((rs3 x y z).map Ce.v)))[j]? = some (aB c ((rs3 x y z).map Ce.v)) := List.getElem?_set_self hj
  exact ⟨t, h.cell i g1 rfl, x, h.cell j g2 rfl, y, h.cell j g2 rfl, z, h.cell j g2 rfl, hk _ h⟩
/-- The processes as they came, and an answer. -/
theorem retQ {w0 w : World} {As : List Asr} (h : SH w0 w As) (m i j : Nat) {a b c : Nat} {v0 : Value} {us : List Value} {t : Sl} (ha : As[m]? = some (BS a t)) (hb : As[i]? = some (aB b ([v0].map Ce.v))) {x y z : Int} {K : Value → World → Prop}
    (hc : (As.set i (BS b t))[j]? = some (aB c (us.map Ce.v))) (hu : us.length = 3) (hij : i < As.length ∧ i ≠ j)
    (hk : ∀ w2, SH w0 w2 ((As.set i (BS b t)).set j (aB c ((rs3 x y z).map Ce.v))) → K (.tuple #[pAgg t, .agg #[.int .i64 x, .int .i64 y, .int .i64 z]]) w2) :
    ∃ l13 : Sl, w.cell? ⟨a, 0, none⟩ = some (.slice l13.a l13.len l13.cap) ∧ May w ⟨b, 0, none⟩ ∧ LetW (w.setCell ⟨b, 0, none⟩ (.slice l13.a l13.len l13.cap)) fun w14 => MayN w14 ⟨c, 0, none⟩ 3 ∧ LetW (Den.puts w14 ⟨c, 0, none⟩ 0 [.int .i64 x, .int .i64 y, .int .i64 z]) fun w15 => ∃ l16 : Sl, w15.cell? ⟨b, 0, none⟩ = some (.slice l16.a l16.len l16.cap) ∧ ∃ n17 : Int, w15.cell? ⟨c, 0, none⟩ = some (.int .i64 n17) ∧ ∃ n18 : Int, w15.cell? ⟨c, 1, none⟩ = some (.int .i64 n18) ∧ ∃ n19 : Int, w15.cell? ⟨c, 2, none⟩ = some (.int .i64 n19) ∧ K (.tuple #[.agg #[.slice l16.a l16.len l16.cap], .agg #[.int .i64 n17, .int .i64 n18, .int .i64 n19]]) w15 :=
  ⟨t, h.cell m ha rfl, retP h i j hb hc hu hij hk⟩
theorem gap_ix {l : List DProc} (h : PInv l) {n : Nat} (hn : n ≤ gapQ l 0) : 0 ≤ ixP l ((n : Int) + 1) ↔ n < gapQ l 0 := by
  obtain ⟨g0, g1, g2, g3⟩ := h.gap
  constructor
  · intro hix
    rcases ixP_find l ((n : Int) + 1) with ⟨e, _⟩ | ⟨i, x, e, hx, hp⟩
    · omega
    · refine Nat.lt_of_le_of_ne hn (fun e => ?_)
      have := h.gapNew x (prOf_some hp).1
      have := (prOf_some hp).2
      omega
  · intro hlt
    have hg : l[n]? = some l[n] := List.getElem?_eq_getElem (by omega)
    have hid := g2 n _ hlt hg
    have := (h.ix hg).1
    rw [hid] at this
    omega
noncomputable def forkR (l : List DProc) (x : DProc) : PRes := if l.length = 32 then (l, 18, 0, 0) else (forkF l x, 0, ((gapQ l 0 : Nat) : Int) + 1, 0)
theorem s126 {w0 w : World} {F : List Asr} {t : Sl} {l : List DProc} {i : Nat} {x : DProc} (h : SH w0 w (RP t l :: F)) (hv : PInv l) (hx : l[i]? = some x) (hz : x.State ≠ 3) :
    CallW Try.prog 126 #[pAgg t, .int .i64 (i : Int)] w (KPR w0 F (forkR l x)) := by
  refine go126 ?_
  unfold W126
  have hlen := hv.len
  have htl := h.len 0 rfl
  rw [recs_len] at htl
  have htc := h.lenCap 0 rfl
  have hil := (List.getElem?_eq_some_iff.1 hx).1
  obtain ⟨q, hqa⟩ := h.rowQ 0 rfl hx
  refine h.alloc (fun w1 h e1 n1 => ?_)
  refine h.alloc (fun w2 h e2 n2 => ?_)
  refine h.alloc (fun w3 h e3 n3 => ?_)
  have hfull := hv.full
  obtain ⟨g0, g1, g2, g3⟩ := hv.gap
  refine LoopW.m1 (fun (i : Int) w' => ∃ n : Nat, i = (n : Int) + 1 ∧ n ≤ gapQ l 0 ∧ SH w0 w' (aB w2.heap.size ((rs3 0 0 0).map Ce.v) :: aB w1.heap.size (ZT.map Ce.v) :: BS w.heap.size t :: RP t l :: F)) (fun (i : Int) _ => (40 - i).toNat) ⟨0, rfl, by omega, h⟩ ?_
  clear h
  rintro (i' : Int) w6 ⟨n, rfl, hng, h⟩ J hJ
  refine JoinW.cut1 (fun (c : Bool) w' => c = decide (n < 32 ∧ n < gapQ l 0) ∧ SH w0 w' (aB w2.heap.size ((rs3 0 0 0).map Ce.v) :: aB w1.heap.size (ZT.map Ce.v) :: BS w.heap.size t :: RP t l :: F)) ?_ ?_
  · refine BIf.dec (fun hlt => ?_) (fun hge => ⟨(decide_eq_false (by omega)).symm, h⟩)
    refine ⟨t, h.cell 2 rfl rfl, (c102 (qatOf h 3 rfl (by omega))).mono ?_⟩
    rintro _ w66 ⟨rfl, e⟩
    refine ⟨_, rfl, ?_, h.to e⟩
    rw [decide_eq_decide]
    have := gap_ix hv hng
    omega
  clear h
  rintro (c : Bool) w9 ⟨rfl, h⟩
  refine BIf.dec (fun hc => ?_) (fun hc => ?_)
  · rw [w64 (by omega) (by omega)]
    exact hJ _ _ ⟨n + 1, by omega, by omega, h⟩ (by omega)
  refine BIf.dec (fun h32 => ?_) (fun h32 => ?_)
  · refine retQ h 2 1 0 rfl rfl rfl rfl (by simp) (fun w2 h => ?_)
    unfold forkR
    rw [if_pos (hfull.2 (by omega))]
    exact ⟨t, rfl, (((h.dropAt 2).dropAt 1).dropAt 0)⟩
  have hn32 : ¬ l.length = 32 := fun hh => by have := hfull.1 hh; omega
  obtain rfl : n = gapQ l 0 := by omega
  have hres : forkR l x = (forkF l x, 0, ((gapQ l 0 : Nat) : Int) + 1, 0) := by unfold forkR; rw [if_neg hn32]
  have hff : forkF l x = [] ++ l.take (gapQ l 0) ++ [child (gapQ l 0) x] ++ l.drop (gapQ l 0) := by unfold forkF; simp
  rw [hres, hff]
  generalize gapQ l 0 = g at *
  simp only [Int.toNat_natCast]
  rw [w64 (n := (g : Int) + 1 - 1) (by omega) (by omega), show ((g : Int) + 1 - 1) = g by omega]
  simp only [Int.toNat_natCast]
  refine ⟨t, h.cell 2 rfl rfl, by omega, by omega, q, hqa, _, h.rdR 3 rfl hqa hx rfl, _, h.rdR 3 rfl hqa hx rfl, _, h.rdR 3 rfl hqa hx rfl, _, h.rdR 3 rfl hqa hx rfl, _, h.rdR 3 rfl hqa hx rfl, _, h.rdR 3 rfl hqa hx rfl, _, h.rdR 3 rfl hqa hx rfl, _, h.rdR 3 rfl hqa hx rfl, _, h.rdR 3 rfl hqa hx rfl, _, h.rdR 3 rfl hqa hx rfl, ?_⟩
  refine h.alloc (fun w29 h e29 n29 => ?_)
  refine h.put 0 rfl rfl rfl (fun w30 h n30 => ?_)
  refine ⟨_, h.cell 0 rfl rfl, ?_⟩
  refine h.setV 0 rfl rfl (fun w32 h n32 => ?_)
  refine h.setV 0 rfl rfl (fun w33 h n33 => ?_)
  refine h.setV 0 rfl rfl (fun w34 h n34 => ?_)
  refine h.setV 0 rfl rfl (fun w35 h n35 => ?_)
  have h : SH w0 w35 (BX w9.heap.size (child g x) :: aB w2.heap.size ((rs3 0 0 0).map Ce.v) :: aB w1.heap.size (ZT.map Ce.v) :: BS w.heap.size t :: RP t l :: F) := h
  refine h.alloc (fun w36 h e36 n36 => ?_)
  refine ⟨t, h.cell 4 rfl rfl, by omega, by omega, ?_⟩
  have hrow := h.rowR 5 rfl
  have h := h.drop.nil (some ⟨w35.heap.size, 0, none⟩) 10
  refine SH.appendR (f := DProc.cells) (l := []) (us := l.take g) h (hrow.pre (fun _ => rfl) (by omega)) (by simp; omega) (fun _ => rfl) rfl rfl (by decide) (by show (_ + _) * 80 ≤ _; simp; omega) plain_pr (fun l39 w40 h hl39 _ => ?_)
  refine ⟨_, h.cell 1 rfl rfl, _, h.cell 1 rfl rfl, _, h.cell 1 rfl rfl, _, h.cell 1 rfl rfl, _, h.cell 1 rfl rfl, _, h.cell 1 rfl rfl, _, h.cell 1 rfl rfl, _, h.cell 1 rfl rfl, _, h.cell 1 rfl rfl, _, h.cell 1 rfl rfl, ?_⟩
  refine LetW_iff.2 (SH.appendR1 (f := DProc.cells) (x := child g x) h rfl rfl rfl (by decide) (by show _ * 80 ≤ _; simp; omega) (plain_pr _) (fun l42 w43 h hl42 _ => ?_))
  refine ⟨t, h.cell 4 rfl rfl, by omega, by omega, ?_⟩
  have hrow := h.rowR 5 rfl
  refine SH.appendR (f := DProc.cells) (us := l.drop g) h (hrow.suf (fun _ => rfl) htl htc (by omega)) (by simp; omega) (fun _ => rfl) rfl rfl (by decide) (by show (_ + _) * 80 ≤ _; simp; omega) plain_pr (fun l45 w46 h hl45 _ => ?_)
  refine h.setV 4 rfl rfl (fun w47 h n47 => ?_)
  refine retQ h 4 3 2 rfl rfl rfl rfl (by simp) (fun w2 h => ?_)
  exact ⟨l45, rfl, (((((h.dropAt 5).dropAt 4).dropAt 3).dropAt 2).dropAt 1)⟩
/-! ## Wait -/
theorem meant_some {me x : DProc} {to_ : Int} : (meant me to_ x = true) ↔ ¬ ((to_ = 0 ∧ x.Group ≠ me.Group) ∨ (to_ > 0 ∧ x.Id ≠ to_) ∨ (to_ < -1 ∧ x.Group ≠ IntKind.i64.wrap (0 - to_))) := by
  unfold meant
  split
  · rw [beq_iff_eq]; omega
  · split
    · rw [beq_iff_eq]; omega
    · split
      · simp; omega
      · rw [beq_iff_eq]
        constructor
        · rintro he (⟨h1, _⟩ | ⟨h1, _⟩ | ⟨_, h2⟩)
          · omega
          · omega
          · exact h2 he
        · intro hn
          exact Classical.byContradiction (fun hne => hn (.inr (.inr ⟨by omega, hne⟩)))
theorem s128 {w0 w : World} {F : List Asr} {t : Sl} {l : List DProc} {i : Nat} {x : DProc} {to_ : Int} (h : SH w0 w (RP t l :: F)) (hv : PInv l) (hx : l[i]? = some x) :
    CallW Try.prog 128 #[pAgg t, .int .i64 (i : Int), .int .i64 to_] w (KPR w0 F (waitR l x to_)) := by
  refine go128 ?_
  unfold W128
  have hlen := hv.len
  have htl := h.len 0 rfl
  rw [recs_len] at htl
  have hil := (List.getElem?_eq_some_iff.1 hx).1
  obtain ⟨q, hqa⟩ := h.rowQ 0 rfl hx
  refine h.alloc (fun w1 h e1 n1 => ?_)
  refine h.alloc (fun w2 h e2 n2 => ?_)
  refine h.alloc (fun w3 h e3 n3 => ?_)
  simp only [Int.toNat_natCast]
  refine ⟨t, h.cell 2 rfl rfl, by omega, by omega, q, hqa, _, h.rdR 3 rfl hqa hx rfl, _, h.rdR 3 rfl hqa hx rfl, _, h.rdR 3 rfl hqa hx rfl, _, h.rdR 3 rfl hqa hx rfl, _, h.rdR 3 rfl hqa hx rfl, _, h.rdR 3 rfl hqa hx rfl, _, h.rdR 3 rfl hqa hx rfl, _, h.rdR 3 rfl hqa hx rfl, _, h.rdR 3 rfl hqa hx rfl, _, h.rdR 3 rfl hqa hx rfl, ?_⟩
  refine h.alloc (fun w16 h e16 n16 => ?_)
  refine h.put 0 rfl rfl rfl (fun w17 h n17 => ?_)
  refine LoopW.m2 (fun (b : Bool) (i : Int) w' => ∃ m : Nat, i = m ∧ m ≤ l.length ∧ b = (l.take m).any (fun y => y.Parent == x.Id && meant x to_ y) ∧ (∀ y, y ∈ l.take m → (y.Parent == x.Id && meant x to_ y && y.State == 3) = false) ∧ SH w0 w' (BX w3.heap.size x :: aB w2.heap.size ((rs3 0 0 0).map Ce.v) :: aB w1.heap.size (ZT.map Ce.v) :: BS w.heap.size t :: RP t l :: F)) (fun _ (i : Int) _ => (l.length - i).toNat) ⟨0, rfl, by omega, rfl, (fun y hy => by simp at hy), h⟩ ?_
  clear h
  rintro (b : Bool) (i' : Int) w21 ⟨m, rfl, hm, rfl, hall, h⟩ J hJ
  refine ⟨t, h.cell 3 rfl rfl, BIf.dec (fun hlt => ?_) (fun hge => ?_)⟩
  · have hget : l[m]? = some l[m] := List.getElem?_eq_getElem (by omega)
    have hstep := any_step (fun y : DProc => y.Parent == x.Id && meant x to_ y) hget
    have hmem : ∀ z, z ∈ l.take (m + 1) → z ∈ l.take m ∨ z = l[m] := fun z hz => by
      rw [List.take_add_one, hget] at hz
      rcases List.mem_append.1 hz with hz | hz
      · exact .inl hz
      · exact .inr (by simpa using hz)
    generalize l[m] = y at *
    simp only [Int.toNat_natCast]
    rw [w64 (n := (m : Int) + 1) (by omega) (by omega)]
    refine ⟨t, h.cell 3 rfl rfl, by omega, by omega, q, hqa, _, h.rdR 4 rfl hqa hget rfl, _, h.rdR 4 rfl hqa hget rfl, _, h.rdR 4 rfl hqa hget rfl, _, h.rdR 4 rfl hqa hget rfl, _, h.rdR 4 rfl hqa hget rfl, _, h.rdR 4 rfl hqa hget rfl, _, h.rdR 4 rfl hqa hget rfl, _, h.rdR 4 rfl hqa hget rfl, _, h.rdR 4 rfl hqa hget rfl, _, h.rdR 4 rfl hqa hget rfl, ?_⟩
    refine h.alloc (fun w35 h e35 n35 => ?_)
    refine h.put 0 rfl rfl rfl (fun w36 h n36 => ?_)
    refine ⟨_, h.cell 0 rfl rfl, _, h.cell 1 rfl rfl, JoinW.cut1 (fun (c : Bool) w' => (c = true ↔ y.Parent ≠ x.Id ∨ (to_ = 0 ∧ y.Group ≠ x.Group)) ∧ w' = w36) ?_ ?_⟩
    · refine BIf.ne (fun hne => ⟨iff_of_true rfl (.inl hne), rfl⟩) (fun heq => BIf.eq (fun h0 => ⟨_, h.cell 0 rfl rfl, _, h.cell 1 rfl rfl, ?_, rfl⟩) (fun h0 => ⟨?_, rfl⟩))
      · rw [bne_iff_ne]; exact ⟨fun hh => .inr ⟨h0, hh⟩, fun hh => hh.elim (fun e => absurd heq e) (·.2)⟩
      · exact ⟨(fun hh => nomatch hh), fun hh => hh.elim (fun e => absurd heq e) (fun e => absurd e.1 h0)⟩
    rintro (c1 : Bool) w41 ⟨hc1, rfl⟩
    refine JoinW.cut1 (fun (c : Bool) w' => (c = true ↔ (y.Parent ≠ x.Id ∨ (to_ = 0 ∧ y.Group ≠ x.Group)) ∨ (to_ > 0 ∧ y.Id ≠ to_)) ∧ w' = w41) ?_ ?_
    · refine BIf.of (fun ht => ⟨iff_of_true rfl (.inl (hc1.1 ht)), rfl⟩) (fun hf => ?_)
      have hf' : ¬ _ := fun hh => by rw [hc1.2 hh] at hf; cases hf
      refine BIf.dec (fun h0 => ⟨_, h.cell 0 rfl rfl, ?_, rfl⟩) (fun h0 => ⟨?_, rfl⟩)
      · rw [bne_iff_ne]; exact ⟨fun hh => .inr ⟨h0, hh⟩, fun hh => hh.elim (fun e => absurd e hf') (·.2)⟩
      · exact ⟨(fun hh => nomatch hh), fun hh => hh.elim (fun e => absurd e hf') (fun e => absurd e.1 h0)⟩
    rintro (c2 : Bool) w44 ⟨hc2, rfl⟩
    refine JoinW.cut1 (fun (c : Bool) w' => (c = false ↔ (y.Parent == x.Id && meant x to_ y) = true) ∧ w' = w44) ?_ ?_
    · have hcon : (y.Parent == x.Id && meant x to_ y) = true ↔ ¬ (((y.Parent ≠ x.Id ∨ (to_ = 0 ∧ y.Group ≠ x.Group)) ∨ (to_ > 0 ∧ y.Id ≠ to_)) ∨ (to_ < -1 ∧ y.Group ≠ IntKind.i64.wrap (0 - to_))) := by
        rw [Bool.and_eq_true, beq_iff_eq, meant_some]
        constructor
        · rintro ⟨h1, h2⟩ (((h3 | h3) | h3) | h3)
          · exact h3 h1
          · exact h2 (.inl h3)
          · exact h2 (.inr (.inl h3))
          · exact h2 (.inr (.inr h3))
        · intro hn
          refine ⟨Classical.byContradiction (fun e => hn (.inl (.inl (.inl e)))), ?_⟩
          rintro (h3 | h3 | h3)
          · exact hn (.inl (.inl (.inr h3)))
          · exact hn (.inl (.inr h3))
          · exact hn (.inr h3)
      rw [hcon]
      refine BIf.of (fun ht => ⟨⟨(fun hh => nomatch hh), fun hh => absurd (.inl (hc2.1 ht)) hh⟩, rfl⟩) (fun hf => ?_)
      have hf' : ¬ _ := fun hh => by rw [hc2.2 hh] at hf; cases hf
      refine BIf.dec (fun h0 => ⟨_, h.cell 0 rfl rfl, ?_, rfl⟩) (fun h0 => ⟨?_, rfl⟩)
      · rw [bne_eq_false_iff_eq]
        constructor
        · rintro hh (e | e)
          · exact hf' e
          · exact e.2 hh
        · exact fun hn => Classical.byContradiction (fun hh => hn (.inr ⟨h0, hh⟩))
      · refine iff_of_true rfl ?_
        rintro (e | e)
        · exact hf' e
        · exact h0 e.1
    rintro (c3 : Bool) w47 ⟨hc3, rfl⟩
    refine BIf.of (fun ht => ?_) (fun hf => ?_)
    · have hno : (y.Parent == x.Id && meant x to_ y) = false := by
        rcases hh : (y.Parent == x.Id && meant x to_ y) with _ | _
        · rfl
        · rw [hc3.2 hh] at ht; cases ht
      refine hJ _ _ _ ⟨m + 1, by omega, by omega, by rw [hstep, hno, Bool.or_false], fun z hz => ?_, h.drop⟩ (by omega)
      rcases hmem z hz with hz | rfl
      · exact hall z hz
      · rw [hno]; rfl
    · have hyes := hc3.1 hf
      refine ⟨_, h.cell 0 rfl rfl, BIf.eq (fun hst => ?_) (fun hst => ?_)⟩
      · have hres : waitR l x to_ = (l.take m ++ l.drop (m + 1), 0, y.Id, y.Status) := by
          unfold waitR
          have hf : l.find? (fun x_1 => x_1.Parent == x.Id && meant x to_ x_1 && x_1.State == 3) = some y := by
            rw [← List.take_append_drop m l, List.find?_append, List.find?_eq_none.2 (fun z hz => by rw [hall z hz]; decide), List.drop_eq_getElem_cons (by omega : m < l.length)]
            have : l[m] = y := (List.getElem?_eq_some_iff.1 hget).2
            rw [this, Option.none_or, List.find?_cons_of_pos]
            rw [hyes, hst]; rfl
          rw [hf]
          dsimp only
          rw [hv.srt.erase hget]
        have h := h.drew
        refine ⟨t, h.cell 4 rfl rfl, _, h.cell 0 rfl rfl, _, h.cell 0 rfl rfl, (s152 (i := m) (h.front (n := 5) rfl) (by omega) (by omega)).mono ?_⟩
        rintro _ w53 ⟨t2, rfl, h⟩
        refine ⟨t2, rfl, ⟨_, h.cell 1 rfl rfl, rfl⟩, ⟨_, h.cell 1 rfl rfl, rfl⟩, ?_⟩
        have hc0 := h.cell 1 (i := 0) rfl rfl
        have hc5 := h.cell 1 (i := 5) rfl rfl
        refine h.setV 4 rfl rfl (fun w57 h n57 => ⟨⟨_, h.cell 1 rfl rfl, rfl⟩, ⟨_, h.cell 1 rfl rfl, rfl⟩, ?_⟩)
        refine h.put 3 rfl rfl rfl (fun w60 h n60 => ?_)
        refine ⟨t2, h.cell 4 rfl rfl, _, h.cell 3 rfl rfl, _, h.cell 3 rfl rfl, _, h.cell 3 rfl rfl, ?_⟩
        rw [hres]
        exact ⟨t2, rfl, (((((h.dropAt 5).dropAt 4).dropAt 3).dropAt 2).dropAt 1)⟩
      · refine hJ _ _ _ ⟨m + 1, by omega, by omega, by rw [hstep, hyes, Bool.or_true], fun z hz => ?_, h.drop⟩ (by omega)
        rcases hmem z hz with hz | rfl
        · exact hall z hz
        · rw [hyes]; simpa using hst
  · have hmm : m = l.length := by omega
    subst hmm
    rw [List.take_length] at *
    have hres : waitR l x to_ = if l.any (fun y => y.Parent == x.Id && meant x to_ y) = true then (l, 9, 0, 0) else (l, 11, 0, 0) := by
      unfold waitR
      rw [List.find?_eq_none.2 (fun z hz => by rw [hall z hz]; decide)]
    rw [hres]
    refine BIf.of (fun ht => ?_) (fun hf => ?_)
    · rw [if_pos ht]
      exact retQ h 3 2 1 rfl rfl rfl rfl (by simp) (fun w2 h => ⟨t, rfl, ((((h.dropAt 3).dropAt 2).dropAt 1).dropAt 0)⟩)
    · rw [if_neg (by rw [hf]; decide)]
      exact retQ h 3 2 1 rfl rfl rfl rfl (by simp) (fun w2 h => ⟨t, rfl, ((((h.dropAt 3).dropAt 2).dropAt 1).dropAt 0)⟩)
end Go.Proofs.Yteigefjiifihpaa

/- Processes, the reference's side: kill, action, group. Conditions: none. -/
set_option linter.unusedVariables false
set_option linter.unusedSimpArgs false
namespace Go.Proofs.Yteigefjiifihpaa
open Go Go.Den
abbrev popV (k id to_ n : Int) : List Value := [.int .i64 k, .int .i64 id, .int .i64 to_, .int .i64 n]
abbrev BO (b : Nat) (k id to_ n : Int) : Asr := aB b ((popV k id to_ n).map Ce.v)
theorem aimed_eq (me x : DProc) (to_ : Int) : aimed me to_ x = (if to_ < -1 then x.Group == IntKind.i64.wrap (0 - to_) else if to_ = -1 then (x.Id != 1 && x.Id != me.Id) else if to_ = 0 then x.Group == me.Group else x.Id == to_) := by
  unfold aimed meant
  by_cases h1 : to_ < -1
  · rw [if_pos h1, if_neg (by omega), if_neg (by omega), if_neg (by omega), show (to_ == -1) = false by simp; omega]; simp
  by_cases h2 : to_ = -1
  · subst h2; simp [bne]
  by_cases h3 : to_ = 0
  · subst h3; simp
  · simp only [if_neg h1, if_neg h2, if_neg h3, show to_ > 0 ↔ ¬ to_ < 0 by omega]
    by_cases h4 : to_ < 0
    · omega
    · simp [h4, h2]
def killX (me : DProc) (to_ n : Int) (y : DProc) : DProc := if n > 0 ∧ hit me to_ y = true then sendY n.toNat y else y
theorem killR_eq {l : List DProc} {me : DProc} {to_ n : Int} (hn : ¬ (n < 0 ∨ n > 15)) : killR l me to_ n = (if l.any (aimed me to_) = false then (l.map (killX me to_ n), 3, 0, 0) else if ((l.filter (hit me to_)).length : Int) = 0 then (l.map (killX me to_ n), 2, 0, 0) else (l.map (killX me to_ n), 0, (((l.filter (hit me to_)).length : Nat) : Int), 0) : PRes) := by
  unfold killR
  rw [if_neg hn]
  have hid : (l.filter (hit me to_)).length = 0 → l.map (killX me to_ n) = l := fun h0 => by
    have : ∀ y, y ∈ l → hit me to_ y = false := fun y hy => by
      have := List.filter_eq_nil_iff.1 (List.length_eq_zero_iff.1 h0) y hy
      simpa using this
    conv => rhs; rw [← List.map_id l]
    refine List.map_congr_left (fun y hy => ?_)
    unfold killX
    rw [this y hy]; simp
  by_cases h1 : l.any (aimed me to_) = false
  · rw [if_pos h1, if_pos h1, hid]
    refine List.length_eq_zero_iff.2 (List.filter_eq_nil_iff.2 (fun y hy => ?_))
    have := List.any_eq_false.1 h1 y hy
    unfold hit
    simp at this
    rw [this]; simp
  · rw [if_neg h1, if_neg h1]
    by_cases h2 : (l.filter (hit me to_)).length = 0
    · rw [if_pos h2, if_pos (by omega), hid h2]
    · rw [if_neg h2, if_neg (show ¬ (((l.filter (hit me to_)).length : Nat) : Int) = 0 by omega)]
      by_cases h3 : n > 0
      · rw [if_pos h3]
        congr 1
        refine List.map_congr_left (fun y hy => ?_)
        unfold killX
        by_cases h4 : hit me to_ y = true
        · rw [if_pos h4, if_pos ⟨h3, h4⟩]
        · rw [if_neg h4, if_neg (fun hh => h4 hh.2)]
      · rw [if_neg h3]
        congr 1
        conv => lhs; rw [← List.map_id l]
        refine List.map_congr_left (fun y hy => ?_)
        unfold killX
        rw [if_neg (fun hh => h3 hh.1)]; rfl
theorem filter_len {α : Type} (p : α → Bool) {l : List α} {m : Nat} {x : α} (hx : l[m]? = some x) : ((l.take (m + 1)).filter p).length = ((l.take m).filter p).length + (if p x = true then 1 else 0) := by
  rw [List.take_add_one, hx, List.filter_append, List.length_append]
  simp only [Option.toList_some, List.filter_cons, List.filter_nil]
  split <;> rfl
theorem s129 {w0 w : World} {F : List Asr} {t : Sl} {l : List DProc} {i : Nat} {x : DProc} {k id to_ n : Int} (h : SH w0 w (RP t l :: F)) (hv : PInv l) (hx : l[i]? = some x) :
    CallW Try.prog 129 #[pAgg t, .int .i64 (i : Int), .agg #[.int .i64 k, .int .i64 id, .int .i64 to_, .int .i64 n]] w (KPR w0 F (killR l x to_ n)) := by
  refine go129 ?_
  unfold W129
  have hlen := hv.len
  have htl := h.len 0 rfl
  rw [recs_len] at htl
  have hil := (List.getElem?_eq_some_iff.1 hx).1
  obtain ⟨q, hqa⟩ := h.rowQ 0 rfl hx
  refine h.alloc (fun w1 h e1 n1 => ?_)
  refine h.alloc (fun w2 h e2 n2 => ?_)
  refine h.alloc (fun w3 h e3 n3 => ?_)
  refine h.alloc (fun w4 h e4 n4 => ?_)
  refine ⟨_, h.cell 2 rfl rfl, ?_⟩
  refine join_or_ex _ (h.cell 2 rfl rfl) ?_
  refine BIf.of (fun hb => ?_) (fun hb => ?_)
  · simp only [Bool.or_eq_true, decide_eq_true_eq] at hb
    have hres : killR l x to_ n = (l, 1, 0, 0) := by unfold killR; rw [if_pos hb]
    rw [hres]
    exact retQ h 3 1 0 rfl rfl rfl rfl (by simp) (fun w2 h => ⟨t, rfl, ((((h.dropAt 3).dropAt 2).dropAt 1).dropAt 0)⟩)
  simp only [Bool.or_eq_false_iff, decide_eq_false_iff_not] at hb
  rw [killR_eq (by omega)]
  obtain ⟨sg, rfl⟩ := Int.eq_ofNat_of_zero_le (show 0 ≤ n by omega)
  simp only [Int.toNat_natCast]
  refine ⟨t, h.cell 3 rfl rfl, by omega, by omega, q, hqa, _, h.rdR 4 rfl hqa hx rfl, _, h.rdR 4 rfl hqa hx rfl, _, h.rdR 4 rfl hqa hx rfl, _, h.rdR 4 rfl hqa hx rfl, _, h.rdR 4 rfl hqa hx rfl, _, h.rdR 4 rfl hqa hx rfl, _, h.rdR 4 rfl hqa hx rfl, _, h.rdR 4 rfl hqa hx rfl, _, h.rdR 4 rfl hqa hx rfl, _, h.rdR 4 rfl hqa hx rfl, ?_⟩
  refine h.alloc (fun w28 h e28 n28 => ?_)
  refine h.put 0 rfl rfl rfl (fun w29 h n29 => ?_)
  have h : SH w0 w29 (BX w4.heap.size x :: aB w3.heap.size ((rs3 0 0 0).map Ce.v) :: aB w2.heap.size (ZT.map Ce.v) :: BO w1.heap.size k id to_ sg :: BS w.heap.size t :: RP t ((l.take 0).map (killX x to_ sg) ++ l.drop 0) :: F) := h
  refine LoopW.m3 (fun (b : Bool) (c i : Int) w' => ∃ m : Nat, i = m ∧ m ≤ l.length ∧ b = (l.take m).any (aimed x to_) ∧ c = (((l.take m).filter (hit x to_)).length : Nat) ∧ SH w0 w' (BX w4.heap.size x :: aB w3.heap.size ((rs3 0 0 0).map Ce.v) :: aB w2.heap.size (ZT.map Ce.v) :: BO w1.heap.size k id to_ sg :: BS w.heap.size t :: RP t ((l.take m).map (killX x to_ sg) ++ l.drop m) :: F)) (fun _ _ (i : Int) _ => (l.length - i).toNat) ⟨0, rfl, by omega, rfl, rfl, h⟩ ?_
  clear h
  rintro (b : Bool) (c : Int) (i' : Int) w34 ⟨m, rfl, hm, rfl, rfl, h⟩ J hJ
  have hcl : ((l.take m).filter (hit x to_)).length ≤ 32 := by
    have := List.length_filter_le (hit x to_) (l.take m)
    rw [List.length_take] at this
    omega
  refine ⟨t, h.cell 4 rfl rfl, BIf.dec (fun hlt => ?_) (fun hge => ?_)⟩
  · have hget : l[m]? = some l[m] := List.getElem?_eq_getElem (by omega)
    have hstep := any_step (aimed x to_) hget
    have hfl := filter_len (hit x to_) hget
    have hmg := mapTo_get (killX x to_ sg) hget
    have hms := mapTo_set (killX x to_ sg) hget
    have hyo := hv.ok _ (List.mem_of_getElem? hget)
    generalize l[m] = y at *
    simp only [Int.toNat_natCast]
    rw [w64 (n := (m : Int) + 1) (by omega) (by omega), w64 (n := ((((l.take m).filter (hit x to_)).length : Nat) : Int) + 1) (by omega) (by omega)]
    refine ⟨t, h.cell 4 rfl rfl, by omega, by omega, q, hqa, _, h.rdR 5 rfl hqa hmg rfl, _, h.rdR 5 rfl hqa hmg rfl, _, h.rdR 5 rfl hqa hmg rfl, _, h.rdR 5 rfl hqa hmg rfl, _, h.rdR 5 rfl hqa hmg rfl, _, h.rdR 5 rfl hqa hmg rfl, _, h.rdR 5 rfl hqa hmg rfl, _, h.rdR 5 rfl hqa hmg rfl, _, h.rdR 5 rfl hqa hmg rfl, _, h.rdR 5 rfl hqa hmg rfl, ?_⟩
    refine h.alloc (fun w48 h e48 n48 => ?_)
    refine h.put 0 rfl rfl rfl (fun w49 h n49 => ?_)
    refine ⟨_, h.cell 0 rfl rfl, _, h.cell 4 rfl rfl, JoinW.cut1 (fun (c : Bool) w' => c = (if to_ = 0 then y.Group == x.Group else y.Id == to_) ∧ w' = w49) ?_ ?_⟩
    · refine ⟨_, h.cell 4 rfl rfl, BIf.eq (fun h0 => ⟨_, h.cell 0 rfl rfl, _, h.cell 1 rfl rfl, ?_, rfl⟩) (fun h0 => ⟨?_, rfl⟩)⟩
      · rw [if_pos h0]
      · rw [if_neg h0]
    rintro (c1 : Bool) w54 ⟨rfl, rfl⟩
    refine JoinW.cut1 (fun (c : Bool) w' => c = (if to_ = -1 then (y.Id != 1 && y.Id != x.Id) else if to_ = 0 then y.Group == x.Group else y.Id == to_) ∧ w' = w54) ?_ ?_
    · refine ⟨_, h.cell 4 rfl rfl, BIf.eq (fun h0 => ⟨_, h.cell 0 rfl rfl, ?_⟩) (fun h0 => ⟨?_, rfl⟩)⟩
      · rw [if_pos h0]
        refine JoinW.each (BIf.of (fun hb => ⟨_, h.cell 0 rfl rfl, _, h.cell 1 rfl rfl, ?_, rfl⟩) (fun hb => ⟨?_, rfl⟩))
        · rw [hb]; rfl
        · rw [hb]; rfl
      · rw [if_neg h0]
    rintro (c2 : Bool) w57 ⟨rfl, rfl⟩
    refine JoinW.cut1 (fun (c : Bool) w' => c = aimed x to_ y ∧ w' = w57) ?_ ?_
    · rw [aimed_eq]
      refine ⟨_, h.cell 4 rfl rfl, BIf.dec (fun h0 => ⟨_, h.cell 0 rfl rfl, _, h.cell 4 rfl rfl, ?_, rfl⟩) (fun h0 => ⟨?_, rfl⟩)⟩
      · rw [if_pos h0]
      · rw [if_neg h0]
    rintro (c3 : Bool) w60 ⟨rfl, rfl⟩
    refine BIf.not (BIf.of (fun ha => ?_) (fun ha => ?_))
    · rw [ha, Bool.or_true] at hstep
      refine ⟨_, h.cell 1 rfl rfl, JoinW.cut1 (fun (c : Bool) w' => c = mayK x y ∧ w' = w60) (BIf.of (fun hu => ⟨?_, rfl⟩) (fun hu => ⟨_, h.cell 1 rfl rfl, _, h.cell 0 rfl rfl, ?_, rfl⟩)) ?_⟩
      · unfold mayK; rw [hu]; rfl
      · unfold mayK; rw [hu]; rfl
      rintro (c4 : Bool) w64' ⟨rfl, rfl⟩
      refine BIf.of (fun hk => ?_) (fun hk => ?_)
      · have hh : hit x to_ y = true := by unfold hit; rw [ha, hk]; rfl
        rw [if_pos hh] at hfl
        refine ⟨_, h.cell 4 rfl rfl, BIf.dec (fun hp => ?_) (fun hp => ?_)⟩
        · refine ⟨t, h.cell 5 rfl rfl, _, h.cell 4 rfl rfl, (s151 (i := m) (sig := sg) (h.front (n := 6) rfl) hmg hyo (by omega) (by omega) (by rw [mapTo_len]; omega)).mono ?_⟩
          rintro _ w69 ⟨rfl, h⟩
          have hkx : killX x to_ sg y = sendY sg y := by unfold killX; rw [if_pos ⟨hp, hh⟩, Int.toNat_natCast]
          rw [sendF_at hmg, ← hkx, hms] at h
          refine ⟨rfl, hJ _ _ _ _ ⟨m + 1, by omega, by omega, hstep.symm, by rw [hfl]; omega, ?_⟩ (by omega)⟩
          exact (((((h.dropAt 1).front (n := 5) rfl).front (n := 5) rfl).front (n := 5) rfl).front (n := 5) rfl).front (n := 5) rfl
        · have hkx : killX x to_ sg y = y := by unfold killX; rw [if_neg (fun e => hp e.1)]
          rw [hkx, ← set_at hmg] at hms
          exact hJ _ _ _ _ ⟨m + 1, by omega, by omega, hstep.symm, by rw [hfl]; omega, by rw [← hms]; exact h.drop⟩ (by omega)
      · have hh : ¬ hit x to_ y = true := by unfold hit; rw [hk]; simp
        rw [if_neg hh] at hfl
        have hkx : killX x to_ sg y = y := by unfold killX; rw [if_neg (fun e => hh e.2)]
        rw [hkx, ← set_at hmg] at hms
        exact hJ _ _ _ _ ⟨m + 1, by omega, by omega, hstep.symm, by rw [hfl]; rfl, by rw [← hms]; exact h.drop⟩ (by omega)
    · have hh : ¬ hit x to_ y = true := by unfold hit; rw [ha]; simp
      rw [if_neg hh] at hfl
      have hkx : killX x to_ sg y = y := by unfold killX; rw [if_neg (fun e => hh e.2)]
      rw [hkx, ← set_at hmg] at hms
      exact hJ _ _ _ _ ⟨m + 1, by omega, by omega, by rw [hstep, ha, Bool.or_false], by rw [hfl]; rfl, by rw [← hms]; exact h.drop⟩ (by omega)
  · have hmm : m = l.length := by omega
    subst hmm
    rw [List.drop_length, List.append_nil] at h
    simp only [List.take_length] at *
    refine BIf.not (BIf.of (fun ha => ?_) (fun ha => ?_))
    · rw [if_neg (by rw [ha]; decide)]
      refine BIf.eq (fun h0 => ?_) (fun h0 => ?_)
      · rw [if_pos h0]
        exact retQ h 4 2 1 rfl rfl rfl rfl (by simp) (fun w2 h => ⟨t, rfl, (((((h.dropAt 4).dropAt 3).dropAt 2).dropAt 1).dropAt 0)⟩)
      · rw [if_neg h0]
        exact retQ h 4 2 1 rfl rfl rfl rfl (by simp) (fun w2 h => ⟨t, rfl, (((((h.dropAt 4).dropAt 3).dropAt 2).dropAt 1).dropAt 0)⟩)
    · rw [if_pos ha]
      exact retQ h 4 2 1 rfl rfl rfl rfl (by simp) (fun w2 h => ⟨t, rfl, (((((h.dropAt 4).dropAt 3).dropAt 2).dropAt 1).dropAt 0)⟩)
theorem s132 {w0 w : World} {F : List Asr} {t : Sl} {l : List DProc} {i : Nat} {x : DProc} {k id to_ n : Int} (h : SH w0 w (RP t l :: F)) (hv : PInv l) (hx : l[i]? = some x) :
    CallW Try.prog 132 #[pAgg t, .int .i64 (i : Int), .agg #[.int .i64 k, .int .i64 id, .int .i64 to_, .int .i64 n]] w (KPR w0 F (actR l i x to_ n)) := by
  refine go132 ?_
  unfold W132
  have hlen := hv.len
  have ho := hv.ok x (List.mem_of_getElem? hx)
  have htl := h.len 0 rfl
  rw [recs_len] at htl
  have hil := (List.getElem?_eq_some_iff.1 hx).1
  obtain ⟨q, hqa⟩ := h.rowQ 0 rfl hx
  refine h.alloc (fun w1 h e1 n1 => ?_)
  refine h.alloc (fun w2 h e2 n2 => ?_)
  refine h.alloc (fun w3 h e3 n3 => ?_)
  refine h.alloc (fun w4 h e4 n4 => ?_)
  refine ⟨_, h.cell 2 rfl rfl, ?_⟩
  refine join_or_ex _ (h.cell 2 rfl rfl) ?_
  refine join_or_ex _ (h.cell 2 rfl rfl) ?_
  refine join_or_ex _ (h.cell 2 rfl rfl) ?_
  refine join_or_ex _ (h.cell 2 rfl rfl) ?_
  refine join_or_ex _ (h.cell 2 rfl rfl) ?_
  refine BIf.of (fun hb => ?_) (fun hb => ?_)
  · simp only [Bool.or_eq_true, decide_eq_true_eq, beq_iff_eq] at hb
    have hres : actR l i x to_ n = (l, 1, 0, 0) := by unfold actR; rw [if_pos (by omega)]
    rw [hres]
    exact retQ h 3 1 0 rfl rfl rfl rfl (by simp) (fun w2 h => ⟨t, rfl, ((((h.dropAt 3).dropAt 2).dropAt 1).dropAt 0)⟩)
  simp only [Bool.or_eq_false_iff, decide_eq_false_iff_not, beq_eq_false_iff_ne] at hb
  obtain ⟨sg, rfl⟩ := Int.eq_ofNat_of_zero_le (show 0 ≤ to_ by omega)
  have hres : actR l i x sg n = (l.set i (actX x sg n), 0, 0, 0) := by unfold actR; rw [if_neg (by omega), Int.toNat_natCast]
  rw [hres]
  have i1 := SS.less ho.ign (i := sg) (by omega)
  have c1 := SS.less ho.cau (i := sg) (by omega)
  simp only [Int.toNat_natCast]
  refine ⟨t, h.cell 3 rfl rfl, by omega, by omega, q, hqa, _, h.rdR 4 rfl hqa hx rfl, _, h.rdR 4 rfl hqa hx rfl, _, h.rdR 4 rfl hqa hx rfl, _, h.rdR 4 rfl hqa hx rfl, _, h.rdR 4 rfl hqa hx rfl, _, h.rdR 4 rfl hqa hx rfl, _, h.rdR 4 rfl hqa hx rfl, _, h.rdR 4 rfl hqa hx rfl, _, h.rdR 4 rfl hqa hx rfl, _, h.rdR 4 rfl hqa hx rfl, ?_⟩
  refine h.alloc (fun w40 h e40 n40 => ?_)
  refine h.put 0 rfl rfl rfl (fun w41 h n41 => ?_)
  refine ⟨_, h.cell 0 rfl rfl, _, h.cell 3 rfl rfl, (c131 (VS.small ho.ign.1).1 (VS.small ho.ign.1).2 (by omega)).mono ?_⟩
  rintro _ w45 ⟨rfl, rfl⟩
  refine ⟨_, rfl, ?_⟩
  refine h.setV 0 rfl rfl (fun w47 h n47 => ?_)
  refine ⟨_, h.cell 0 rfl rfl, _, h.cell 3 rfl rfl, (c131 (VS.small ho.cau.1).1 (VS.small ho.cau.1).2 (by omega)).mono ?_⟩
  rintro _ w51 ⟨rfl, rfl⟩
  refine ⟨_, rfl, ?_⟩
  refine h.setV 0 rfl rfl (fun w53 h n53 => ?_)
  refine JoinW.cut0 (fun w' => SH w0 w' (BX w4.heap.size ⟨x.Id, x.Parent, x.Group, x.User, x.State, x.Status, if n = 1 then lessS x.Pending sg else x.Pending, x.Mask, if n = 1 then withS (lessS x.Ignored sg) sg else lessS x.Ignored sg, lessS x.Caught sg⟩ :: aB w3.heap.size ((rs3 0 0 0).map Ce.v) :: aB w2.heap.size (ZT.map Ce.v) :: BO w1.heap.size k id sg n :: BS w.heap.size t :: RP t l :: F)) ?_ ?_
  · refine ⟨_, h.cell 3 rfl rfl, BIf.eq (fun h1 => ?_) (fun h1 => ?_)⟩
    · rw [if_pos h1, if_pos h1]
      refine ⟨_, h.cell 0 rfl rfl, _, h.cell 3 rfl rfl, (c154 i1.1.1 (by have := i1.1.2.1; omega) (by omega)).mono ?_⟩
      rintro _ w89 ⟨rfl, rfl⟩
      refine ⟨_, rfl, ?_⟩
      refine h.setV 0 rfl rfl (fun w91 h n91 => ?_)
      refine ⟨_, h.cell 0 rfl rfl, _, h.cell 3 rfl rfl, (c131 (VS.small ho.pend).1 (VS.small ho.pend).2 (by omega)).mono ?_⟩
      rintro _ w95 ⟨rfl, rfl⟩
      refine ⟨_, rfl, ?_⟩
      exact h.setV 0 rfl rfl (fun w97 h n97 => h)
    · rw [if_neg h1, if_neg h1]
      exact h
  clear h
  intro w55 h
  refine JoinW.cut0 (fun w' => SH w0 w' (BX w4.heap.size (actX x sg n) :: aB w3.heap.size ((rs3 0 0 0).map Ce.v) :: aB w2.heap.size (ZT.map Ce.v) :: BO w1.heap.size k id sg n :: BS w.heap.size t :: RP t l :: F)) ?_ ?_
  · refine ⟨_, h.cell 3 rfl rfl, BIf.eq (fun h1 => ?_) (fun h1 => ?_)⟩
    · refine ⟨_, h.cell 0 rfl rfl, _, h.cell 3 rfl rfl, (c154 c1.1.1 (by have := c1.1.2.1; omega) (by omega)).mono ?_⟩
      rintro _ w82 ⟨rfl, rfl⟩
      refine ⟨_, rfl, ?_⟩
      refine h.setV 0 rfl rfl (fun w84 h n84 => ?_)
      have he : actX x sg n = ⟨x.Id, x.Parent, x.Group, x.User, x.State, x.Status, if n = 1 then lessS x.Pending sg else x.Pending, x.Mask, if n = 1 then withS (lessS x.Ignored sg) sg else lessS x.Ignored sg, withS (lessS x.Caught sg) sg⟩ := by unfold actX; rw [if_pos h1]
      rw [he]; exact h
    · have he : actX x sg n = ⟨x.Id, x.Parent, x.Group, x.User, x.State, x.Status, if n = 1 then lessS x.Pending sg else x.Pending, x.Mask, if n = 1 then withS (lessS x.Ignored sg) sg else lessS x.Ignored sg, lessS x.Caught sg⟩ := by unfold actX; rw [if_neg h1]
      rw [he]; exact h
  clear h
  intro w57 h
  refine ⟨t, h.cell 4 rfl rfl, _, h.cell 0 rfl rfl, _, h.cell 0 rfl rfl, _, h.cell 0 rfl rfl, _, h.cell 0 rfl rfl, _, h.cell 0 rfl rfl, _, h.cell 0 rfl rfl, _, h.cell 0 rfl rfl, _, h.cell 0 rfl rfl, _, h.cell 0 rfl rfl, _, h.cell 0 rfl rfl, by omega, by omega, q, hqa, ?_⟩
  refine h.putR 5 (actX x sg n) rfl hqa hx rfl rfl rfl (fun w70 h n70 => ?_)
  exact retQ h 4 2 1 rfl rfl rfl rfl (by simp) (fun w2 h => ⟨t, rfl, (((((h.dropAt 4).dropAt 3).dropAt 2).dropAt 1).dropAt 0)⟩)
theorem s134 {w0 w : World} {F : List Asr} {t : Sl} {l : List DProc} {i k id to_ n : Int} (h : SH w0 w (RP t l :: F)) (hv : PInv l) :
    CallW Try.prog 134 #[pAgg t, .int .i64 i, .agg #[.int .i64 k, .int .i64 id, .int .i64 to_, .int .i64 n]] w (KPR w0 F (grpR l id to_ n)) := by
  refine go134 ?_
  unfold W134
  have hlen := hv.len
  have htl := h.len 0 rfl
  rw [recs_len] at htl
  refine h.alloc (fun w1 h e1 n1 => ?_)
  refine h.alloc (fun w2 h e2 n2 => ?_)
  refine h.alloc (fun w3 h e3 n3 => ?_)
  refine h.alloc (fun w4 h e4 n4 => ?_)
  refine ⟨t, h.cell 3 rfl rfl, _, h.cell 2 rfl rfl, (c102 (qatOf h 4 rfl (by omega))).mono ?_⟩
  rintro _ w8 ⟨rfl, e8⟩
  have h := (h.to e8).drew
  refine ⟨_, rfl, ?_⟩
  unfold grpR
  rcases ixP_find l to_ with ⟨g1, g2⟩ | ⟨j, y, g1, g2, g3⟩
  · rw [g1, g2]
    refine JoinW.each (BIf.t rfl (BIf.t rfl ?_))
    exact retQ h 3 1 0 rfl rfl rfl rfl (by simp) (fun w2 h => ⟨t, rfl, ((((h.dropAt 3).dropAt 2).dropAt 1).dropAt 0)⟩)
  have hjl := (List.getElem?_eq_some_iff.1 g2).1
  obtain ⟨q, hqa⟩ := h.rowQ 4 rfl g2
  rw [g1, g3]
  simp only [Int.toNat_natCast]
  refine JoinW.cut1 (fun (b : Bool) w' => (b = true ↔ (to_ ≠ id ∧ y.Parent ≠ id) ∨ y.State = 3) ∧ w' = w8.drew) ?_ ?_
  · refine BIf.f (decide_eq_false (by omega)) ⟨_, h.cell 2 rfl rfl, _, h.cell 2 rfl rfl, BIf.ne (fun hne => ?_) (fun heq => ⟨t, h.cell 3 rfl rfl, by omega, by omega, q, hqa, _, h.rdR 4 rfl hqa g2 rfl, ?_, rfl⟩)⟩
    · refine ⟨t, h.cell 3 rfl rfl, by omega, by omega, q, hqa, _, h.rdR 4 rfl hqa g2 rfl, _, h.cell 2 rfl rfl, BIf.ne (fun hne2 => ⟨iff_of_true rfl (.inl ⟨hne, hne2⟩), rfl⟩) (fun heq2 => ⟨t, h.cell 3 rfl rfl, by omega, by omega, q, hqa, _, h.rdR 4 rfl hqa g2 rfl, ?_, rfl⟩)⟩
      rw [beq_iff_eq]
      exact ⟨.inr, fun hh => hh.elim (fun e => absurd heq2 e.2) (fun e => e)⟩
    · rw [beq_iff_eq]
      exact ⟨.inr, fun hh => hh.elim (fun e => absurd heq e.1) (fun e => e)⟩
  rintro (b : Bool) w12 ⟨hb, rfl⟩
  refine BIf.of (fun ht => ?_) (fun hf => ?_)
  · rw [if_pos (hb.1 ht)]
    exact retQ h 3 1 0 rfl rfl rfl rfl (by simp) (fun w2 h => ⟨t, rfl, ((((h.dropAt 3).dropAt 2).dropAt 1).dropAt 0)⟩)
  rw [if_neg (fun hh => by rw [hb.2 hh] at hf; cases hf)]
  refine ⟨_, h.cell 2 rfl rfl, ?_⟩
  refine join_or_ex _ (h.cell 2 rfl rfl) ?_
  refine BIf.of (fun hb2 => ?_) (fun hb2 => ?_)
  · simp only [Bool.or_eq_true, decide_eq_true_eq] at hb2
    rw [if_pos hb2]
    exact retQ h 3 1 0 rfl rfl rfl rfl (by simp) (fun w2 h => ⟨t, rfl, ((((h.dropAt 3).dropAt 2).dropAt 1).dropAt 0)⟩)
  simp only [Bool.or_eq_false_iff, decide_eq_false_iff_not] at hb2
  rw [if_neg (by omega)]
  refine ⟨_, h.cell 2 rfl rfl, _, h.cell 2 rfl rfl, ?_⟩
  have hA : ∀ v, v = (n == to_) → v = (n == to_ || (l.take 0).any (fun z => z.Id != to_ && z.Group == n)) := fun v hv => by rw [hv]; simp
  refine LoopW.m2 (fun (b : Bool) (i : Int) w' => ∃ m : Nat, i = m ∧ m ≤ l.length ∧ b = (n == to_ || (l.take m).any (fun z => z.Id != to_ && z.Group == n)) ∧ SH w0 w' (aB w3.heap.size ((rs3 0 0 0).map Ce.v) :: aB w2.heap.size (ZT.map Ce.v) :: BO w1.heap.size k id to_ n :: BS w.heap.size t :: RP t l :: F)) (fun _ (i : Int) _ => (l.length - i).toNat) ⟨0, rfl, by omega, hA _ rfl, h⟩ ?_
  clear h
  rintro (b2 : Bool) (i' : Int) w36 ⟨m, rfl, hm, rfl, h⟩ J hJ
  refine ⟨t, h.cell 3 rfl rfl, BIf.dec (fun hlt => ?_) (fun hge => ?_)⟩
  · have hget : l[m]? = some l[m] := List.getElem?_eq_getElem (by omega)
    have hstep := any_step (fun z : DProc => z.Id != to_ && z.Group == n) hget
    generalize l[m] = z at *
    have h := h.drew
    simp only [Int.toNat_natCast]
    rw [w64 (n := (m : Int) + 1) (by omega) (by omega)]
    refine BIf.of (fun ht => hJ _ _ _ ⟨m + 1, by omega, by omega, ?_, h⟩ (by omega)) (fun hf => ?_)
    · rw [hstep, ← Bool.or_assoc, ht]; rfl
    refine ⟨t, h.cell 3 rfl rfl, by omega, by omega, q, hqa, _, h.rdR 4 rfl hqa hget rfl, _, h.cell 2 rfl rfl, BIf.of (fun h1 => ?_) (fun h1 => ?_)⟩
    · refine ⟨t, h.cell 3 rfl rfl, by omega, by omega, q, hqa, _, h.rdR 4 rfl hqa hget rfl, _, h.cell 2 rfl rfl, hJ _ _ _ ⟨m + 1, by omega, by omega, ?_, h⟩ (by omega)⟩
      rw [hstep, ← Bool.or_assoc, hf, h1]; rfl
    · refine hJ _ _ _ ⟨m + 1, by omega, by omega, ?_, h⟩ (by omega)
      rw [hstep, ← Bool.or_assoc, hf, h1]; rfl
  · have hmm : m = l.length := by omega
    subst hmm
    simp only [List.take_length] at *
    refine BIf.not (BIf.of (fun ht => ?_) (fun hf => ?_))
    · rw [if_pos (by simpa using ht)]
      refine ⟨t, h.cell 3 rfl rfl, _, h.cell 2 rfl rfl, by omega, by omega, q, hqa, ?_⟩
      rw [set_at g2] at h
      refine h.setR 4 (⟨y.Id, y.Parent, n, y.User, y.State, y.Status, y.Pending, y.Mask, y.Ignored, y.Caught⟩ : DProc) rfl hqa hjl (by show 2 < 10; omega) rfl (fun w56 h n56 => ?_)
      exact retQ h 3 1 0 rfl rfl rfl rfl (by simp) (fun w2 h => ⟨t, rfl, ((((h.dropAt 3).dropAt 2).dropAt 1).dropAt 0)⟩)
    · rw [if_neg (by rw [Bool.or_eq_false_iff, beq_eq_false_iff_ne] at hf; rintro (e | e); exact hf.1 e; rw [hf.2] at e; cases e)]
      exact retQ h 3 1 0 rfl rfl rfl rfl (by simp) (fun w2 h => ⟨t, rfl, ((((h.dropAt 3).dropAt 2).dropAt 1).dropAt 0)⟩)
end Go.Proofs.Yteigefjiifihpaa

/- Processes, the reference's side: a signal taken; one operation. Conditions: none. -/
set_option linter.unusedVariables false
set_option linter.unusedSimpArgs false
namespace Go.Proofs.Yteigefjiifihpaa
open Go Go.Den
theorem s133 {w0 w : World} {F : List Asr} {t : Sl} {l : List DProc} {i : Nat} {x : DProc} (h : SH w0 w (RP t l :: F)) (hv : PInv l) (hx : l[i]? = some x) (hz : x.State ≠ 3) :
    CallW Try.prog 133 #[pAgg t, .int .i64 (i : Int)] w (KPR w0 F (takeR l i x)) := by
  refine go133 ?_
  unfold W133
  have hlen := hv.len
  have ho := hv.ok x (List.mem_of_getElem? hx)
  have htl := h.len 0 rfl
  rw [recs_len] at htl
  have hil := (List.getElem?_eq_some_iff.1 hx).1
  obtain ⟨q, hqa⟩ := h.rowQ 0 rfl hx
  have hp := VS.small ho.pend
  have hm := VS.small ho.mask.1
  refine h.alloc (fun w1 h e1 n1 => ?_)
  refine h.alloc (fun w2 h e2 n2 => ?_)
  refine h.alloc (fun w3 h e3 n3 => ?_)
  simp only [Int.toNat_natCast]
  refine ⟨t, h.cell 2 rfl rfl, by omega, by omega, q, hqa, _, h.rdR 3 rfl hqa hx rfl, _, h.rdR 3 rfl hqa hx rfl, _, h.rdR 3 rfl hqa hx rfl, _, h.rdR 3 rfl hqa hx rfl, _, h.rdR 3 rfl hqa hx rfl, _, h.rdR 3 rfl hqa hx rfl, _, h.rdR 3 rfl hqa hx rfl, _, h.rdR 3 rfl hqa hx rfl, _, h.rdR 3 rfl hqa hx rfl, _, h.rdR 3 rfl hqa hx rfl, ?_⟩
  refine h.alloc (fun w16 h e16 n16 => ?_)
  refine h.put 0 rfl rfl rfl (fun w17 h n17 => ?_)
  have h : SH w0 w17 (BX w3.heap.size x :: aB w2.heap.size ((rs3 0 0 0).map Ce.v) :: aB w1.heap.size (ZT.map Ce.v) :: BS w.heap.size t :: RP t l :: F) := h
  refine LoopW.m2 (fun (g s : Int) w' => ∃ k : Nat, s = k ∧ k ≤ 15 ∧ g = (leastS x (15 - k) (k + 1) : Nat) ∧ w' = w17) (fun _ (s : Int) _ => s.toNat) ⟨15, rfl, by omega, rfl, rfl⟩ ?_
  rintro (g : Int) (s : Int) w21 ⟨k, rfl, hk, rfl, rfl⟩ J hJ
  refine BIf.dec (fun hge => ?_) (fun hlt => ?_)
  · refine ⟨_, h.cell 0 rfl rfl, (c143 hp.1 hp.2 (by omega)).mono ?_⟩
    rintro _ w24 ⟨rfl, rfl⟩
    refine ⟨_, rfl, JoinW.cut1 (fun (c : Bool) w' => c = decide (hasS x.Pending k = true ∧ hasS x.Mask k = false) ∧ w' = w24) ?_ ?_⟩
    · refine BIf.of (fun hb => ⟨_, h.cell 0 rfl rfl, (c143 hm.1 hm.2 (by omega)).mono ?_⟩) (fun hb => ⟨?_, rfl⟩)
      · rintro _ w31 ⟨rfl, rfl⟩
        refine ⟨_, rfl, ?_, rfl⟩
        rw [hb]
        cases hasS x.Mask k <;> rfl
      · rw [hb]; rfl
    rintro (c : Bool) w28 ⟨rfl, rfl⟩
    rw [w64 (by omega) (by omega)]
    have hstep : leastS x (15 - (k - 1)) (k - 1 + 1) = if hasS x.Pending k = true ∧ hasS x.Mask k = false then k else leastS x (15 - k) (k + 1) := by
      rw [show 15 - (k - 1) = (15 - k) + 1 by omega, show k - 1 + 1 = k by omega]
      rfl
    refine BIf.dec (fun hc => ?_) (fun hc => ?_)
    · rw [if_pos hc] at hstep
      exact hJ _ _ _ ⟨k - 1, by omega, by omega, by rw [hstep], rfl⟩ (by omega)
    · rw [if_neg hc] at hstep
      exact hJ _ _ _ ⟨k - 1, by omega, by omega, by rw [hstep], rfl⟩ (by omega)
  obtain rfl : k = 0 := by omega
  clear hJ J
  refine JoinW.cut1 (fun (g : Int) w' => g = (sigOf x : Nat) ∧ w' = w21) ?_ ?_
  · refine ⟨_, h.cell 0 rfl rfl, (c143 (n := 9) hp.1 hp.2 (by omega)).mono ?_⟩
    rintro _ w130 ⟨rfl, rfl⟩
    unfold sigOf
    refine ⟨_, rfl, BIf.of (fun hb => ?_) (fun hb => ?_)⟩
    · rw [if_pos hb]; exact ⟨rfl, rfl⟩
    · rw [if_neg (show ¬ hasS x.Pending 9 = true by rw [hb]; decide)]
      refine ⟨_, h.cell 0 rfl rfl, BIf.eq (fun h2 => ?_) (fun h2 => ?_)⟩
      · rw [if_pos h2]; exact ⟨rfl, rfl⟩
      · rw [if_neg h2]; exact ⟨rfl, rfl⟩
  rintro (g : Int) w35 ⟨rfl, rfl⟩
  obtain ⟨s1, s2⟩ := sigOf_le x
  have hdef : takeR l i x = takeR l i x := rfl
  conv at hdef => rhs; unfold takeR
  rw [hdef]
  clear hdef
  generalize sigOf x = sg at *
  refine BIf.eq (fun h0 => ?_) (fun h0 => ?_)
  · rw [if_pos (show sg = 0 by omega)]
    exact retQ h 3 2 1 rfl rfl rfl rfl (by simp) (fun w2 h => ⟨t, rfl, ((((h.dropAt 3).dropAt 2).dropAt 1).dropAt 0)⟩)
  rw [if_neg (show ¬ sg = 0 by omega)]
  have h := h.drew
  refine ⟨t, h.cell 3 rfl rfl, _, h.cell 0 rfl rfl, (c131 hp.1 hp.2 (by omega)).mono ?_⟩
  rintro _ w46 ⟨rfl, rfl⟩
  refine ⟨_, rfl, ⟨t, h.cell 3 rfl rfl, rfl⟩, by omega, by omega, q, hqa, ?_⟩
  rw [set_at hx] at h
  refine h.setR 4 (⟨x.Id, x.Parent, x.Group, x.User, x.State, x.Status, lessS x.Pending sg, x.Mask, x.Ignored, x.Caught⟩ : DProc) rfl hqa hil (by show 6 < 10; omega) rfl (fun w50 h n50 => ?_)
  have hl1 : VS (lessS x.Pending sg) := VS.less ho.pend (by omega)
  refine ⟨_, h.cell 0 rfl rfl, (c143 (VS.small ho.cau.1).1 (VS.small ho.cau.1).2 (by omega)).mono ?_⟩
  rintro _ w53 ⟨rfl, rfl⟩
  refine ⟨_, rfl, BIf.of (fun hb => ?_) (fun hb => ?_)⟩
  · rw [if_pos hb]
    have h := h.drew
    refine ⟨t, h.cell 3 rfl rfl, _, h.cell 0 rfl rfl, (c154 hm.1 (by have := ho.mask.1.2.1; omega) (by omega)).mono ?_⟩
    rintro _ w58 ⟨rfl, rfl⟩
    refine ⟨_, rfl, ⟨t, h.cell 3 rfl rfl, rfl⟩, by omega, by omega, q, hqa, ?_⟩
    refine h.setR 4 (⟨x.Id, x.Parent, x.Group, x.User, x.State, x.Status, lessS x.Pending sg, withS x.Mask sg, x.Ignored, x.Caught⟩ : DProc) rfl hqa hil (by show 7 < 10; omega) rfl (fun w62 h n62 => ?_)
    exact retQ h 3 2 1 rfl rfl rfl rfl (by simp) (fun w2 h => ⟨t, rfl, ((((h.dropAt 3).dropAt 2).dropAt 1).dropAt 0)⟩)
  rw [if_neg (show ¬ hasS x.Caught sg = true by rw [hb]; decide)]
  refine h.alloc (fun w70 h e70 n70 => ?_)
  refine h.put 0 rfl rfl rfl (fun w71 h n71 => ?_)
  refine BIf.eq (fun h12 => ?_) (fun h12 => ?_)
  · have h12' : sg = 12 := by omega
    subst h12'
    rw [if_pos rfl]
    refine ⟨t, h.cell 4 rfl rfl, by omega, by omega, q, hqa, ?_⟩
    refine h.setR 5 (⟨x.Id, x.Parent, x.Group, x.User, 2, x.Status, lessS x.Pending 12, x.Mask, x.Ignored, x.Caught⟩ : DProc) rfl hqa hil (by show 4 < 10; omega) rfl (fun w74 h n74 => ?_)
    have h := h.drew
    refine ⟨t, h.cell 4 rfl rfl, _, h.cell 0 rfl rfl, _, h.cell 0 rfl rfl, _, h.cell 0 rfl rfl, ?_⟩
    refine h.setV 3 rfl rfl (fun w79 h n79 => ⟨?_, ?_⟩)
    · exact ⟨_, h.cell 0 rfl rfl, _, h.cell 0 rfl rfl, _, h.cell 0 rfl rfl, rfl⟩
    refine h.put 2 rfl rfl rfl (fun w83 h n83 => ?_)
    refine ⟨t, h.cell 3 rfl rfl, _, h.cell 2 rfl rfl, _, h.cell 2 rfl rfl, _, h.cell 2 rfl rfl, ?_⟩
    exact ⟨t, rfl, (((((h.dropAt 4).dropAt 3).dropAt 2).dropAt 1).dropAt 0)⟩
  rw [if_neg (show ¬ sg = 12 by omega)]
  refine JoinW.cut1 (fun (c : Bool) w' => c = decide (sg = 14 ∨ sg = 13) ∧ w' = w71) ?_ ?_
  · refine BIf.eq (fun h14 => ⟨(decide_eq_true (.inl (by omega))).symm, rfl⟩) (fun h14 => ⟨?_, rfl⟩)
    show decide _ = _
    rw [decide_eq_decide]; omega
  rintro (c : Bool) w90 ⟨rfl, rfl⟩
  refine join_or_ex _ (h.cell 1 rfl rfl) ?_
  refine BIf.of (fun hb2 => ?_) (fun hb2 => ?_)
  · simp only [Bool.or_eq_true, decide_eq_true_eq, beq_iff_eq] at hb2
    rw [if_pos (show sg = 14 ∨ sg = 13 ∨ x.Id = 1 by omega)]
    have h := h.drew
    refine ⟨t, h.cell 4 rfl rfl, _, h.cell 0 rfl rfl, _, h.cell 0 rfl rfl, _, h.cell 0 rfl rfl, ?_⟩
    refine h.setV 3 rfl rfl (fun w79 h n79 => ⟨?_, ?_⟩)
    · exact ⟨_, h.cell 0 rfl rfl, _, h.cell 0 rfl rfl, _, h.cell 0 rfl rfl, rfl⟩
    refine h.put 2 rfl rfl rfl (fun w83 h n83 => ?_)
    refine ⟨t, h.cell 3 rfl rfl, _, h.cell 2 rfl rfl, _, h.cell 2 rfl rfl, _, h.cell 2 rfl rfl, ?_⟩
    exact ⟨t, rfl, (((((h.dropAt 4).dropAt 3).dropAt 2).dropAt 1).dropAt 0)⟩
  simp only [Bool.or_eq_false_iff, decide_eq_false_iff_not, beq_eq_false_iff_ne] at hb2
  rw [if_neg (show ¬ (sg = 14 ∨ sg = 13 ∨ x.Id = 1) by omega)]
  have hsim := hv.turn hx hz ho.grp ho.usr (ho.alive hz) hl1 ho.mask ho.ign ho.cau ho.apart
  have hv1 := hv.sim hsim
  have h := h.drew
  refine ⟨t, h.cell 4 rfl rfl, _, h.cell 1 rfl rfl, _, h.cell 0 rfl rfl, _, h.cell 0 rfl rfl, _, h.cell 0 rfl rfl, ?_⟩
  rw [w64 (n := 128 + (sg : Int)) (by omega) (by omega)]
  refine (s127 (status := 128 + (sg : Int)) (h.front (n := 5) rfl) hv1 (x := ⟨x.Id, x.Parent, x.Group, x.User, x.State, x.Status, lessS x.Pending sg, x.Mask, x.Ignored, x.Caught⟩) (List.getElem?_set_self hil) (fun e => hb2.2 e) ⟨by omega, by omega⟩).mono ?_
  rintro _ w113 ⟨t2, rfl, h⟩
  refine ⟨t2, rfl, ⟨_, h.cell 1 rfl rfl, _, h.cell 1 rfl rfl, _, h.cell 1 rfl rfl, rfl⟩, ?_⟩
  refine h.setV 4 rfl rfl (fun w118 h n118 => ⟨?_, ?_⟩)
  · exact ⟨_, h.cell 1 rfl rfl, _, h.cell 1 rfl rfl, _, h.cell 1 rfl rfl, rfl⟩
  refine h.put 3 rfl rfl rfl (fun w122 h n122 => ?_)
  refine ⟨t2, h.cell 4 rfl rfl, _, h.cell 3 rfl rfl, _, h.cell 3 rfl rfl, _, h.cell 3 rfl rfl, ?_⟩
  exact ⟨t2, rfl, (((((h.dropAt 5).dropAt 4).dropAt 3).dropAt 2).dropAt 1)⟩
end Go.Proofs.Yteigefjiifihpaa

/- Processes, the reference's side: one operation. Conditions: none. -/
set_option linter.unusedVariables false
set_option linter.unusedSimpArgs false
namespace Go.Proofs.Yteigefjiifihpaa
open Go Go.Den
theorem stepP_bad {l : List DProc} {k id to_ n : Int} (h : k < 1 ∨ k > 9) : stepP l k id to_ n = (l, 1, 0, 0) := by unfold stepP; rw [if_pos h]
theorem stepP_none {l : List DProc} (hv : PInv l) {k id to_ n : Int} (h : ¬ (k < 1 ∨ k > 9)) (hi : ixP l id = -1) : stepP l k id to_ n = (l, 3, 0, 0) := by
  unfold stepP
  rw [if_neg h, hi]
  split
  · rfl
  · rw [if_pos (by omega)]
theorem stepP_some {l : List DProc} {k id to_ n : Int} (h : ¬ (k < 1 ∨ k > 9)) {i : Nat} {x : DProc} (hi : ixP l id = (i : Int)) (hx : l[i]? = some x) : stepP l k id to_ n = if x.State = 3 then (l, 21, 0, 0) else prR l i x k id to_ n := by
  unfold stepP
  rw [if_neg h, hi, Int.toNat_natCast, hx]
  dsimp only
  rw [if_neg (by omega)]
theorem s91 {w0 w : World} {F : List Asr} {t : Sl} {l : List DProc} {k id to_ n : Int} (h : SH w0 w (RP t l :: F)) (hv : PInv l) :
    CallW Try.prog 91 #[pAgg t, .agg #[.int .i64 k, .int .i64 id, .int .i64 to_, .int .i64 n]] w (KPR w0 F (stepP l k id to_ n)) := by
  refine go91 ?_
  unfold W91
  have hlen := hv.len
  have htl := h.len 0 rfl
  rw [recs_len] at htl
  refine h.alloc (fun w1 h e1 n1 => ?_)
  refine h.alloc (fun w2 h e2 n2 => ?_)
  refine h.alloc (fun w3 h e3 n3 => ?_)
  refine h.alloc (fun w4 h e4 n4 => ?_)
  refine ⟨_, h.cell 2 rfl rfl, ?_⟩
  refine join_or_ex _ (h.cell 2 rfl rfl) ?_
  refine BIf.of (fun hb => ?_) (fun hb => ?_)
  · simp only [Bool.or_eq_true, decide_eq_true_eq] at hb
    rw [stepP_bad hb]
    exact retQ h 3 1 0 rfl rfl rfl rfl (by simp) (fun w2 h => ⟨t, rfl, ((((h.dropAt 3).dropAt 2).dropAt 1).dropAt 0)⟩)
  simp only [Bool.or_eq_false_iff, decide_eq_false_iff_not] at hb
  have hb : ¬ (k < 1 ∨ k > 9) := by omega
  refine ⟨t, h.cell 3 rfl rfl, _, h.cell 2 rfl rfl, (c102 (qatOf h 4 rfl (by omega))).mono ?_⟩
  rintro _ w19 ⟨rfl, e19⟩
  have h := h.to e19
  refine ⟨_, rfl, ?_⟩
  rcases ixP_find l id with ⟨g1, g2⟩ | ⟨i, x, g1, g2, g3⟩
  · rw [g1, stepP_none hv hb g1]
    refine BIf.t rfl ?_
    exact retQ h 3 1 0 rfl rfl rfl rfl (by simp) (fun w2 h => ⟨t, rfl, ((((h.dropAt 3).dropAt 2).dropAt 1).dropAt 0)⟩)
  have hil := (List.getElem?_eq_some_iff.1 g2).1
  have hxid := (prOf_some g3).2
  have ho := hv.ok x (List.mem_of_getElem? g2)
  obtain ⟨q, hqa⟩ := h.rowQ 4 rfl g2
  rw [g1, stepP_some hb g1 g2]
  simp only [Int.toNat_natCast]
  refine BIf.f (decide_eq_false (by omega)) ⟨t, h.cell 3 rfl rfl, by omega, by omega, q, hqa, _, h.rdR 4 rfl hqa g2 rfl, ?_⟩
  refine BIf.eq (fun hz => ?_) (fun hz => ?_)
  · rw [if_pos hz]
    exact retQ h 3 1 0 rfl rfl rfl rfl (by simp) (fun w2 h => ⟨t, rfl, ((((h.dropAt 3).dropAt 2).dropAt 1).dropAt 0)⟩)
  rw [if_neg hz]
  unfold prR
  refine ⟨_, h.cell 2 rfl rfl, BIf.eq (fun hk => ?_) (fun hk1 => ?_)⟩
  · rw [if_pos hk]
    refine ⟨t, h.cell 3 rfl rfl, (s126 (h.front (n := 4) rfl) hv g2 hz).mono ?_⟩
    rintro _ w41 ⟨t2, rfl, h⟩
    refine ⟨t2, _, _, _, rfl, ?_⟩
    exact retP h 2 1 rfl rfl rfl (by simp) (fun w2 h => ⟨t2, rfl, ((((h.dropAt 4).dropAt 3).dropAt 2).dropAt 1)⟩)
  rw [if_neg hk1]
  refine BIf.eq (fun hk => ?_) (fun hk2 => ?_)
  · rw [if_pos hk]
    refine ⟨_, h.cell 2 rfl rfl, ?_⟩
    refine join_or_ex _ (h.cell 2 rfl rfl) ?_
    refine BIf.of (fun hb => ?_) (fun hb => ?_)
    · simp only [Bool.or_eq_true, decide_eq_true_eq] at hb
      rw [if_pos hb]
      exact retQ h 3 1 0 rfl rfl rfl rfl (by simp) (fun w2 h => ⟨t, rfl, ((((h.dropAt 3).dropAt 2).dropAt 1).dropAt 0)⟩)
    simp only [Bool.or_eq_false_iff, decide_eq_false_iff_not] at hb
    rw [if_neg (show ¬ (n < 0 ∨ n > 255) by omega)]
    refine ⟨_, h.cell 2 rfl rfl, BIf.eq (fun h1 => ?_) (fun h1 => ?_)⟩
    · rw [if_pos h1]
      exact retQ h 3 1 0 rfl rfl rfl rfl (by simp) (fun w2 h => ⟨t, rfl, ((((h.dropAt 3).dropAt 2).dropAt 1).dropAt 0)⟩)
    rw [if_neg h1]
    refine ⟨t, h.cell 3 rfl rfl, _, h.cell 2 rfl rfl, _, h.cell 2 rfl rfl, ?_⟩
    rw [← hxid]
    refine (s127 (status := n) (h.front (n := 4) rfl) hv g2 (by omega) (by omega)).mono ?_
    rintro _ w75 ⟨t2, rfl, h⟩
    refine ⟨t2, rfl, ?_⟩
    exact retP h 2 1 rfl rfl rfl (by simp) (fun w2 h => ⟨t2, rfl, ((((h.dropAt 4).dropAt 3).dropAt 2).dropAt 1)⟩)
  rw [if_neg hk2]
  refine BIf.eq (fun hk => ?_) (fun hk3 => ?_)
  · rw [if_pos hk]
    refine ⟨t, h.cell 3 rfl rfl, _, h.cell 2 rfl rfl, (s128 (h.front (n := 4) rfl) hv g2).mono ?_⟩
    rintro _ w87 ⟨t2, rfl, h⟩
    refine ⟨t2, _, _, _, rfl, ?_⟩
    exact retP h 2 1 rfl rfl rfl (by simp) (fun w2 h => ⟨t2, rfl, ((((h.dropAt 4).dropAt 3).dropAt 2).dropAt 1)⟩)
  rw [if_neg hk3]
  refine BIf.eq (fun hk => ?_) (fun hk4 => ?_)
  · rw [if_pos hk]
    refine ⟨t, h.cell 3 rfl rfl, _, h.cell 2 rfl rfl, _, h.cell 2 rfl rfl, _, h.cell 2 rfl rfl, _, h.cell 2 rfl rfl, (s129 (h.front (n := 4) rfl) hv g2).mono ?_⟩
    rintro _ w104 ⟨t2, rfl, h⟩
    refine ⟨t2, _, _, _, rfl, ?_⟩
    exact retP h 2 1 rfl rfl rfl (by simp) (fun w2 h => ⟨t2, rfl, ((((h.dropAt 4).dropAt 3).dropAt 2).dropAt 1)⟩)
  rw [if_neg hk4]
  refine BIf.eq (fun hk => ?_) (fun hk5 => ?_)
  · rw [if_pos hk]
    unfold maskR
    refine ⟨_, h.cell 2 rfl rfl, c130.mono ?_⟩
    rintro _ w117 ⟨rfl, rfl⟩
    refine ⟨_, rfl, BIf.not (BIf.dec (fun hvs => ?_) (fun hvs => ?_))⟩
    · rw [if_pos hvs]
      have v0 := VS.small hvs
      have v1 := VS.small (VS.less hvs (i := 9) (by omega))
      refine ⟨t, h.cell 3 rfl rfl, by omega, by omega, q, hqa, _, h.rdR 4 rfl hqa g2 rfl, ?_⟩
      refine h.alloc (fun w129 h e129 n129 => ?_)
      refine h.put 0 rfl rfl rfl (fun w130 h n130 => ?_)
      have h := h.drew
      refine ⟨t, h.cell 4 rfl rfl, _, h.cell 3 rfl rfl, (c131 (n := 9) v0.1 v0.2 (by omega)).mono ?_⟩
      rintro _ w134 ⟨rfl, rfl⟩
      refine ⟨_, rfl, ⟨t, h.cell 4 rfl rfl, rfl⟩, (c131 (n := 12) v1.1 v1.2 (by omega)).mono ?_⟩
      rintro _ w138 ⟨rfl, rfl⟩
      refine ⟨_, rfl, ⟨t, h.cell 4 rfl rfl, rfl⟩, by omega, by omega, q, hqa, ?_⟩
      rw [set_at g2] at h
      refine h.setR 5 (⟨x.Id, x.Parent, x.Group, x.User, x.State, x.Status, x.Pending, lessS (lessS to_ 9) 12, x.Ignored, x.Caught⟩ : DProc) rfl hqa hil (by show 7 < 10; omega) rfl (fun w142 h n142 => ?_)
      have h := h.drew
      refine ⟨t, h.cell 4 rfl rfl, _, h.cell 0 rfl rfl, _, h.cell 0 rfl rfl, _, h.cell 0 rfl rfl, ?_⟩
      refine h.setV 2 rfl rfl (fun w147 h n147 => ⟨?_, ?_⟩)
      · exact ⟨_, h.cell 0 rfl rfl, _, h.cell 0 rfl rfl, _, h.cell 0 rfl rfl, rfl⟩
      refine h.put 1 rfl rfl rfl (fun w151 h n151 => ?_)
      refine ⟨t, h.cell 2 rfl rfl, _, h.cell 1 rfl rfl, _, h.cell 1 rfl rfl, _, h.cell 1 rfl rfl, ?_⟩
      exact ⟨t, rfl, (((((h.dropAt 4).dropAt 3).dropAt 2).dropAt 1).dropAt 0)⟩
    · rw [if_neg hvs]
      exact retQ h 3 1 0 rfl rfl rfl rfl (by simp) (fun w2 h => ⟨t, rfl, ((((h.dropAt 3).dropAt 2).dropAt 1).dropAt 0)⟩)
  rw [if_neg hk5]
  refine BIf.eq (fun hk => ?_) (fun hk6 => ?_)
  · rw [if_pos hk]
    refine ⟨t, h.cell 3 rfl rfl, _, h.cell 2 rfl rfl, _, h.cell 2 rfl rfl, _, h.cell 2 rfl rfl, _, h.cell 2 rfl rfl, (s132 (h.front (n := 4) rfl) hv g2).mono ?_⟩
    rintro _ w162 ⟨t2, rfl, h⟩
    refine ⟨t2, _, _, _, rfl, ?_⟩
    exact retP h 2 1 rfl rfl rfl (by simp) (fun w2 h => ⟨t2, rfl, ((((h.dropAt 4).dropAt 3).dropAt 2).dropAt 1)⟩)
  rw [if_neg hk6]
  refine BIf.eq (fun hk => ?_) (fun hk7 => ?_)
  · rw [if_pos hk]
    refine ⟨t, h.cell 3 rfl rfl, (s133 (h.front (n := 4) rfl) hv g2 hz).mono ?_⟩
    rintro _ w175 ⟨t2, rfl, h⟩
    refine ⟨t2, _, _, _, rfl, ?_⟩
    exact retP h 2 1 rfl rfl rfl (by simp) (fun w2 h => ⟨t2, rfl, ((((h.dropAt 4).dropAt 3).dropAt 2).dropAt 1)⟩)
  rw [if_neg hk7]
  refine BIf.eq (fun hk => ?_) (fun hk8 => ?_)
  · rw [if_pos hk]
    refine ⟨t, h.cell 3 rfl rfl, _, h.cell 2 rfl rfl, _, h.cell 2 rfl rfl, _, h.cell 2 rfl rfl, _, h.cell 2 rfl rfl, (s134 (h.front (n := 4) rfl) hv).mono ?_⟩
    rintro _ w192 ⟨t2, rfl, h⟩
    refine ⟨t2, _, _, _, rfl, ?_⟩
    exact retP h 2 1 rfl rfl rfl (by simp) (fun w2 h => ⟨t2, rfl, ((((h.dropAt 4).dropAt 3).dropAt 2).dropAt 1)⟩)
  rw [if_neg hk8]
  unfold usrR
  refine ⟨_, h.cell 2 rfl rfl, ?_⟩
  refine join_or_ex _ (h.cell 2 rfl rfl) ?_
  refine BIf.of (fun hb => ?_) (fun hb => ?_)
  · simp only [Bool.or_eq_true, decide_eq_true_eq] at hb
    rw [if_pos hb]
    exact retQ h 3 1 0 rfl rfl rfl rfl (by simp) (fun w2 h => ⟨t, rfl, ((((h.dropAt 3).dropAt 2).dropAt 1).dropAt 0)⟩)
  simp only [Bool.or_eq_false_iff, decide_eq_false_iff_not] at hb
  rw [if_neg (show ¬ (n < 0 ∨ n > 255) by omega)]
  have h := h.drew
  refine JoinW.cut1 (fun (c : Bool) w' => c = decide (x.User ≠ 0 ∧ x.User ≠ n) ∧ w' = w19.drew) ?_ ?_
  · refine ⟨t, h.cell 3 rfl rfl, by omega, by omega, q, hqa, _, h.rdR 4 rfl hqa g2 rfl, BIf.ne (fun hu => ⟨t, h.cell 3 rfl rfl, by omega, by omega, q, hqa, _, h.rdR 4 rfl hqa g2 rfl, _, h.cell 2 rfl rfl, ?_, rfl⟩) (fun hu => ⟨(decide_eq_false (fun hh => hh.1 hu)).symm, rfl⟩)⟩
    by_cases hn : x.User = n
    · rw [decide_eq_false (fun hh => hh.2 hn)]; simpa using hn
    · rw [decide_eq_true ⟨hu, hn⟩]; simpa using hn
  rintro (c : Bool) w216 ⟨rfl, rfl⟩
  refine BIf.dec (fun hc => ?_) (fun hc => ?_)
  · rw [if_pos hc]
    exact retQ h 3 1 0 rfl rfl rfl rfl (by simp) (fun w2 h => ⟨t, rfl, ((((h.dropAt 3).dropAt 2).dropAt 1).dropAt 0)⟩)
  rw [if_neg hc]
  refine ⟨t, h.cell 3 rfl rfl, _, h.cell 2 rfl rfl, by omega, by omega, q, hqa, ?_⟩
  rw [set_at g2] at h
  refine h.setR 4 (⟨x.Id, x.Parent, x.Group, n, x.State, x.Status, x.Pending, x.Mask, x.Ignored, x.Caught⟩ : DProc) rfl hqa hil (by show 3 < 10; omega) rfl (fun w227 h n227 => ?_)
  exact retQ h 3 1 0 rfl rfl rfl rfl (by simp) (fun w2 h => ⟨t, rfl, ((((h.dropAt 3).dropAt 2).dropAt 1).dropAt 0)⟩)
end Go.Proofs.Yteigefjiifihpaa

/- Processes, the reference's side: ProcStep, ProcRun. Conditions: none. -/
set_option linter.unusedVariables false
set_option linter.unusedSimpArgs false
namespace Go.Proofs.Yteigefjiifihpaa
open Go Go.Den
open Classical in
noncomputable def pstepR (l : List DProc) (k id to_ n : Int) : PRes := if PInv l then stepP l k id to_ n else ([], 0, 0, 0)
/-! ## ProcRun -/
def proc1 : DProc := ⟨1, 0, 1, 0, 1, 0, 0, 0, 0, 0⟩
theorem new_inv : PInv [proc1] := by
  refine ⟨List.pairwise_singleton _ _, fun x hx => ?_, ⟨proc1, rfl, rfl, rfl, by decide⟩, fun x hx h1 => ?_, ⟨fun _ => 0, fun x hx h1 => ?_⟩⟩
  · obtain rfl := List.mem_singleton.1 hx
    exact ⟨by decide, by decide, by decide, by decide, by decide, fun _ => rfl, ss_zero.1, ss_zero, ss_zero, ss_zero, fun i _ => has_zero i, fun _ => ⟨rfl, rfl, rfl, rfl⟩⟩
  · obtain rfl := List.mem_singleton.1 hx
    exact absurd rfl h1
  · obtain rfl := List.mem_singleton.1 hx
    exact absurd rfl h1
theorem s90 {w0 w : World} {F : List Asr} (h : SH w0 w F) : CallW Try.prog 90 #[] w (KP w0 F [proc1]) := by
  refine go90 ?_
  unfold W90
  refine h.alloc (fun w1 h e1 n1 => ?_)
  refine h.alloc (fun w2 h e2 n2 => ?_)
  have h : SH w0 w2 (RP ⟨some ⟨w1.heap.size, 0, none⟩, 1, 1⟩ [proc1] :: aB w.heap.size (ZT.map Ce.v) :: F) := h.toRow (ys := [proc1.cells]) (n := 1) (z := 10) rfl rfl (fun u hu => by obtain rfl := List.mem_singleton.1 hu; rfl)
  refine h.setV 1 rfl rfl (fun w3 h n3 => ?_)
  exact ⟨⟨some ⟨w1.heap.size, 0, none⟩, 1, 1⟩, h.cell 1 rfl rfl, ⟨some ⟨w1.heap.size, 0, none⟩, 1, 1⟩, rfl, (h.dropAt 1)⟩
noncomputable def pRes (l : List DProc) (op : DProcOp) : DProcRes := ⟨(stepP l op.Kind op.Id op.To op.N).2.1, (stepP l op.Kind op.Id op.To op.N).2.2.1, (stepP l op.Kind op.Id op.To op.N).2.2.2⟩
noncomputable def pRunL : List DProc → List DProcOp → List DProcRes
  | _, [] => []
  | l, op :: r => pRes l op :: pRunL (stepP l op.Kind op.Id op.To op.N).1 r
noncomputable def pRunF (ops : List DProcOp) : List DProcRes := if ops.length > 400 then [] else pRunL [proc1] ops
theorem plain_pres (x : DProcRes) : ∀ v, v ∈ x.cells → plainB v = true := by intro v hv; simp [DProcRes.cells] at hv; rcases hv with rfl | rfl | rfl <;> rfl
abbrev RQ (s : Sl) (l : List DProcRes) : Asr := aRow s 3 (recs DProcRes.cells l)
theorem pRunL_len : ∀ (ops : List DProcOp) (l : List DProc), (pRunL l ops).length = ops.length
  | [], l => rfl
  | op :: r, l => by unfold pRunL; simp [pRunL_len r]
theorem s39 {w : World} {a0 : Sl} {ops : List DProcOp} (ho : RecsAt w a0 4 DProcOp.cells ops) :
    CallW Try.prog 39 #[.slice a0.a a0.len a0.cap] w (fun v w' => ∃ s : Sl, v = .slice s.a s.len s.cap ∧ SH w w' [RQ s (pRunF ops)]) := by
  refine go39 ?_
  unfold W39
  have hol := ho.len
  have h := SH.start w
  refine h.alloc (fun w1 h ew1 nw1 => ?_)
  have h : SH w w1 [RQ ⟨some ⟨w.heap.size, 0, none⟩, 0, 0⟩ []] := h.drop.nil _ 3
  refine BIf.dec (fun hbig => ?_) (fun hfew => ?_)
  · refine ⟨⟨some ⟨w.heap.size, 0, none⟩, 0, 0⟩, rfl, ?_⟩
    unfold pRunF
    rw [if_pos (by omega)]
    exact h
  have hrun : pRunF ops = pRunL [proc1] ops := by unfold pRunF; rw [if_neg (by omega)]
  rw [hrun]
  refine (s90 h).mono ?_
  rintro _ w3 ⟨t0, rfl, h⟩
  refine ⟨t0, rfl, ?_⟩
  refine h.alloc (fun w5 h ew5 nw5 => ?_)
  refine h.setV 0 rfl rfl (fun w6 h nw6 => ?_)
  have h : SH w w6 [RQ ⟨some ⟨w.heap.size, 0, none⟩, 0, 0⟩ [], RP t0 [proc1], BS w3.heap.size t0] := (h.front (n := 1) rfl).front (n := 2) rfl
  refine LoopW.m2 (fun (s : Sl) (i : Int) w' => ∃ (n : Nat) (e : List DProc) (out : List DProcRes) (t : Sl), i = n ∧ n ≤ ops.length ∧ out.length = n ∧ out ++ pRunL e (ops.drop n) = pRunL [proc1] ops ∧ PInv e ∧ SH w w' [RQ s out, RP t e, BS w3.heap.size t]) (fun _ (i : Int) _ => (a0.len - i).toNat)
    ⟨0, [proc1], [], _, rfl, Nat.zero_le _, rfl, rfl, new_inv, h⟩ ?_
  clear h
  rintro (s : Sl) (i : Int) w10 ⟨n, e, out, t, rfl, hnl, hout, hruns, hie, h⟩ J hJ
  refine BIf.dec (fun hlt => ?_) (fun hge => ?_)
  · have hk : n < ops.length := by omega
    have hget : ops[n]? = some ops[n] := List.getElem?_eq_getElem hk
    rw [List.drop_eq_getElem_cons hk, pRunL] at hruns
    obtain ⟨q, hq, hcell⟩ := ho.get (by omega) hget
    generalize ops[n] = op at *
    have hi2 := hie.step op.Kind op.Id op.To op.N
    simp only [Int.toNat_natCast]
    rw [w64 (n := (n : Int) + 1) (by omega) (by omega)]
    refine JoinW.cut2 (fun (p8 p9 : Option Addr) w' => ∃ (b c : Nat) (t' : Sl), p8 = some ⟨b, 0, none⟩ ∧ p9 = some ⟨c, 0, none⟩ ∧ SH w w' [RQ s out, RP t' (stepP e op.Kind op.Id op.To op.N).1, BS b t', aB c ((pRes e op).cells.map Ce.v), BS w3.heap.size t]) ?_ ?_
    · have h := h.drew
      refine ⟨t, h.cell 2 rfl rfl, by omega, by omega, q, hq, _, h.ext.cell (hcell 0 _ rfl), _, h.ext.cell (hcell 1 _ rfl), _, h.ext.cell (hcell 2 _ rfl), _, h.ext.cell (hcell 3 _ rfl), ?_⟩
      refine ⟨?_, ?_⟩
      · skip
        refine (s91 (h.front (n := 1) rfl) hie).mono ?_
        rintro _ w100 ⟨tw100, rfl, h⟩
        refine ⟨tw100, _, _, _, rfl, ?_⟩
        refine ⟨?_, ?_⟩
        · skip
          refine h.alloc (fun w119 h ew119 nw119 => ?_)
          refine ⟨⟨_, h.ext.cell (hcell 0 _ rfl), _, h.ext.cell (hcell 1 _ rfl), _, h.ext.cell (hcell 2 _ rfl), _, h.ext.cell (hcell 3 _ rfl), rfl⟩, ?_⟩
          refine ⟨⟨t, h.cell 3 rfl rfl, rfl⟩, ?_⟩
          refine ⟨?_, trivial⟩
          refine h.alloc (fun w125 h ew125 nw125 => ?_)
          refine ⟨⟨_, h.ext.cell (hcell 0 _ rfl), _, h.ext.cell (hcell 1 _ rfl), _, h.ext.cell (hcell 2 _ rfl), _, h.ext.cell (hcell 3 _ rfl), rfl⟩, ?_⟩
          refine ⟨⟨t, h.cell 4 rfl rfl, rfl⟩, ?_⟩
          refine ⟨?_, trivial⟩
          refine h.setV 1 rfl rfl (fun w131 h nw131 => ?_)
          refine ⟨?_, trivial⟩
          refine h.put 0 rfl rfl rfl (fun w132 h nw132 => ?_)
          exact ⟨_, _, tw100, rfl, rfl, (((((h.front (n := 4) rfl).front (n := 1) rfl).front (n := 2) rfl).front (n := 3) rfl).front (n := 4) rfl)⟩
        · skip
          refine ⟨?_, trivial⟩
          refine h.alloc (fun w105 h ew105 nw105 => ?_)
          refine ⟨⟨_, h.ext.cell (hcell 0 _ rfl), _, h.ext.cell (hcell 1 _ rfl), _, h.ext.cell (hcell 2 _ rfl), _, h.ext.cell (hcell 3 _ rfl), rfl⟩, ?_⟩
          refine ⟨⟨t, h.cell 3 rfl rfl, rfl⟩, ?_⟩
          refine ⟨?_, trivial⟩
          refine h.alloc (fun w111 h ew111 nw111 => ?_)
          refine ⟨⟨_, h.ext.cell (hcell 0 _ rfl), _, h.ext.cell (hcell 1 _ rfl), _, h.ext.cell (hcell 2 _ rfl), _, h.ext.cell (hcell 3 _ rfl), rfl⟩, ?_⟩
          refine ⟨⟨t, h.cell 4 rfl rfl, rfl⟩, ?_⟩
          refine ⟨?_, trivial⟩
          refine h.setV 0 rfl rfl (fun w117 h nw117 => ?_)
          refine ⟨?_, trivial⟩
          refine h.put 1 rfl rfl rfl (fun w118 h nw118 => ?_)
          exact ⟨_, _, tw100, rfl, rfl, (((((h.front (n := 4) rfl).front (n := 2) rfl).front (n := 2) rfl).front (n := 3) rfl).front (n := 4) rfl)⟩
      · skip
        refine ⟨?_, ?_⟩
        · skip
          refine h.alloc (fun w65 h ew65 nw65 => ?_)
          refine ⟨⟨_, h.ext.cell (hcell 0 _ rfl), _, h.ext.cell (hcell 1 _ rfl), _, h.ext.cell (hcell 2 _ rfl), _, h.ext.cell (hcell 3 _ rfl), rfl⟩, ?_⟩
          refine ⟨⟨t, h.cell 3 rfl rfl, rfl⟩, ?_⟩
          refine ⟨?_, ?_⟩
          · skip
            refine (s91 (h.front (n := 2) rfl) hie).mono ?_
            rintro _ w86 ⟨tw86, rfl, h⟩
            refine ⟨tw86, _, _, _, rfl, ?_⟩
            refine ⟨?_, trivial⟩
            refine h.alloc (fun w91 h ew91 nw91 => ?_)
            refine ⟨⟨_, h.ext.cell (hcell 0 _ rfl), _, h.ext.cell (hcell 1 _ rfl), _, h.ext.cell (hcell 2 _ rfl), _, h.ext.cell (hcell 3 _ rfl), rfl⟩, ?_⟩
            refine ⟨⟨t, h.cell 4 rfl rfl, rfl⟩, ?_⟩
            refine ⟨?_, trivial⟩
            refine h.setV 2 rfl rfl (fun w97 h nw97 => ?_)
            refine ⟨?_, trivial⟩
            refine h.put 0 rfl rfl rfl (fun w98 h nw98 => ?_)
            exact ⟨_, _, tw86, rfl, rfl, (((((h.front (n := 4) rfl).front (n := 1) rfl).front (n := 3) rfl).front (n := 3) rfl).front (n := 4) rfl)⟩
          · skip
            refine ⟨?_, trivial⟩
            refine h.alloc (fun w71 h ew71 nw71 => ?_)
            refine ⟨⟨_, h.ext.cell (hcell 0 _ rfl), _, h.ext.cell (hcell 1 _ rfl), _, h.ext.cell (hcell 2 _ rfl), _, h.ext.cell (hcell 3 _ rfl), rfl⟩, ?_⟩
            refine ⟨⟨t, h.cell 4 rfl rfl, rfl⟩, ?_⟩
            refine ⟨?_, trivial⟩
            refine (s91 (h.front (n := 3) rfl) hie).mono ?_
            rintro _ w78 ⟨tw78, rfl, h⟩
            refine ⟨tw78, _, _, _, rfl, ?_⟩
            refine ⟨?_, trivial⟩
            refine h.setV 2 rfl rfl (fun w83 h nw83 => ?_)
            refine ⟨?_, trivial⟩
            refine h.put 1 rfl rfl rfl (fun w84 h nw84 => ?_)
            exact ⟨_, _, tw78, rfl, rfl, (((((h.front (n := 4) rfl).front (n := 2) rfl).front (n := 3) rfl).front (n := 3) rfl).front (n := 4) rfl)⟩
        · skip
          refine ⟨?_, trivial⟩
          refine h.alloc (fun w31 h ew31 nw31 => ?_)
          refine ⟨⟨_, h.ext.cell (hcell 0 _ rfl), _, h.ext.cell (hcell 1 _ rfl), _, h.ext.cell (hcell 2 _ rfl), _, h.ext.cell (hcell 3 _ rfl), rfl⟩, ?_⟩
          refine ⟨⟨t, h.cell 3 rfl rfl, rfl⟩, ?_⟩
          refine ⟨?_, ?_⟩
          · skip
            refine (s91 (h.front (n := 2) rfl) hie).mono ?_
            rintro _ w52 ⟨tw52, rfl, h⟩
            refine ⟨tw52, _, _, _, rfl, ?_⟩
            refine ⟨?_, trivial⟩
            refine h.alloc (fun w57 h ew57 nw57 => ?_)
            refine ⟨⟨_, h.ext.cell (hcell 0 _ rfl), _, h.ext.cell (hcell 1 _ rfl), _, h.ext.cell (hcell 2 _ rfl), _, h.ext.cell (hcell 3 _ rfl), rfl⟩, ?_⟩
            refine ⟨⟨t, h.cell 4 rfl rfl, rfl⟩, ?_⟩
            refine ⟨?_, trivial⟩
            refine h.setV 0 rfl rfl (fun w63 h nw63 => ?_)
            refine ⟨?_, trivial⟩
            refine h.put 2 rfl rfl rfl (fun w64 h nw64 => ?_)
            exact ⟨_, _, tw52, rfl, rfl, (((((h.front (n := 4) rfl).front (n := 3) rfl).front (n := 2) rfl).front (n := 3) rfl).front (n := 4) rfl)⟩
          · skip
            refine ⟨?_, trivial⟩
            refine h.alloc (fun w37 h ew37 nw37 => ?_)
            refine ⟨⟨_, h.ext.cell (hcell 0 _ rfl), _, h.ext.cell (hcell 1 _ rfl), _, h.ext.cell (hcell 2 _ rfl), _, h.ext.cell (hcell 3 _ rfl), rfl⟩, ?_⟩
            refine ⟨⟨t, h.cell 4 rfl rfl, rfl⟩, ?_⟩
            refine ⟨?_, trivial⟩
            refine (s91 (h.front (n := 3) rfl) hie).mono ?_
            rintro _ w44 ⟨tw44, rfl, h⟩
            refine ⟨tw44, _, _, _, rfl, ?_⟩
            refine ⟨?_, trivial⟩
            refine h.setV 1 rfl rfl (fun w49 h nw49 => ?_)
            refine ⟨?_, trivial⟩
            refine h.put 2 rfl rfl rfl (fun w50 h nw50 => ?_)
            exact ⟨_, _, tw44, rfl, rfl, (((((h.front (n := 4) rfl).front (n := 3) rfl).front (n := 3) rfl).front (n := 3) rfl).front (n := 4) rfl)⟩
    · rintro (p8 : Option Addr) (p9 : Option Addr) w14 ⟨b, c, t', rfl, rfl, h⟩
      refine addrOf_mk ?_
      refine ⟨t', h.cellP 2 rfl rfl, ?_⟩
      refine h.setV 4 rfl rfl (fun w17 h nw17 => ?_)
      refine addrOf_mk ?_
      refine ⟨_, h.cellP 3 rfl rfl, _, h.cellP 3 rfl rfl, _, h.cellP 3 rfl rfl, ?_⟩
      refine LetW_iff.2 (SH.appendR1 (f := DProcRes.cells) (x := pRes e op) h rfl rfl rfl (by decide) (by show _ * 24 ≤ _; omega) (plain_pres _) (fun l22 w23 h hl22 _ => ?_))
      refine hJ _ _ _ ⟨n + 1, (stepP e op.Kind op.Id op.To op.N).1, out ++ [pRes e op], t', by omega, by omega, by simp [hout], ?_, hi2, ((h.dropAt 3).dropAt 2)⟩ (by omega)
      rw [List.append_assoc]; exact hruns
  · rw [List.drop_eq_nil_of_le (by omega)] at hruns
    have hruns : out ++ [] = pRunL [proc1] ops := hruns
    rw [List.append_nil] at hruns
    rw [← hruns]
    exact ⟨s, rfl, h.one⟩
end Go.Proofs.Yteigefjiifihpaa

/- Processes, the program's side: at, the check. Conditions: none. -/
set_option linter.unusedVariables false
set_option linter.unusedSimpArgs false
namespace Go.Proofs.Yteigefjiifihpaa
open Go Go.Den
theorem c104 {s : Addr} {t : Sl} {l : List DProc} {id : Int} {w : World} (hs : w.cell? (s.add 0) = some (.slice t.a t.len t.cap)) (h : QAt w t l) : CallW Try.prog 104 #[.pointer (some s), .int .i64 id] w (fun v w' => v = .pointer (ptrAt t.a 10 (ixP l id)) ∧ w' = w) := by
  refine go104 ?_
  unfold W104
  have hfew := h.few
  have htl := h.tl
  refine ⟨s, rfl, t, hs, ?_⟩
  refine LoopW.m1 (fun (i : Int) w' => 0 ≤ i ∧ i ≤ t.len ∧ idxFrom (fun x : DProc => x.Id == id) (l.drop i.toNat) i.toNat = ixP l id ∧ w' = w) (fun (i : Int) _ => (t.len - i).toNat) ⟨by omega, by omega, rfl, rfl⟩ ?_
  rintro (i : Int) w ⟨hi0, hi1, hr, rfl⟩ J hJ
  obtain ⟨k, rfl⟩ := Int.eq_ofNat_of_zero_le hi0
  rw [Int.toNat_natCast] at hr ⊢
  refine BIf.dec (fun hlt => ?_) (fun hge => ?_)
  · have hk : k < l.length := by omega
    have hget : l[k]? = some l[k] := List.getElem?_eq_getElem hk
    obtain ⟨p, hp, hc⟩ := h.pr hget
    rw [idxFrom_step _ _ _ hk] at hr
    refine ⟨s, rfl, t, hs, hi0, hlt, p, hp, _, hc 0 _ rfl, BIf.eq (fun e => ?_) (fun e => ?_)⟩
    · rw [if_pos (by simpa using e)] at hr
      refine ⟨s, rfl, t, hs, hi0, hlt, p, hp, ?_, rfl⟩
      unfold ptrAt
      rw [← hr, if_neg (by omega), hp, Int.toNat_natCast]; rfl
    · rw [if_neg (by simpa using e)] at hr
      rw [w64 (by omega) (by omega)]
      exact hJ _ _ ⟨by omega, by omega, hr, rfl⟩ (by omega)
  · rw [idxFrom_end _ _ _ (by omega)] at hr
    refine ⟨?_, rfl⟩
    unfold ptrAt
    rw [← hr]; rfl
theorem c136 {n : Int} {w : World} : CallW Try.prog 136 #[.int .i64 n] w (fun v w' => v = .agg #[.int .i64 n, .int .i64 0, .int .i64 0] ∧ Ext w w') := by
  refine go136 ?_
  unfold W136
  have h := SH.start w
  refine h.alloc (fun w1 h e1 n1 => ?_)
  refine h.put 0 rfl rfl rfl (fun w2 h n2 => ?_)
  exact ⟨_, h.cell 0 rfl rfl, _, h.cell 0 rfl rfl, _, h.cell 0 rfl rfl, rfl, h.ext⟩
theorem c137 {y me : DProc} {to_ : Int} {c0 c1 px : Addr} {w : World} (h0 : w.cell? (c0.add 2) = some (.int .i64 to_)) (h1 : w.cell? c1 = some (.pointer (some px))) (h2 : w.cell? (px.add 2) = some (.int .i64 me.Group)) :
    CallW Try.prog 137 #[.agg ⟨y.cells⟩, .pointer (some c0), .pointer (some c1)] w (fun v w' => v = .bool (meant me to_ y) ∧ Ext w w') := by
  refine go137 ?_
  unfold W137
  have h := SH.start w
  refine h.alloc (fun w1 h e1 n1 => ?_)
  unfold meant
  refine ⟨_, e1.cell h0, BIf.dec (fun hp => ?_) (fun hp => ?_)⟩
  · rw [if_pos hp]
    exact ⟨_, h.cell 0 rfl rfl, _, e1.cell h0, rfl, e1⟩
  rw [if_neg hp]
  refine ⟨_, e1.cell h0, BIf.eq (fun hz => ?_) (fun hz => ?_)⟩
  · rw [if_pos hz]
    have h := h.drew
    have e2 := h.ext
    exact ⟨_, h.cell 0 rfl rfl, _, e2.cell h1, px, rfl, _, e2.cell h2, rfl, e2⟩
  rw [if_neg hz]
  refine ⟨_, e1.cell h0, BIf.eq (fun hm => ?_) (fun hm => ?_)⟩
  · rw [if_pos hm]
    exact ⟨rfl, e1⟩
  rw [if_neg hm]
  exact ⟨_, h.cell 0 rfl rfl, _, e1.cell h0, rfl, e1⟩
/-! ## Sets of signals, bit by bit -/
abbrev inR (s : Int) : Prop := -9223372036854775808 ≤ s ∧ s ≤ 9223372036854775807
structure Rng (x : DProc) : Prop where
  p : inR x.Pending
  m : inR x.Mask
  i : inR x.Ignored
  c : inR x.Caught
theorem PrOk.rng {x : DProc} (h : PrOk x) : Rng x := by
  have h1 := VS.small h.pend
  have h2 := VS.small h.mask.1
  have h3 := VS.small h.ign.1
  have h4 := VS.small h.cau.1
  exact ⟨⟨by omega, by omega⟩, ⟨by omega, by omega⟩, ⟨by omega, by omega⟩, ⟨by omega, by omega⟩⟩
theorem and_apart {a b : Int} (ha : VS a) (hb : VS b) : andI .i64 a b = 0 ↔ ∀ i, hasS a i = true → hasS b i = false := by
  obtain ⟨n, rfl⟩ := Int.eq_ofNat_of_zero_le ha.1
  obtain ⟨m, rfl⟩ := Int.eq_ofNat_of_zero_le hb.1
  have h1 := ha.2.1
  have h2 := hb.2.1
  rw [andI_nat (by omega) (by omega)]
  unfold hasS
  simp only [Int.toNat_natCast]
  constructor
  · intro h i hi
    have h0 : n &&& m = 0 := by omega
    have := congrArg (Nat.testBit · i) h0
    simp only [Nat.testBit_and, Nat.zero_testBit, hi, Bool.true_and] at this
    exact this
  · intro h
    have : n &&& m = 0 := Nat.eq_of_testBit_eq (fun i => by
      rw [Nat.testBit_and, Nat.zero_testBit]
      rcases hh : n.testBit i with _ | _
      · rfl
      · rw [h i hh]; rfl)
    omega
theorem or_zero {a b c d : Int} (ha : VS a) (hb : VS b) (hc : VS c) (hd : VS d) : orI .i64 (orI .i64 (orI .i64 a b) c) d = 0 ↔ a = 0 ∧ b = 0 ∧ c = 0 ∧ d = 0 := by
  obtain ⟨n, rfl⟩ := Int.eq_ofNat_of_zero_le ha.1
  obtain ⟨m, rfl⟩ := Int.eq_ofNat_of_zero_le hb.1
  obtain ⟨k, rfl⟩ := Int.eq_ofNat_of_zero_le hc.1
  obtain ⟨j, rfl⟩ := Int.eq_ofNat_of_zero_le hd.1
  have h1 := ha.2.1
  have h2 := hb.2.1
  have h3 := hc.2.1
  have h4 := hd.2.1
  have b1 : n ||| m < 9223372036854775808 := or_lt63 (by omega) (by omega)
  have b2 : n ||| m ||| k < 9223372036854775808 := or_lt63 b1 (by omega)
  rw [orI_nat (by omega) (by omega), orI_nat b1 (by omega), orI_nat b2 (by omega)]
  have : (n ||| m ||| k ||| j = 0) ↔ n = 0 ∧ m = 0 ∧ k = 0 ∧ j = 0 := by
    rw [Nat.or_eq_zero_iff, Nat.or_eq_zero_iff, Nat.or_eq_zero_iff]
    constructor
    · rintro ⟨⟨⟨h1, h2⟩, h3⟩, h4⟩; exact ⟨h1, h2, h3, h4⟩
    · rintro ⟨h1, h2, h3, h4⟩; exact ⟨⟨⟨h1, h2⟩, h3⟩, h4⟩
  omega
theorem c59 {t : Sl} {l : List DProc} {w : World} (h : QAt w t l) (hrng : ∀ x, x ∈ l → Rng x) : CallW Try.prog 59 #[.agg #[.slice t.a t.len t.cap]] w (KPr l w) := by
  refine go59 ?_
  unfold W59
  have htl := h.tl
  have hfew := h.few
  have hs := SH.start w
  refine hs.alloc (fun w1 hs e1 n1 => ?_)
  have h1 := h.ext hs.ext
  refine ⟨t, hs.cell 0 rfl rfl, ?_⟩
  refine join_or_ex t (hs.cell 0 rfl rfl) ?_
  refine BIf.of (fun hb => KPr.no (fun hh => ?_) hs.ext) (fun hb => ?_)
  · have := hh.len
    simp only [Bool.or_eq_true, decide_eq_true_eq] at hb
    omega
  simp only [Bool.or_eq_false_iff, decide_eq_false_iff_not] at hb
  refine ⟨t, hs.cell 0 rfl rfl, ?_⟩
  refine LoopW.m2 (fun (last i : Int) w' => ∃ m : Nat, i = m ∧ m ≤ l.length ∧ (m = 0 → last = 0) ∧ (∀ z, 0 < m → l[m - 1]? = some z → last = z.Id) ∧ (∀ (j : Nat) x, j < m → l[j]? = some x → OneP l j x ∧ (0 < j → livesP l x.Parent = true) ∧ (j = 0 → x.Id = 1 ∧ x.Parent = 0 ∧ x.State ≠ 3)) ∧ SH w w' [BS w.heap.size t]) (fun _ (i : Int) _ => (l.length - i).toNat) ⟨0, rfl, by omega, fun _ => rfl, (fun z hz => absurd hz (Nat.lt_irrefl _)), (fun j x hj => absurd hj (Nat.not_lt_zero _)), hs⟩ ?_
  clear hs
  rintro (last : Int) (i : Int) w10 ⟨m, rfl, hm, hl0, hlz, hall, hs⟩ J hJ
  refine BIf.dec (fun hlt => ?_) (fun hge => ?_)
  · have hget : l[m]? = some l[m] := List.getElem?_eq_getElem (by omega)
    have hxr := hrng _ (List.mem_of_getElem? hget)
    generalize l[m] = x at *
    obtain ⟨q, hq, hc⟩ := (h.ext hs.ext).pr hget
    simp only [Int.toNat_natCast]
    rw [w64 (n := (m : Int) + 1) (by omega) (by omega)]
    refine ⟨by omega, hlt, q, hq, _, hc 0 _ rfl, _, hc 1 _ rfl, _, hc 2 _ rfl, _, hc 3 _ rfl, _, hc 4 _ rfl, _, hc 5 _ rfl, _, hc 6 _ rfl, _, hc 7 _ rfl, _, hc 8 _ rfl, _, hc 9 _ rfl, ?_⟩
    refine hs.alloc (fun w22 hs e22 n22 => ?_)
    refine hs.put 0 rfl rfl rfl (fun w23 hs n23 => ?_)
    have h := h.ext hs.ext
    have hlast : last < x.Id ↔ (1 ≤ x.Id ∧ ∀ z, 0 < m → l[m - 1]? = some z → z.Id < x.Id) := by
      rcases Nat.eq_zero_or_pos m with rfl | hp
      · rw [hl0 rfl]
        exact ⟨fun hh => ⟨by omega, fun z hz => absurd hz (Nat.lt_irrefl _)⟩, fun hh => by omega⟩
      · have hgz : l[m - 1]? = some l[m - 1] := List.getElem?_eq_getElem (by omega)
        have h1 := (hall (m - 1) _ (by omega) hgz).1.1.id
        have h2 := hlz _ hp hgz
        constructor
        · intro hh
          exact ⟨by omega, fun z _ hz => by rw [hgz] at hz; cases hz; omega⟩
        · rintro ⟨_, hh⟩
          have := hh _ hp hgz
          omega
    refine ⟨_, hs.cell 0 rfl rfl, ?_⟩
    refine join_or_ex _ (hs.cell 0 rfl rfl) ?_
    refine join_or_ex _ (hs.cell 0 rfl rfl) ?_
    refine join_or_ex _ (hs.cell 0 rfl rfl) ?_
    refine join_or_ex _ (hs.cell 0 rfl rfl) ?_
    refine join_or_ex _ (hs.cell 0 rfl rfl) ?_
    refine join_or_ex _ (hs.cell 0 rfl rfl) ?_
    refine join_or_ex _ (hs.cell 0 rfl rfl) ?_
    refine join_or_ex _ (hs.cell 0 rfl rfl) ?_
    refine join_or_ex _ (hs.cell 0 rfl rfl) ?_
    refine JoinW.cut1 (fun (b : Bool) w' => (b = true ↔ ¬ (Num1 l m x ∧ Num2 x)) ∧ w' = w23) ?_ ?_
    · refine BIf.of (fun hbt => ⟨iff_of_true rfl (fun hh => ?_), rfl⟩) (fun hbf => ⟨_, hs.cell 0 rfl rfl, BIf.ne (fun hz => ⟨_, hs.cell 0 rfl rfl, ?_, rfl⟩) (fun hz => ⟨?_, rfl⟩)⟩)
      · obtain ⟨⟨g1, g2, g3, g4, g5, g6⟩, g7, g8, g9⟩ := hh
        have := hlast.2 ⟨g1, g3⟩
        simp only [Bool.or_eq_true, decide_eq_true_eq] at hbt
        omega
      · simp only [Bool.or_eq_false_iff, decide_eq_false_iff_not] at hbf
        have := hlast.1 (by omega)
        rw [bne_iff_ne]
        exact ⟨fun hh h => hh (h.2.2.2 hz), fun hh h0 => hh ⟨⟨this.1, by omega, this.2, by omega, by omega, by omega⟩, by omega, by omega, fun _ => h0⟩⟩
      · simp only [Bool.or_eq_false_iff, decide_eq_false_iff_not] at hbf
        have := hlast.1 (by omega)
        exact ⟨(fun hh => nomatch hh), fun hh => absurd ⟨⟨this.1, by omega, this.2, by omega, by omega, by omega⟩, by omega, by omega, fun e => absurd hz e⟩ hh⟩
    rintro (b : Bool) w54 ⟨hb1, rfl⟩
    refine BIf.of (fun hbt => KPr.no (fun hh => hb1.1 hbt ⟨(hh.one m x hget).num1, (hh.one m x hget).num2⟩) hs.ext) (fun hbf => ?_)
    have hn12 : Num1 l m x ∧ Num2 x := Classical.byContradiction (fun hn => by rw [hb1.2 hn] at hbf; cases hbf)
    obtain ⟨hn1, hn2⟩ := hn12
    refine ⟨_, hs.cell 0 rfl rfl, _, hs.cell 0 rfl rfl, ?_⟩
    refine JoinW.cut1 (fun (b : Bool) w' => (b = true ↔ ¬ (VS x.Pending ∧ SS x.Mask ∧ SS x.Ignored ∧ SS x.Caught)) ∧ w' = w54) ?_ ?_
    · refine BIf.ne (fun hne => ⟨iff_of_true rfl (fun hh => hne ((vs_mask hxr.p.1 hxr.p.2).2 hh.1)), rfl⟩) (fun heq => ⟨_, hs.cell 0 rfl rfl, _, hs.cell 0 rfl rfl, _, hs.cell 0 rfl rfl, ?_, rfl⟩)
      have hvp := (vs_mask hxr.p.1 hxr.p.2).1 heq
      rw [bne_iff_ne]
      exact ⟨fun hh g => hh ((ss_mask hxr.m hxr.i hxr.c).2 g.2), fun hh e => hh ⟨hvp, (ss_mask hxr.m hxr.i hxr.c).1 e⟩⟩
    rintro (b : Bool) w59 ⟨hb2, rfl⟩
    refine JoinW.cut1 (fun (b : Bool) w' => (b = true ↔ ¬ ((VS x.Pending ∧ SS x.Mask ∧ SS x.Ignored ∧ SS x.Caught) ∧ ∀ i, hasS x.Ignored i = true → hasS x.Caught i = false)) ∧ w' = w59) ?_ ?_
    · refine BIf.of (fun ht => ⟨iff_of_true rfl (fun hh => hb2.1 ht hh.1), rfl⟩) (fun hf => ⟨_, hs.cell 0 rfl rfl, _, hs.cell 0 rfl rfl, ?_, rfl⟩)
      have hv4 : VS x.Pending ∧ SS x.Mask ∧ SS x.Ignored ∧ SS x.Caught := Classical.byContradiction (fun hn => by rw [hb2.2 hn] at hf; cases hf)
      rw [bne_iff_ne, Ne, and_apart hv4.2.2.1.1 hv4.2.2.2.1]
      exact ⟨fun hh g => hh g.2, fun hh e => hh ⟨hv4, e⟩⟩
    rintro (b : Bool) w62 ⟨hb3, rfl⟩
    refine BIf.of (fun hbt => KPr.no (fun hh => hb3.1 hbt ?_) hs.ext) (fun hbf => ?_)
    · have := hh.ok x (List.mem_of_getElem? hget)
      exact ⟨⟨this.pend, this.mask, this.ign, this.cau⟩, this.apart⟩
    have hv5 : (VS x.Pending ∧ SS x.Mask ∧ SS x.Ignored ∧ SS x.Caught) ∧ ∀ i, hasS x.Ignored i = true → hasS x.Caught i = false := Classical.byContradiction (fun hn => by rw [hb3.2 hn] at hbf; cases hbf)
    obtain ⟨⟨s1, s2, s3, s4⟩, hap⟩ := hv5
    have hor := or_zero s1 s2.1 s3.1 s4.1
    refine ⟨_, hs.cell 0 rfl rfl, JoinW.cut1 (fun (b : Bool) w' => (b = true ↔ ¬ (x.State = 3 → x.Pending = 0 ∧ x.Mask = 0 ∧ x.Ignored = 0 ∧ x.Caught = 0)) ∧ w' = w62) ?_ ?_⟩
    · refine BIf.eq (fun hz => ⟨_, hs.cell 0 rfl rfl, _, hs.cell 0 rfl rfl, _, hs.cell 0 rfl rfl, _, hs.cell 0 rfl rfl, ?_, rfl⟩) (fun hz => ⟨⟨(fun hh => nomatch hh), fun hh => absurd (fun e => absurd e hz) hh⟩, rfl⟩)
      rw [bne_iff_ne, Ne, hor]
      exact ⟨fun hh g => hh (g hz), fun hh g => hh (fun _ => g)⟩
    rintro (b : Bool) w66 ⟨hb4, rfl⟩
    refine BIf.of (fun hbt => KPr.no (fun hh => hb4.1 hbt (hh.ok x (List.mem_of_getElem? hget)).zom) hs.ext) (fun hbf => ?_)
    have hzom : x.State = 3 → x.Pending = 0 ∧ x.Mask = 0 ∧ x.Ignored = 0 ∧ x.Caught = 0 := Classical.byContradiction (fun hn => by rw [hb4.2 hn] at hbf; cases hbf)
    have hone : OneP l m x := ⟨⟨⟨hn1.1, hn1.2.1⟩, hn1.2.2.2.1, hn1.2.2.2.2, hn2.1, hn2.2.1, hn2.2.2, s1, s2, s3, s4, hap, hzom⟩, hn1.2.2.1⟩
    have hnext : ∀ (P : (0 < m → livesP l x.Parent = true) ∧ (m = 0 → x.Id = 1 ∧ x.Parent = 0 ∧ x.State ≠ 3)), ∀ (j : Nat) y, j < m + 1 → l[j]? = some y → OneP l j y ∧ (0 < j → livesP l y.Parent = true) ∧ (j = 0 → y.Id = 1 ∧ y.Parent = 0 ∧ y.State ≠ 3) := fun P j y hj hy => by
      rcases Nat.lt_or_eq_of_le (Nat.le_of_lt_succ hj) with hlt | rfl
      · exact hall j y hlt hy
      · rw [hget] at hy; cases hy; exact ⟨hone, P.1, P.2⟩
    refine BIf.eq (fun hm0 => ?_) (fun hm0 => ?_)
    · obtain rfl : m = 0 := by omega
      have hhead : PInv l → x.Id = 1 ∧ x.Parent = 0 ∧ x.State ≠ 3 := fun hh => by
        obtain ⟨y, hy, g⟩ := hh.head
        rw [hget] at hy; cases hy; exact g
      refine ⟨_, hs.cell 0 rfl rfl, ?_⟩
      refine join_or_ex _ (hs.cell 0 rfl rfl) ?_
      refine join_or_ex _ (hs.cell 0 rfl rfl) ?_
      refine BIf.of (fun hbt => KPr.no (fun hh => ?_) hs.ext) (fun hbf => ?_)
      · obtain ⟨g1, g2, g3⟩ := hhead hh
        simp only [Bool.or_eq_true, bne_iff_ne, beq_iff_eq, ne_eq] at hbt
        omega
      · simp only [Bool.or_eq_false_iff, bne_eq_false_iff_eq, beq_eq_false_iff_ne, ne_eq] at hbf
        refine hJ _ _ _ ⟨1, rfl, by omega, (fun e => by omega), (fun z _ hz => ?_), hnext ⟨fun e => absurd e (Nat.lt_irrefl _), fun _ => ⟨hbf.1.1, hbf.2, hbf.1.2⟩⟩, hs.drop⟩ (by omega)
        rw [hget] at hz; cases hz; rfl
    · refine ⟨_, hs.cell 0 rfl rfl, (c104 (hs.cellP 1 rfl rfl) h).mono ?_⟩
      rintro _ w78 ⟨rfl, rfl⟩
      have hs := hs.drew
      have h := h.ext (ext_drew w78)
      refine ⟨_, rfl, JoinW.cut1 (fun (b : Bool) w' => (b = false → livesP l x.Parent = true) ∧ (PInv l → b = false) ∧ w' = w78.drew) ?_ ?_⟩
      · rcases ixP_find l x.Parent with ⟨g1, g2⟩ | ⟨j, y, g1, g2, g3⟩
        · rw [g1, ptr_none]
          refine BIf.t rfl ⟨(fun e => nomatch e), fun hh => ?_, rfl⟩
          obtain ⟨z, hz, _⟩ := livesP_iff.1 (hh.lives m x hget (by omega))
          rw [g2] at hz; cases hz
        · obtain ⟨p, hp, hcy⟩ := h.pr g2
          rw [g1, ptr_some hp]
          have hy := prOf_some g3
          refine BIf.f rfl ⟨_, rfl, _, hcy 0 _ rfl, _, hs.cell 0 rfl rfl, BIf.eq (fun he => ⟨(fun e => nomatch e), fun hh => ?_, rfl⟩) (fun he => ⟨_, rfl, _, hcy 4 _ rfl, ?_, ?_, rfl⟩)⟩
          · obtain ⟨r, hr⟩ := hh.rank
            have h1 : x.Id ≠ 1 := by have := hh.fill hget; omega
            have := hr x (List.mem_of_getElem? hget) h1
            rw [← hy.2, he] at this
            exact absurd this (Nat.lt_irrefl _)
          · intro e
            exact livesP_iff.2 ⟨y, g3, by simpa using e⟩
          · intro hh
            obtain ⟨z, hz, h3⟩ := livesP_iff.1 (hh.lives m x hget (by omega))
            rw [g3] at hz; cases hz
            simpa using h3
      · rintro (b : Bool) w82 ⟨hbl, hbi, rfl⟩
        refine BIf.of (fun hbt => KPr.no (fun hh => by rw [hbi hh] at hbt; cases hbt) hs.ext) (fun hbf => ?_)
        refine hJ _ _ _ ⟨m + 1, by omega, by omega, (fun e => by omega), (fun z _ hz => ?_), hnext ⟨fun _ => hbl hbf, fun e => by omega⟩, hs.drop⟩ (by omega)
        rw [Nat.add_sub_cancel, hget] at hz; cases hz; rfl
  · have hmm : m = l.length := by omega
    subst hmm
    have hone : ∀ (j : Nat) x, l[j]? = some x → OneP l j x ∧ (0 < j → livesP l x.Parent = true) ∧ (j = 0 → x.Id = 1 ∧ x.Parent = 0 ∧ x.State ≠ 3) := fun j x hx => hall j x (List.getElem?_eq_some_iff.1 hx).1 hx
    clear hJ J hall hlz hl0
    have hsrt : Srt DProc.Id l := srt_of (fun i y hy z h0 hz => (hone i y hy).1.2 z h0 hz)
    have hg0 : l[0]? = some l[0] := List.getElem?_eq_getElem (by omega)
    have h0head := (hone 0 _ hg0).2.2 rfl
    generalize l[0] = x0 at *
    refine ⟨t, hs.cell 0 rfl rfl, ?_⟩
    refine LoopW.m1 (fun (i : Int) w' => ∃ m : Nat, i = m ∧ m ≤ l.length ∧ (∀ (j : Nat) x, j < m → l[j]? = some x → reachP l 33 x.Id) ∧ SH w w' [BS w.heap.size t]) (fun (i : Int) _ => (l.length - i).toNat) ⟨0, rfl, by omega, (fun j x hj => absurd hj (Nat.not_lt_zero _)), hs⟩ ?_
    clear hs
    rintro (i : Int) w35 ⟨m, rfl, hm, hall, hs⟩ J hJ
    refine BIf.dec (fun hlt => ?_) (fun hge => ?_)
    · have hget : l[m]? = some l[m] := List.getElem?_eq_getElem (by omega)
      generalize l[m] = x at *
      obtain ⟨q, hq, hc⟩ := (h.ext hs.ext).pr hget
      simp only [Int.toNat_natCast]
      rw [w64 (n := (m : Int) + 1) (by omega) (by omega)]
      refine ⟨by omega, hlt, q, hq, _, hc 0 _ rfl, _, hc 1 _ rfl, _, hc 2 _ rfl, _, hc 3 _ rfl, _, hc 4 _ rfl, _, hc 5 _ rfl, _, hc 6 _ rfl, _, hc 7 _ rfl, _, hc 8 _ rfl, _, hc 9 _ rfl, ?_⟩
      refine hs.alloc (fun w123 hs e123 n123 => ?_)
      refine hs.put 0 rfl rfl rfl (fun w124 hs n124 => ?_)
      have h := h.ext hs.ext
      refine LoopW.m2 (fun (p : Option Addr) (n : Int) w' => ∃ (k : Nat) (y : DProc) (py : Addr), n = k ∧ k ≤ 33 ∧ p = some py ∧ y ∈ l ∧ w124.cell? (py.add 0) = some (.int .i64 y.Id) ∧ w124.cell? (py.add 1) = some (.int .i64 y.Parent) ∧ (reachP l 33 x.Id ↔ reachP l (33 - k) y.Id) ∧ w' = w124) (fun _ (n : Int) _ => (33 - n).toNat) ⟨0, x, _, rfl, by omega, rfl, List.mem_of_getElem? hget, hs.cellP 0 rfl rfl, hs.cellP 0 rfl rfl, Iff.rfl, rfl⟩ ?_
      rintro (p : Option Addr) (n : Int) w128 ⟨k, y, py, rfl, hk, rfl, hy, hy0, hy1, hrc, rfl⟩ J2 hJ2
      refine ⟨_, rfl, _, hy0, BIf.ne (fun hne => ?_) (fun heq => ?_)⟩
      · refine ⟨_, rfl, _, hy1, (c104 (hs.cellP 1 rfl rfl) h).mono ?_⟩
        rintro _ w134 ⟨rfl, rfl⟩
        have hpa : parP l y.Id = y.Parent := by
          unfold parP
          rw [show prOf l y.Id = some y from hsrt.find hy]
        rw [w64 (by omega) (by omega)]
        have hbad : k > 32 → ¬ PInv l := fun hk2 hh => by
          have := hrc.1 ((hh.okL (k := 33) (by have := hh.len; omega)).reach m x hget)
          rw [show 33 - k = 0 by omega] at this
          exact hne this
        refine ⟨_, rfl, ?_⟩
        refine join_or.2 ?_
        rcases ixP_find l y.Parent with ⟨g1, g2⟩ | ⟨j, z, g1, g2, g3⟩
        · rw [g1, ptr_none]
          refine BIf.t rfl (KPr.no (fun hh => ?_) hs.ext)
          obtain ⟨_, u, _, _, _, _, hu⟩ := hh.up hy hne
          rw [g2] at hu; cases hu
        · obtain ⟨pz, hpz, hcz⟩ := h.pr g2
          rw [g1, ptr_some hpz]
          rw [show (Option.isNone (some (pz.add (j * 10))) || decide ((k : Int) > 32)) = decide ((k : Int) > 32) from rfl]
          refine BIf.dec (fun hk2 => KPr.no (hbad (by omega)) hs.ext) (fun hk2 => ?_)
          refine hJ2 _ _ _ ⟨k + 1, z, _, by omega, by omega, rfl, List.mem_of_getElem? g2, hcz 0 _ rfl, hcz 1 _ rfl, ?_, rfl⟩ (by omega)
          rw [hrc, show 33 - k = (33 - (k + 1)) + 1 by omega]
          show (y.Id = 1 ∨ reachP l _ (parP l y.Id)) ↔ _
          rw [hpa, (prOf_some g3).2]
          exact ⟨fun hh => hh.resolve_left hne, .inr⟩
      · refine hJ _ _ ⟨m + 1, by omega, by omega, fun j z hj hz => ?_, hs.drop⟩ (by omega)
        rcases Nat.lt_or_eq_of_le (Nat.le_of_lt_succ hj) with hlt | rfl
        · exact hall j z hlt hz
        · rw [hget] at hz; cases hz
          refine hrc.2 ?_
          rw [heq]; exact reachP_one l _
    · exact ⟨true, rfl, iff_of_true rfl (POkL.inv (k := 33) ⟨by omega, fun j x hx => (hone j x hx).1, ⟨x0, hg0, h0head⟩, fun j x hx hj => (hone j x hx).2.1 hj, fun j x hx => hall j x (by have := (List.getElem?_eq_some_iff.1 hx).1; omega) hx⟩), hs.ext⟩
end Go.Proofs.Yteigefjiifihpaa

/- Processes, the program's side: send, gone, end. Conditions: none. -/
set_option linter.unusedVariables false
set_option linter.unusedSimpArgs false
namespace Go.Proofs.Yteigefjiifihpaa
open Go Go.Den
/-- What the program's state is: the cell at b holds the row. -/
abbrev PSt (b : Nat) (t : Sl) (l : List DProc) (F : List Asr) : List Asr := BS b t :: RP t l :: F
theorem s140 {w0 w : World} {F : List Asr} {b : Nat} {t : Sl} {l : List DProc} {i : Nat} {x : DProc} {sig : Nat} (h : SH w0 w (PSt b t l F)) (hx : l[i]? = some x) (hix : ixP l x.Id = (i : Int)) (ho : PrOk x) (hs1 : 1 ≤ sig) (hs2 : sig ≤ 15) (hf : l.length ≤ 1048576) :
    CallW Try.prog 140 #[.pointer (some ⟨b, 0, none⟩), .int .i64 x.Id, .int .i64 (sig : Int)] w (fun v w' => v = .tuple #[] ∧ SH w0 w' (PSt b t (sendF l i sig) F)) := by
  refine go140 ?_
  unfold W140
  have hil := (List.getElem?_eq_some_iff.1 hx).1
  obtain ⟨q, hqa⟩ := h.rowQ 1 rfl hx
  obtain ⟨v1, v2⟩ := pend_vs ho sig
  have hp := VS.small ho.pend
  have hi := VS.small ho.ign.1
  rw [sendF_at hx]
  refine (c104 (h.cellP 0 rfl rfl) (qatOf h 1 rfl hf)).mono ?_
  rintro _ w ⟨rfl, rfl⟩
  rw [hix, ptr_some hqa]
  refine ⟨_, rfl, JoinW.each (BIf.f rfl ⟨_, rfl, _, h.rdR 1 rfl hqa hx rfl, BIf.eq (fun hz => ⟨rfl, ?_⟩) (fun hz => ?_)⟩)⟩
  · unfold sendY
    rw [if_pos hz, ← set_at hx]
    exact h
  have hy : sendY sig x = ⟨x.Id, x.Parent, x.Group, x.User, if sig = 13 then 1 else x.State, x.Status, pend3 x sig, x.Mask, x.Ignored, x.Caught⟩ := by
    unfold sendY; rw [if_neg hz, pend_eq]
  rw [hy]
  have e12 : (4096 : Int) = ((2 ^ 12 : Nat) : Int) := rfl
  have e13 : (8192 : Int) = ((2 ^ 13 : Nat) : Int) := rfl
  rw [set_at hx] at h
  refine JoinW.cut0 (fun w' => SH w0 w' (PSt b t (l.set i ⟨x.Id, x.Parent, x.Group, x.User, if sig = 13 then 1 else x.State, x.Status, pend2 x sig, x.Mask, x.Ignored, x.Caught⟩) F)) ?_ ?_
  · refine BIf.eq (fun h13 => ?_) (fun h13 => ?_)
    · have hs13 : sig = 13 := by omega
      subst hs13
      refine ⟨_, rfl, ?_⟩
      refine h.setR 1 (⟨x.Id, x.Parent, x.Group, x.User, 1, x.Status, x.Pending, x.Mask, x.Ignored, x.Caught⟩ : DProc) rfl hqa hil (by show 4 < 10; omega) rfl (fun w16 h n16 => ?_)
      have hx2 : (l.set i (⟨x.Id, x.Parent, x.Group, x.User, 1, x.Status, x.Pending, x.Mask, x.Ignored, x.Caught⟩ : DProc))[i]? = some ⟨x.Id, x.Parent, x.Group, x.User, 1, x.Status, x.Pending, x.Mask, x.Ignored, x.Caught⟩ := List.getElem?_set_self hil
      refine ⟨_, rfl, _, h.rdR 1 rfl hqa hx2 rfl, _, rfl, ?_⟩
      exact h.setR 1 (⟨x.Id, x.Parent, x.Group, x.User, 1, x.Status, lessS x.Pending 12, x.Mask, x.Ignored, x.Caught⟩ : DProc) rfl hqa hil (by show 6 < 10; omega) (by rw [e12, less_bit hp.1 hp.2 (by omega)]; rfl) (fun w20 h n20 => h)
    · refine BIf.eq (fun h12 => ?_) (fun h12 => ?_)
      · have hs12 : sig = 12 := by omega
        subst hs12
        have hx2 : (l.set i x)[i]? = some x := List.getElem?_set_self hil
        refine ⟨_, rfl, _, h.rdR 1 rfl hqa hx2 rfl, _, rfl, ?_⟩
        exact h.setR 1 (⟨x.Id, x.Parent, x.Group, x.User, x.State, x.Status, lessS x.Pending 13, x.Mask, x.Ignored, x.Caught⟩ : DProc) rfl hqa hil (by show 6 < 10; omega) (by rw [e13, less_bit hp.1 hp.2 (by omega)]; rfl) (fun w20 h n20 => h)
      · have hp2 : pend2 x sig = x.Pending := by unfold pend2 pend1; rw [if_neg (show ¬ sig = 12 by omega), if_neg (show ¬ sig = 13 by omega)]
        rw [hp2, if_neg (show ¬ sig = 13 by omega)]
        exact h
  clear h
  intro w8 h
  have hx2 : (l.set i (⟨x.Id, x.Parent, x.Group, x.User, if sig = 13 then 1 else x.State, x.Status, pend2 x sig, x.Mask, x.Ignored, x.Caught⟩ : DProc))[i]? = some ⟨x.Id, x.Parent, x.Group, x.User, if sig = 13 then 1 else x.State, x.Status, pend2 x sig, x.Mask, x.Ignored, x.Caught⟩ := List.getElem?_set_self hil
  refine ⟨_, rfl, _, h.rdR 1 rfl hqa hx2 rfl, by omega, ?_⟩
  rw [has_one hi.1 hi.2 (by omega)]
  unfold pend3
  rcases hh : hasS x.Ignored sig with _ | _
  · refine BIf.t rfl ⟨_, rfl, _, h.drew.rdR 1 rfl hqa hx2 rfl, by omega, _, rfl, ?_⟩
    refine h.drew.setR 1 (⟨x.Id, x.Parent, x.Group, x.User, if sig = 13 then 1 else x.State, x.Status, withS (pend2 x sig) sig, x.Mask, x.Ignored, x.Caught⟩ : DProc) rfl hqa hil (by show 6 < 10; omega) (by rw [shlI_one (by omega), with_bit v2.1 (by have := v2.2.1; omega) (by omega)]; rfl) (fun w14 h n14 => ⟨rfl, h⟩)
  · exact BIf.f rfl ⟨rfl, h⟩
theorem s139 {w0 w : World} {F : List Asr} {b : Nat} {t : Sl} {l : List DProc} {id : Int} (h : SH w0 w (PSt b t l F)) (hf : l.length ≤ 1048576) :
    CallW Try.prog 139 #[.pointer (some ⟨b, 0, none⟩), .int .i64 id] w (fun v w' => v = .tuple #[] ∧ ∃ t', SH w0 w' (PSt b t' (l.filter (fun y => y.Id != id)) F)) := by
  refine go139 ?_
  unfold W139
  have htl := h.len 1 rfl
  rw [recs_len] at htl
  refine ⟨_, rfl, t, h.cellP 0 rfl rfl, ?_⟩
  have h : SH w0 w (RP ⟨none, 0, 0⟩ ((l.take 0).filter (fun y => y.Id != id)) :: PSt b t l F) := SH.nil h none 10
  refine LoopW.m2 (fun (s : Sl) (i : Int) w' => ∃ m : Nat, i = m ∧ m ≤ l.length ∧ SH w0 w' (RP s ((l.take m).filter (fun y => y.Id != id)) :: PSt b t l F)) (fun _ (i : Int) _ => (l.length - i).toNat) ⟨0, rfl, by omega, h⟩ ?_
  clear h
  rintro (s : Sl) (i : Int) w6 ⟨m, rfl, hmm, h⟩ J hJ
  refine BIf.dec (fun hlt => ?_) (fun hge => ?_)
  · have hget : l[m]? = some l[m] := List.getElem?_eq_getElem (by omega)
    obtain ⟨r, hra⟩ := h.rowQ 2 rfl hget
    have hlen := List.length_filter_le (fun y : DProc => y.Id != id) (l.take m)
    rw [List.length_take] at hlen
    have hfs : (l.take (m + 1)).filter (fun y : DProc => y.Id != id) = (l.take m).filter (fun y => y.Id != id) ++ (if (l[m].Id != id) = true then [l[m]] else []) := by
      rw [List.take_add_one, hget, List.filter_append]
      simp only [Option.toList_some, List.filter_cons, List.filter_nil]
    generalize l[m] = y at *
    simp only [Int.toNat_natCast]
    rw [w64 (n := (m : Int) + 1) (by omega) (by omega)]
    refine ⟨by omega, by omega, r, hra, _, h.rdR 2 rfl hra hget rfl, _, h.rdR 2 rfl hra hget rfl, _, h.rdR 2 rfl hra hget rfl, _, h.rdR 2 rfl hra hget rfl, _, h.rdR 2 rfl hra hget rfl, _, h.rdR 2 rfl hra hget rfl, _, h.rdR 2 rfl hra hget rfl, _, h.rdR 2 rfl hra hget rfl, _, h.rdR 2 rfl hra hget rfl, _, h.rdR 2 rfl hra hget rfl, ?_⟩
    refine h.alloc (fun w18 h e18 n18 => ?_)
    refine h.put 0 rfl rfl rfl (fun w19 h n19 => ?_)
    refine ⟨_, h.cell 0 rfl rfl, BIf.of (fun hc => ?_) (fun hc => ?_)⟩
    · refine ⟨_, h.cell 0 rfl rfl, _, h.cell 0 rfl rfl, _, h.cell 0 rfl rfl, _, h.cell 0 rfl rfl, _, h.cell 0 rfl rfl, _, h.cell 0 rfl rfl, _, h.cell 0 rfl rfl, _, h.cell 0 rfl rfl, _, h.cell 0 rfl rfl, _, h.cell 0 rfl rfl, ?_⟩
      refine LetW_iff.2 (SH.appendR1 (f := DProc.cells) (x := y) h.drop rfl rfl rfl (by decide) (by show _ * 80 ≤ _; omega) (plain_pr _) (fun l32 w33 h hl32 _ => ?_))
      rw [if_pos hc] at hfs
      exact hJ _ _ _ ⟨m + 1, by omega, by omega, by rw [hfs]; exact h⟩ (by omega)
    · rw [if_neg (by rw [hc]; decide), List.append_nil] at hfs
      exact hJ _ _ _ ⟨m + 1, by omega, by omega, by rw [hfs]; exact h.drop⟩ (by omega)
  · rw [show m = l.length by omega, List.take_length] at h
    refine ⟨_, rfl, ?_⟩
    refine h.setVP 1 rfl rfl (fun w35 h n35 => ⟨rfl, s, ?_⟩)
    exact ((h.dropAt 2).front (n := 1) rfl)
theorem s138 {w0 w : World} {F : List Asr} {b : Nat} {t : Sl} {l : List DProc} {i : Nat} {x : DProc} {status : Int} (h : SH w0 w (PSt b t l F)) (hv : PInv l) (hx : l[i]? = some x) (hx1 : x.Id ≠ 1) (hs : 0 ≤ status ∧ status ≤ 255) :
    CallW Try.prog 138 #[.pointer (some ⟨b, 0, none⟩), .int .i64 x.Id, .int .i64 status] w (fun v w' => v = .tuple #[] ∧ ∃ t', SH w0 w' (PSt b t' (endF l x.Id status) F)) := by
  refine go138 ?_
  unfold W138
  have hlen := hv.len
  have htl := h.len 1 rfl
  rw [recs_len] at htl
  have hid := (hv.ok x (List.mem_of_getElem? hx)).id
  have hid1 : 1 < x.Id := by omega
  refine ⟨_, rfl, t, h.cellP 0 rfl rfl, ?_⟩
  have h : SH w0 w (PSt b t ((l.take 0).map (reP x.Id) ++ l.drop 0) F) := h
  generalize hidd : x.Id = id at *
  refine LoopW.m2 (fun (b3 : Bool) (i : Int) w' => ∃ m : Nat, i = m ∧ m ≤ l.length ∧ b3 = (l.take m).any (fun x => x.Parent == id && x.State == 3) ∧ SH w0 w' (PSt b t ((l.take m).map (reP id) ++ l.drop m) F)) (fun _ (i : Int) _ => (l.length - i).toNat) ⟨0, rfl, by omega, rfl, h⟩ ?_
  clear h
  rintro (b3 : Bool) (i' : Int) w6 ⟨m, rfl, hm, rfl, h⟩ J hJ
  refine BIf.dec (fun hlt => ?_) (fun hge => ?_)
  · have hget : l[m]? = some l[m] := List.getElem?_eq_getElem (by omega)
    have hstep := any_step (fun x : DProc => x.Parent == id && x.State == 3) hget
    have hmg := mapTo_get (reP id) hget
    have hms := mapTo_set (reP id) hget
    generalize l[m] = y at *
    obtain ⟨q, hqa⟩ := h.rowQ 1 rfl hmg
    simp only [Int.toNat_natCast]
    rw [w64 (n := (m : Int) + 1) (by omega) (by omega)]
    refine ⟨_, rfl, t, h.cellP 0 rfl rfl, by omega, by omega, q, hqa, _, rfl, _, h.rdR 1 rfl hqa hmg rfl, BIf.eq (fun hpar => ?_) (fun hpar => ?_)⟩
    · have hre : reP id y = ⟨y.Id, 1, y.Group, y.User, y.State, y.Status, y.Pending, y.Mask, y.Ignored, y.Caught⟩ := by unfold reP; rw [if_pos hpar]
      refine ⟨_, rfl, ?_⟩
      rw [set_at hmg] at h
      refine h.setR 1 (reP id y) rfl hqa (by rw [mapTo_len]; omega) (by show 1 < 10; omega) (by rw [hre]; rfl) (fun w13 h n13 => ?_)
      rw [hms] at h
      have hmg2 : ((l.take (m + 1)).map (reP id) ++ l.drop (m + 1))[m]? = some (reP id y) := by rw [← hms]; exact List.getElem?_set_self (by rw [mapTo_len]; omega)
      refine JoinW.cut1 (fun (b3 : Bool) w' => b3 = (l.take (m + 1)).any (fun x => x.Parent == id && x.State == 3) ∧ w' = w13) ?_ ?_
      · rw [hstep, hpar]
        refine BIf.of (fun hb => ⟨by rw [hb]; rfl, rfl⟩) (fun hb => ⟨_, rfl, _, h.rdR 1 rfl hqa hmg2 rfl, ?_, rfl⟩)
        rw [hb, hre]; simp
      · rintro (b3 : Bool) w16 ⟨hb, rfl⟩
        exact hJ _ _ _ ⟨m + 1, by omega, by omega, hb, h⟩ (by omega)
    · have hre : reP id y = y := by unfold reP; rw [if_neg hpar]
      rw [hre] at hms
      rw [← set_at hmg] at hms
      refine hJ _ _ _ ⟨m + 1, by omega, by omega, ?_, by rw [← hms]; exact h⟩ (by omega)
      rw [hstep, show (y.Parent == id) = false by simpa using hpar]; simp
  · clear hJ J
    have hmm : m = l.length := by omega
    subst hmm
    rw [List.take_length, List.drop_length, List.append_nil] at h
    rw [List.take_length]
    obtain ⟨r1, r2⟩ := hv.reP hid1
    obtain ⟨g1, g2, g3⟩ := hv.endA hid1
    have glen := g1.len
    refine JoinW.cut0 (fun w' => SH w0 w' (PSt b t (endA l id) F)) ?_ ?_
    · unfold endA
      have hdk : l.any (fun x => x.Parent == id && x.State == 3) = deadKid l id := rfl
      rw [hdk]
      refine BIf.of (fun hb => ?_) (fun hb => ?_)
      · rw [if_pos hb]
        obtain ⟨x1, hx1', hid1', _⟩ := r1.head
        have hix := (r1.ix hx1').1
        have key := s140 (sig := 14) h hx1' hix (r1.ok _ (List.mem_of_getElem? hx1')) (by omega) (by omega) (by simp; omega)
        rw [hid1'] at key
        refine key.mono ?_
        rintro _ w50 ⟨rfl, h⟩
        exact ⟨rfl, h⟩
      · rw [if_neg (by rw [hb]; decide)]
        exact h
    clear h
    intro w20 h
    have hlen2 : (endA l id).length ≤ 1048576 := by omega
    obtain ⟨y, hy, hyid⟩ := g3 i x hx
    rw [hidd] at hyid
    obtain ⟨f1, f2⟩ := g1.ix hy
    rw [hyid] at f1 f2
    obtain ⟨j, u, hj, u1, u2, u3, u4⟩ := g1.up (List.mem_of_getElem? hy) (by omega)
    have hij : i ≠ j := by
      rintro rfl
      rw [hy] at hj; cases hj
      exact g2 y (List.mem_of_getElem? hy) (by omega)
    have hfin : endF l id status = if hasS u.Ignored 14 = true then (endA l id).filter (fun y => y.Id != id) else sendF ((endA l id).set i (zomb y status)) j 14 := by
      unfold endF endB
      rw [f2]; dsimp only; rw [u4]; dsimp only; rw [f1, u3, Int.toNat_natCast, Int.toNat_natCast]
    have hil := (List.getElem?_eq_some_iff.1 hy).1
    have huo := g1.ok u (List.mem_of_getElem? hj)
    have hz := g1.zomb hy (by omega) (fun z hz => by rw [hyid]; exact g2 z hz) hs
    rw [hfin]
    clear hfin g3
    generalize endA l id = l' at *
    obtain ⟨q, hqa⟩ := h.rowQ 1 rfl hy
    refine (c104 (h.cellP 0 rfl rfl) (qatOf h 1 rfl hlen2)).mono ?_
    rintro _ w22 ⟨rfl, rfl⟩
    rw [f1, ptr_some hqa]
    refine ⟨_, rfl, _, rfl, _, h.rdR 1 rfl hqa hy rfl, (c104 (h.cellP 0 rfl rfl) (qatOf h 1 rfl hlen2)).mono ?_⟩
    rintro _ w27 ⟨rfl, rfl⟩
    rw [u3, ptr_some hqa]
    refine ⟨_, rfl, _, rfl, _, h.rdR 1 rfl hqa hj rfl, by decide, ?_⟩
    rw [show (14 : Int) = ((14 : Nat) : Int) from rfl, has_one (VS.small huo.ign.1).1 (VS.small huo.ign.1).2 (by omega)]
    rcases hh : hasS u.Ignored 14 with _ | _
    · refine BIf.f rfl ⟨_, rfl, ?_⟩
      rw [if_neg (by decide)]
      rw [set_at hy] at h
      refine h.setR 1 (⟨y.Id, y.Parent, y.Group, y.User, 3, y.Status, y.Pending, y.Mask, y.Ignored, y.Caught⟩ : DProc) rfl hqa hil (by show 4 < 10; omega) rfl (fun w34 h n34 => ⟨_, rfl, ?_⟩)
      refine h.setR 1 (⟨y.Id, y.Parent, y.Group, y.User, 3, status, y.Pending, y.Mask, y.Ignored, y.Caught⟩ : DProc) rfl hqa hil (by show 5 < 10; omega) rfl (fun w36 h n36 => ⟨_, rfl, ?_⟩)
      refine h.setR 1 (⟨y.Id, y.Parent, y.Group, y.User, 3, status, 0, y.Mask, y.Ignored, y.Caught⟩ : DProc) rfl hqa hil (by show 6 < 10; omega) rfl (fun w38 h n38 => ⟨_, rfl, ?_⟩)
      refine h.setR 1 (⟨y.Id, y.Parent, y.Group, y.User, 3, status, 0, 0, y.Ignored, y.Caught⟩ : DProc) rfl hqa hil (by show 7 < 10; omega) rfl (fun w40 h n40 => ⟨_, rfl, ?_⟩)
      refine h.setR 1 (⟨y.Id, y.Parent, y.Group, y.User, 3, status, 0, 0, 0, y.Caught⟩ : DProc) rfl hqa hil (by show 8 < 10; omega) rfl (fun w42 h n42 => ⟨_, rfl, ?_⟩)
      refine h.setR 1 (zomb y status) rfl hqa hil (by show 9 < 10; omega) rfl (fun w44 h n44 => ⟨_, rfl, ?_⟩)
      have hj2 : (l'.set i (zomb y status))[j]? = some u := by rw [List.getElem?_set_ne hij]; exact hj
      refine ⟨_, h.rdR 1 rfl hqa hj2 rfl, (s140 (i := j) (sig := 14) h hj2 (hz.ix hj2).1 huo (by omega) (by omega) (by simp; omega)).mono ?_⟩
      rintro _ w48 ⟨rfl, h⟩
      exact ⟨rfl, rfl, t, h⟩
    · refine BIf.t rfl ((s139 h hlen2).mono ?_)
      rintro _ w32 ⟨rfl, t2, h⟩
      rw [if_pos rfl]
      exact ⟨rfl, rfl, t2, h⟩
end Go.Proofs.Yteigefjiifihpaa

/- Processes, the program's side: what its numbers and lists come to; plain. Conditions: none. -/
set_option linter.unusedVariables false
set_option linter.unusedSimpArgs false
namespace Go.Proofs.Yteigefjiifihpaa
open Go Go.Den
theorem hasS_andNot {a b : Int} (ha : VS a) (hb : VS b) (j : Nat) : hasS (andNotI .i64 a b) j = (hasS a j && !hasS b j) ∧ 0 ≤ andNotI .i64 a b ∧ andNotI .i64 a b ≤ 65535 := by
  obtain ⟨n, rfl⟩ := Int.eq_ofNat_of_zero_le ha.1
  obtain ⟨m, rfl⟩ := Int.eq_ofNat_of_zero_le hb.1
  have h1 := ha.2.1
  have h2 := hb.2.1
  rw [andNotI_nat (by omega) (by omega)]
  have hl : ldiffN n m < 65536 := Nat.xor_lt_two_pow (n := 16) (show n < 2 ^ 16 by omega) (Nat.lt_of_le_of_lt Nat.and_le_left (show n < 2 ^ 16 by omega))
  refine ⟨?_, by omega, by omega⟩
  unfold hasS
  rw [Int.toNat_natCast, Int.toNat_natCast, Int.toNat_natCast, ldiffN_bit]
theorem vs_hard : VS 4608 := ⟨by decide, by decide, by decide⟩
theorem hard_bit {j : Nat} (hj : j < 16) : hasS 4608 j = (j == 9 || j == 12) := by
  have : ∀ j, j < 16 → hasS 4608 j = (j == 9 || j == 12) := by decide
  exact this j hj
theorem mask_hard {s : Int} (h : VS s) : andNotI .i64 s 4608 = lessS (lessS s 9) 12 := by
  have h9 := VS.less h (i := 9) (by omega)
  have h0 := VS.small h
  have h1 := VS.small h9
  refine vs_ext (hasS_andNot h vs_hard 0).2.1 (VS.less h9 (by omega)).1 (fun j => ?_)
  rw [(hasS_andNot h vs_hard j).1, (hasS_less h1.1 h1.2 (by omega) j).1, (hasS_less h0.1 h0.2 (by omega) j).1]
  rcases hj : hasS s j with _ | _
  · rfl
  · have := (h.bit hj).2
    rw [hard_bit (by omega)]
    by_cases e9 : j = 9
    · subst e9; rfl
    · by_cases e12 : j = 12
      · subst e12; rfl
      · have a1 : (j == 9) = false := by simpa using e9
        have a2 : (j == 12) = false := by simpa using e12
        have a3 : (9 != j) = true := by simp; omega
        have a4 : (12 != j) = true := by simp; omega
        rw [a1, a2, a3, a4]; rfl
theorem bit_512 (j : Nat) : hasS 512 j = (j == 9) := by
  unfold hasS
  rw [show (512 : Int).toNat = 2 ^ 9 from rfl, Nat.testBit_two_pow]
  by_cases h : 9 = j
  · subst h; rfl
  · rw [decide_eq_false h]
    symm; simp; omega
/-- What may be taken, as the program counts it. -/
def takeS (x : DProc) : Int := if x.State = 2 then andI .i64 (andNotI .i64 x.Pending x.Mask) 512 else andNotI .i64 x.Pending x.Mask
theorem takeS_bits {x : DProc} (h : PrOk x) (j : Nat) : hasS (takeS x) j = (hasS x.Pending j && !hasS x.Mask j && (x.State != 2 || j == 9)) ∧ 0 ≤ takeS x ∧ takeS x ≤ 65535 := by
  obtain ⟨b1, b2, b3⟩ := hasS_andNot h.pend h.mask.1 j
  unfold takeS
  by_cases hs : x.State = 2
  · rw [if_pos hs, show (x.State != 2) = false by simpa using hs]
    obtain ⟨n, hn⟩ := Int.eq_ofNat_of_zero_le b2
    rw [hn] at b1 b3 ⊢
    rw [show (512 : Int) = ((512 : Nat) : Int) from rfl, andI_nat (by omega) (by decide)]
    have hl : n &&& 512 ≤ n := Nat.and_le_left
    refine ⟨?_, by omega, by omega⟩
    have h5 := bit_512 j
    unfold hasS at b1 h5 ⊢
    rw [Int.toNat_natCast] at b1 ⊢
    rw [Nat.testBit_and, b1, Bool.false_or, ← h5]; rfl
  · rw [if_neg hs, show (x.State != 2) = true by simpa using hs]
    exact ⟨by rw [b1, Bool.true_or, Bool.and_true], b2, b3⟩
theorem zero_bits {s : Int} (h : 0 ≤ s) : s = 0 ↔ ∀ j, hasS s j = false := by
  constructor
  · rintro rfl j; exact has_zero j
  · intro hj
    exact vs_ext h (Int.le_refl 0) (fun j => by rw [hj j, has_zero j])
theorem leastS_zero {x : DProc} : ∀ (k s : Nat), 1 ≤ s → (leastS x k s = 0 ↔ ∀ j, s ≤ j → j < s + k → (hasS x.Pending j && !hasS x.Mask j) = false)
  | 0, s, hs => ⟨fun _ j h1 h2 => by omega, fun _ => rfl⟩
  | k + 1, s, hs => by
    unfold leastS
    by_cases h : hasS x.Pending s = true ∧ hasS x.Mask s = false
    · rw [if_pos h]
      refine ⟨fun e => by omega, fun hall => ?_⟩
      have := hall s (Nat.le_refl _) (by omega)
      rw [h.1, h.2] at this; cases this
    · rw [if_neg h, leastS_zero k (s + 1) (by omega)]
      have hs0 : (hasS x.Pending s && !hasS x.Mask s) = false := by
        rcases h1 : hasS x.Pending s with _ | _
        · rfl
        · rcases h2 : hasS x.Mask s with _ | _
          · exact absurd ⟨h1, h2⟩ h
          · rfl
      constructor
      · intro hall j h1 h2
        rcases Nat.lt_or_eq_of_le h1 with h3 | rfl
        · exact hall j h3 (by omega)
        · exact hs0
      · exact fun hall j h1 h2 => hall j (by omega) (by omega)
theorem takeS_zero {x : DProc} (h : PrOk x) : takeS x = 0 ↔ sigOf x = 0 := by
  rw [zero_bits (takeS_bits h 0).2.1]
  unfold sigOf
  by_cases h9 : hasS x.Pending 9 = true
  · rw [if_pos h9]
    refine ⟨fun hall => ?_, fun e => absurd e (by decide)⟩
    have := hall 9
    rw [(takeS_bits h 9).1, h9, h.mask.2.1] at this
    simp at this
  rw [if_neg h9]
  have h9' : hasS x.Pending 9 = false := by simpa using h9
  by_cases h2 : x.State = 2
  · rw [if_pos h2]
    refine iff_of_true (fun j => ?_) rfl
    rw [(takeS_bits h j).1, show (x.State != 2) = false by simpa using h2, Bool.false_or]
    by_cases hj : j = 9
    · subst hj; rw [h9']; rfl
    · rw [show (j == 9) = false by simpa using hj, Bool.and_false]
  · rw [if_neg h2, leastS_zero 15 1 (by omega)]
    have e2 : (x.State != 2) = true := by simpa using h2
    constructor
    · intro hall j _ _
      have := hall j
      rw [(takeS_bits h j).1, e2, Bool.true_or, Bool.and_true] at this
      exact this
    · intro hall j
      rw [(takeS_bits h j).1, e2, Bool.true_or, Bool.and_true]
      rcases hj : hasS x.Pending j with _ | _
      · rfl
      · have := h.pend.bit hj
        have := hall j (by omega) (by omega)
        rw [hj] at this
        exact this
theorem takeS_nine {x : DProc} (h : PrOk x) : hasS (takeS x) 9 = hasS x.Pending 9 := by
  rw [(takeS_bits h 9).1, h.mask.2.1]; simp
/-- Sent to those whose numbers are told. -/
def sendS (sg : Nat) (ids : List Int) (l : List DProc) : List DProc := l.map (fun y => if y.Id ∈ ids then sendY sg y else y)
theorem sendS_sim {l : List DProc} (h : PInv l) {sg : Nat} (h1 : 1 ≤ sg) (h2 : sg ≤ 15) (ids : List Int) : PInv (sendS sg ids l) := by
  refine h.sim (PSim.map (fun z hz => ?_))
  split
  · exact sendY_ok (h.ok z hz) h1 h2
  · exact ⟨rfl, rfl, Iff.rfl, h.ok z hz⟩
theorem sendS_step {l : List DProc} (h : PInv l) {sg : Nat} {ids : List Int} {j : Nat} {z : DProc} (hz : l[j]? = some z) (hn : z.Id ∉ ids) : (sendS sg ids l)[j]? = some z ∧ sendF (sendS sg ids l) j sg = sendS sg (ids ++ [z.Id]) l := by
  have hg : (sendS sg ids l)[j]? = some z := by
    unfold sendS
    rw [List.getElem?_map, hz]
    simp only [Option.map_some, if_neg hn]
  refine ⟨hg, ?_⟩
  rw [sendF_at hg]
  refine List.ext_getElem? (fun i => ?_)
  by_cases hij : j = i
  · subst hij
    rw [List.getElem?_set_self (List.getElem?_eq_some_iff.1 hg).1]
    unfold sendS
    rw [List.getElem?_map, hz]
    simp
  · rw [List.getElem?_set_ne hij]
    unfold sendS
    rw [List.getElem?_map, List.getElem?_map]
    rcases hi : l[i]? with _ | y
    · rfl
    · simp only [Option.map_some]
      have hne : y.Id ≠ z.Id := fun e => by
        rcases Nat.lt_trichotomy i j with hlt | heq | hgt
        · have := h.srt.lt hi hz hlt; omega
        · exact hij heq.symm
        · have := h.srt.lt hz hi hgt; omega
      congr 1
      by_cases hy : y.Id ∈ ids
      · rw [if_pos hy, if_pos (List.mem_append.2 (.inl hy))]
      · rw [if_neg hy, if_neg (by simp [hy, hne])]
theorem sendS_nil (l : List DProc) (sg : Nat) : sendS sg [] l = l := by unfold sendS; simp
theorem sendS_all {l : List DProc} (h : PInv l) {me : DProc} {to_ : Int} {sg : Nat} (hp : (sg : Int) > 0) : sendS sg ((l.filter (hit me to_)).map DProc.Id) l = l.map (killX me to_ sg) := by
  unfold sendS
  refine List.map_congr_left (fun y hy => ?_)
  unfold killX
  have hiff : y.Id ∈ (l.filter (hit me to_)).map DProc.Id ↔ hit me to_ y = true := by
    constructor
    · intro hm
      obtain ⟨z, hz, he⟩ := List.mem_map.1 hm
      obtain ⟨h1, h2⟩ := List.mem_filter.1 hz
      rw [← h.srt.uniq h1 hy he]; exact h2
    · exact fun hh => List.mem_map.2 ⟨y, List.mem_filter.2 ⟨hy, hh⟩, rfl⟩
  by_cases hh : hit me to_ y = true
  · rw [if_pos (hiff.2 hh), if_pos ⟨hp, hh⟩, Int.toNat_natCast]
  · rw [if_neg (fun e => hh (hiff.1 e)), if_neg (fun e => hh e.2)]
theorem hits_nodup {l : List DProc} (h : PInv l) (p : DProc → Bool) : ((l.filter p).map DProc.Id).Nodup := (h.srt.filter p).nodup
theorem filter_step {α : Type} (p : α → Bool) {l : List α} {m : Nat} {x : α} (hx : l[m]? = some x) : (l.take (m + 1)).filter p = (l.take m).filter p ++ (if p x = true then [x] else []) := by
  rw [List.take_add_one, hx, List.filter_append]
  simp only [Option.toList_some, List.filter_cons, List.filter_nil]
end Go.Proofs.Yteigefjiifihpaa
