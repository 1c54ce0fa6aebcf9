/- Part 4 of 6: plain readings of code, rules for them, and a proof over them, joined by a program. Conditions: none. -/
import Derived.Test.YteigefjiifihpaaShee3
import Derived.Test.YteigefjiifihpaaProg
/- The plainer reading of functions of the program, each held against its code. Conditions: none. -/
set_option linter.unusedVariables false
set_option maxRecDepth 100000
namespace Go.Proofs.Yteigefjiifihpaa
open Go Go.Den
/- loop.example/g00008/spec.l11Exit -/
def an109 : Ann := (.seq .leaf (.seq .leaf (.seq (.draw [0, 0, 2, 0, 14, 31, 0, 64, 0, 256, 960, 2047, 4095, 8191] [1, 2, 3, 4, 6, 7, 8, 9, 10, 0, 5, 11, 12, 13]) (.seq (.seq .leaf (.in_ (.loop 52 [(6, .int .i64)] (.seq (.seq .leaf (.cond .leaf .leaf)) (.seq (.in_ (.seq .leaf (.seq (.reg [(3, none), (9, some (116, [(45, .bool)]))]) (.cond .leaf .leaf)))) .leaf))))) (.seq .leaf .leaf)))))
def W109 (a0_0 : Int) (a0_1 : Int) (a0_2 : Sl) (a0_3 : Sl) (a1 : Int) (w : World) (K : Value → World → Prop) : Prop :=
  LetW (w.alloc (.cells #[.int .i64 a0_0, .int .i64 a0_1, .slice a0_2.a a0_2.len a0_2.cap, .slice a0_3.a a0_3.len a0_3.cap] 43)) fun w1 => LetW (w1.alloc (.cells #[.int .i64 0, .int .i64 0, .slice none 0 0, .slice none 0 0] 43)) fun w2 => ∃ l3 : Sl, w2.cell? ⟨w.heap.size, 2, none⟩ = some (.slice l3.a l3.len l3.cap) ∧ 0 ≤ (a1 : Int) ∧ (a1 : Int) < ((l3.len : Nat) : Int) ∧ ∃ q4 : Addr, (l3.a : Option Addr) = some q4 ∧ ∃ n5 : Int, w2.cell? ((q4.add (Int.toNat a1 * 8)).add 0) = some (.int .i64 n5) ∧ ∃ l6 : Sl, w2.drew.cell? ⟨w.heap.size, 2, none⟩ = some (.slice l6.a l6.len l6.cap) ∧ 0 ≤ (a1 : Int) ∧ (a1 : Int) ≤ ((l6.cap : Nat) : Int) ∧ ∃ l7 : Sl, w2.drew.cell? ⟨w.heap.size, 2, none⟩ = some (.slice l7.a l7.len l7.cap) ∧ 0 ≤ (IntKind.wrap .i64 (a1 + 1) : Int) ∧ (IntKind.wrap .i64 (a1 + 1) : Int) ≤ ((l7.len : Nat) : Int) ∧ LetW (w2.drew.alloc (.cells #[] 61)) fun w8 => (∃ l9 : Sl, w8.cell? ⟨w.heap.size, 2, none⟩ = some (.slice l9.a l9.len l9.cap) ∧ (.slice l9.a l9.len l9.cap : Value) = (.slice l7.a l7.len l7.cap : Value)) ∧ (∃ l10 : Sl, w8.cell? ⟨w.heap.size, 2, none⟩ = some (.slice l10.a l10.len l10.cap) ∧ (.slice l10.a l10.len l10.cap : Value) = (.slice l6.a l6.len l6.cap : Value)) ∧ AppendW 61 ti61 ⟨some ⟨w2.drew.heap.size, 0, none⟩, 0, 0⟩ ⟨cutA l6.a l6.cap (Int.toNat 0) 8, Int.toNat a1 - Int.toNat 0, l6.cap - Int.toNat 0⟩ w8 fun l11 w12 => (∃ l13 : Sl, w12.cell? ⟨w.heap.size, 2, none⟩ = some (.slice l13.a l13.len l13.cap) ∧ (.slice l13.a l13.len l13.cap : Value) = (.slice l7.a l7.len l7.cap : Value)) ∧ AppendW 61 ti61 l11 ⟨cutA l7.a l7.cap (Int.toNat (IntKind.wrap .i64 (a1 + 1))) 8, Int.toNat ((l7.len : Nat) : Int) - Int.toNat (IntKind.wrap .i64 (a1 + 1)), l7.cap - Int.toNat (IntKind.wrap .i64 (a1 + 1))⟩ w12 fun l14 w15 => May w15 ⟨w.heap.size, 2, none⟩ ∧ LetW (w15.setCell ⟨w.heap.size, 2, none⟩ (.slice l14.a l14.len l14.cap)) fun w16 => LoopW [.int .i64] (fun J18 => fun (n17 : Int) w19 => BIf (decide ((n17 : Int) < 16)) (∃ n20 : Int, w19.cell? ⟨w.heap.size, 0, none⟩ = some (.int .i64 n20) ∧ ∃ n21 : Int, w19.cell? ⟨w.heap.size, 1, none⟩ = some (.int .i64 n21) ∧ ∃ l22 : Sl, w19.cell? ⟨w.heap.size, 2, none⟩ = some (.slice l22.a l22.len l22.cap) ∧ ∃ l23 : Sl, w19.cell? ⟨w.heap.size, 3, none⟩ = some (.slice l23.a l23.len l23.cap) ∧ CallW Try.prog 121 #[.agg #[.int .i64 n20, .int .i64 n21, .slice l22.a l22.len l22.cap, .slice l23.a l23.len l23.cap], .int .i64 n17] w19 fun v24 w25 => ∃ n26 : Int, v24 = .int .i64 n26 ∧ JoinW [.bool] (fun J28 => BIf (decide ((n26 : Int) ≥ 0)) (∃ l41 : Sl, w25.cell? ⟨w.heap.size, 3, none⟩ = some (.slice l41.a l41.len l41.cap) ∧ 0 ≤ (n26 : Int) ∧ (n26 : Int) < ((l41.len : Nat) : Int) ∧ ∃ q42 : Addr, (l41.a : Option Addr) = some q42 ∧ ∃ n43 : Int, w25.cell? ((q42.add (Int.toNat n26 * 2)).add 1) = some (.int .i64 n43) ∧ J28 ((n43 : Int) == n5) w25) (J28 false w25)) (fun (b27 : Bool) w29 => BIf b27 (∃ n30 : Int, w29.cell? ⟨w.heap.size, 0, none⟩ = some (.int .i64 n30) ∧ ∃ n31 : Int, w29.cell? ⟨w.heap.size, 1, none⟩ = some (.int .i64 n31) ∧ ∃ l32 : Sl, w29.cell? ⟨w.heap.size, 2, none⟩ = some (.slice l32.a l32.len l32.cap) ∧ ∃ l33 : Sl, w29.cell? ⟨w.heap.size, 3, none⟩ = some (.slice l33.a l33.len l33.cap) ∧ CallW Try.prog 148 #[.agg #[.int .i64 n30, .int .i64 n31, .slice l32.a l32.len l32.cap, .slice l33.a l33.len l33.cap], .int .i64 n17] w29 fun v34 w35 => ∃ n36 : Int, ∃ n37 : Int, ∃ l38 : Sl, ∃ l39 : Sl, v34 = .agg #[.int .i64 n36, .int .i64 n37, .slice l38.a l38.len l38.cap, .slice l39.a l39.len l39.cap] ∧ MayN w35 ⟨w.heap.size, 0, none⟩ 4 ∧ LetW (puts w35 ⟨w.heap.size, 0, none⟩ 0 [.int .i64 n36, .int .i64 n37, .slice l38.a l38.len l38.cap, .slice l39.a l39.len l39.cap]) fun w40 => J18 (IntKind.wrap .i64 (n17 + 1)) w40) (J18 (IntKind.wrap .i64 (n17 + 1)) w29))) (∃ n44 : Int, w19.cell? ⟨w.heap.size, 0, none⟩ = some (.int .i64 n44) ∧ ∃ n45 : Int, w19.cell? ⟨w.heap.size, 1, none⟩ = some (.int .i64 n45) ∧ ∃ l46 : Sl, w19.cell? ⟨w.heap.size, 2, none⟩ = some (.slice l46.a l46.len l46.cap) ∧ ∃ l47 : Sl, w19.cell? ⟨w.heap.size, 3, none⟩ = some (.slice l47.a l47.len l47.cap) ∧ MayN w19 ⟨w1.heap.size, 0, none⟩ 4 ∧ LetW (puts w19 ⟨w1.heap.size, 0, none⟩ 0 [.int .i64 n44, .int .i64 n45, .slice l46.a l46.len l46.cap, .slice l47.a l47.len l47.cap]) fun w48 => ∃ n49 : Int, w48.cell? ⟨w1.heap.size, 0, none⟩ = some (.int .i64 n49) ∧ ∃ n50 : Int, w48.cell? ⟨w1.heap.size, 1, none⟩ = some (.int .i64 n50) ∧ ∃ l51 : Sl, w48.cell? ⟨w1.heap.size, 2, none⟩ = some (.slice l51.a l51.len l51.cap) ∧ ∃ l52 : Sl, w48.cell? ⟨w1.heap.size, 3, none⟩ = some (.slice l52.a l52.len l52.cap) ∧ K (.agg #[.int .i64 n49, .int .i64 n50, .slice l51.a l51.len l51.cap, .slice l52.a l52.len l52.cap]) w48)) ((0 : Int), ()) w16
theorem eq109 (a0_0 : Int) (a0_1 : Int) (a0_2 : Sl) (a0_3 : Sl) (a1 : Int) (w : World) (K : Value → World → Prop) : denFn Try.prog tt Try.f109 an109 [.agg #[.int .i64 a0_0, .int .i64 a0_1, .slice a0_2.a a0_2.len a0_2.cap, .slice a0_3.a a0_3.len a0_3.cap], .int .i64 a1] w K = W109 a0_0 a0_1 a0_2 a0_3 a1 w K := by kernel_rfl
theorem ok109 : OkFn Try.prog 109 := ⟨Try.f109, Try.func109, by kernel_rfl, by kernel_rfl⟩
theorem go109 {a0_0 : Int} {a0_1 : Int} {a0_2 : Sl} {a0_3 : Sl} {a1 : Int} {w : World} {K : Value → World → Prop} (h : W109 a0_0 a0_1 a0_2 a0_3 a1 w K) : CallW Try.prog 109 #[.agg #[.int .i64 a0_0, .int .i64 a0_1, .slice a0_2.a a0_2.len a0_2.cap, .slice a0_3.a a0_3.len a0_3.cap], .int .i64 a1] w K :=
  .inl ⟨ok109, denFn_sound tt_ok mix Try.func109 (by kernel_rfl) (eq109 a0_0 a0_1 a0_2 a0_3 a1 w K ▸ h)⟩

/- loop.example/g00008/spec.l11Locking -/
def an110 : Ann := (.seq .leaf (.seq (.seq (.reg [(4, none), (4, some (234, [(16, .bool)]))]) (.cond (.seq .leaf .leaf) .leaf)) (.seq (.seq .leaf (.cond (.seq .leaf .leaf) .leaf)) (.seq (.seq .leaf (.cond (.seq .leaf .leaf) .leaf)) (.seq .leaf (.seq (.join 232 [(54, .bool)] (.draw [0, 1, 3, 7, 15, 7, 63, 127, 255, 7, 519, 2047, 4095] [0, 1, 2, 3, 4, 5, 6, 7, 8, 9, 10, 11, 12]) (.cond (.seq .leaf .leaf) .leaf)) (.seq .leaf .leaf)))))))
def W110 (a0_0 : Int) (a0_1 : Int) (a0_2 : Sl) (a0_3 : Sl) (a1 : Int) (a2_0 : Int) (a2_1 : Int) (a2_2 : Int) (w : World) (K : Value → World → Prop) : Prop :=
  LetW (w.alloc (.cells #[.int .i64 a0_0, .int .i64 a0_1, .slice a0_2.a a0_2.len a0_2.cap, .slice a0_3.a a0_3.len a0_3.cap] 43)) fun w1 => LetW (w1.alloc (.cells #[.int .i64 a2_0, .int .i64 a2_1, .int .i64 a2_2] 49)) fun w2 => LetW (w2.alloc (.cells #[.int .i64 0, .int .i64 0, .slice none 0 0, .slice none 0 0] 43)) fun w3 => LetW (w3.alloc (.cells #[.int .i64 0, .int .i64 0] 45)) fun w4 => ∃ n5 : Int, w4.cell? ⟨w1.heap.size, 2, none⟩ = some (.int .i64 n5) ∧ JoinW [.bool] (fun J7 => BIf (decide ((n5 : Int) < 0)) (J7 true w4) (∃ n104 : Int, w4.cell? ⟨w1.heap.size, 2, none⟩ = some (.int .i64 n104) ∧ J7 (decide ((n104 : Int) ≥ 16)) w4)) (fun (b6 : Bool) w8 => BIf b6 (∃ n9 : Int, w8.cell? ⟨w.heap.size, 0, none⟩ = some (.int .i64 n9) ∧ ∃ n10 : Int, w8.cell? ⟨w.heap.size, 1, none⟩ = some (.int .i64 n10) ∧ ∃ l11 : Sl, w8.cell? ⟨w.heap.size, 2, none⟩ = some (.slice l11.a l11.len l11.cap) ∧ ∃ l12 : Sl, w8.cell? ⟨w.heap.size, 3, none⟩ = some (.slice l12.a l12.len l12.cap) ∧ MayN w8 ⟨w2.heap.size, 0, none⟩ 4 ∧ LetW (puts w8 ⟨w2.heap.size, 0, none⟩ 0 [.int .i64 n9, .int .i64 n10, .slice l11.a l11.len l11.cap, .slice l12.a l12.len l12.cap]) fun w13 => MayN w13 ⟨w3.heap.size, 0, none⟩ 2 ∧ LetW (puts w13 ⟨w3.heap.size, 0, none⟩ 0 [.int .i64 1, .int .i64 0]) fun w14 => ∃ n15 : Int, w14.cell? ⟨w2.heap.size, 0, none⟩ = some (.int .i64 n15) ∧ ∃ n16 : Int, w14.cell? ⟨w2.heap.size, 1, none⟩ = some (.int .i64 n16) ∧ ∃ l17 : Sl, w14.cell? ⟨w2.heap.size, 2, none⟩ = some (.slice l17.a l17.len l17.cap) ∧ ∃ l18 : Sl, w14.cell? ⟨w2.heap.size, 3, none⟩ = some (.slice l18.a l18.len l18.cap) ∧ ∃ n19 : Int, w14.cell? ⟨w3.heap.size, 0, none⟩ = some (.int .i64 n19) ∧ ∃ n20 : Int, w14.cell? ⟨w3.heap.size, 1, none⟩ = some (.int .i64 n20) ∧ K (.tuple #[.agg #[.int .i64 n15, .int .i64 n16, .slice l17.a l17.len l17.cap, .slice l18.a l18.len l18.cap], .agg #[.int .i64 n19, .int .i64 n20]]) w14) (∃ l21 : Sl, w8.cell? ⟨w.heap.size, 2, none⟩ = some (.slice l21.a l21.len l21.cap) ∧ 0 ≤ (a1 : Int) ∧ (a1 : Int) < ((l21.len : Nat) : Int) ∧ ∃ q22 : Addr, (l21.a : Option Addr) = some q22 ∧ ∃ n23 : Int, w8.cell? ((q22.add (Int.toNat a1 * 8)).add 2) = some (.int .i64 n23) ∧ BIf ((n23 : Int) != 1) (∃ n24 : Int, w8.cell? ⟨w.heap.size, 0, none⟩ = some (.int .i64 n24) ∧ ∃ n25 : Int, w8.cell? ⟨w.heap.size, 1, none⟩ = some (.int .i64 n25) ∧ ∃ l26 : Sl, w8.cell? ⟨w.heap.size, 2, none⟩ = some (.slice l26.a l26.len l26.cap) ∧ ∃ l27 : Sl, w8.cell? ⟨w.heap.size, 3, none⟩ = some (.slice l27.a l27.len l27.cap) ∧ MayN w8 ⟨w2.heap.size, 0, none⟩ 4 ∧ LetW (puts w8 ⟨w2.heap.size, 0, none⟩ 0 [.int .i64 n24, .int .i64 n25, .slice l26.a l26.len l26.cap, .slice l27.a l27.len l27.cap]) fun w28 => MayN w28 ⟨w3.heap.size, 0, none⟩ 2 ∧ LetW (puts w28 ⟨w3.heap.size, 0, none⟩ 0 [.int .i64 21, .int .i64 0]) fun w29 => ∃ n30 : Int, w29.cell? ⟨w2.heap.size, 0, none⟩ = some (.int .i64 n30) ∧ ∃ n31 : Int, w29.cell? ⟨w2.heap.size, 1, none⟩ = some (.int .i64 n31) ∧ ∃ l32 : Sl, w29.cell? ⟨w2.heap.size, 2, none⟩ = some (.slice l32.a l32.len l32.cap) ∧ ∃ l33 : Sl, w29.cell? ⟨w2.heap.size, 3, none⟩ = some (.slice l33.a l33.len l33.cap) ∧ ∃ n34 : Int, w29.cell? ⟨w3.heap.size, 0, none⟩ = some (.int .i64 n34) ∧ ∃ n35 : Int, w29.cell? ⟨w3.heap.size, 1, none⟩ = some (.int .i64 n35) ∧ K (.tuple #[.agg #[.int .i64 n30, .int .i64 n31, .slice l32.a l32.len l32.cap, .slice l33.a l33.len l33.cap], .agg #[.int .i64 n34, .int .i64 n35]]) w29) (∃ n36 : Int, w8.cell? ⟨w1.heap.size, 0, none⟩ = some (.int .i64 n36) ∧ BIf ((n36 : Int) == 4) (∃ n37 : Int, w8.cell? ⟨w.heap.size, 0, none⟩ = some (.int .i64 n37) ∧ ∃ n38 : Int, w8.cell? ⟨w.heap.size, 1, none⟩ = some (.int .i64 n38) ∧ ∃ l39 : Sl, w8.cell? ⟨w.heap.size, 2, none⟩ = some (.slice l39.a l39.len l39.cap) ∧ ∃ l40 : Sl, w8.cell? ⟨w.heap.size, 3, none⟩ = some (.slice l40.a l40.len l40.cap) ∧ ∃ n41 : Int, w8.cell? ⟨w1.heap.size, 2, none⟩ = some (.int .i64 n41) ∧ CallW Try.prog 149 #[.agg #[.int .i64 n37, .int .i64 n38, .slice l39.a l39.len l39.cap, .slice l40.a l40.len l40.cap], .int .i64 a1, .int .i64 n41] w8 fun v42 w43 => ∃ n44 : Int, ∃ n45 : Int, ∃ l46 : Sl, ∃ l47 : Sl, ∃ n48 : Int, ∃ n49 : Int, v42 = .tuple #[.agg #[.int .i64 n44, .int .i64 n45, .slice l46.a l46.len l46.cap, .slice l47.a l47.len l47.cap], .agg #[.int .i64 n48, .int .i64 n49]] ∧ MayN w43 ⟨w2.heap.size, 0, none⟩ 4 ∧ LetW (puts w43 ⟨w2.heap.size, 0, none⟩ 0 [.int .i64 n44, .int .i64 n45, .slice l46.a l46.len l46.cap, .slice l47.a l47.len l47.cap]) fun w50 => MayN w50 ⟨w3.heap.size, 0, none⟩ 2 ∧ LetW (puts w50 ⟨w3.heap.size, 0, none⟩ 0 [.int .i64 n48, .int .i64 n49]) fun w51 => ∃ n52 : Int, w51.cell? ⟨w2.heap.size, 0, none⟩ = some (.int .i64 n52) ∧ ∃ n53 : Int, w51.cell? ⟨w2.heap.size, 1, none⟩ = some (.int .i64 n53) ∧ ∃ l54 : Sl, w51.cell? ⟨w2.heap.size, 2, none⟩ = some (.slice l54.a l54.len l54.cap) ∧ ∃ l55 : Sl, w51.cell? ⟨w2.heap.size, 3, none⟩ = some (.slice l55.a l55.len l55.cap) ∧ ∃ n56 : Int, w51.cell? ⟨w3.heap.size, 0, none⟩ = some (.int .i64 n56) ∧ ∃ n57 : Int, w51.cell? ⟨w3.heap.size, 1, none⟩ = some (.int .i64 n57) ∧ K (.tuple #[.agg #[.int .i64 n52, .int .i64 n53, .slice l54.a l54.len l54.cap, .slice l55.a l55.len l55.cap], .agg #[.int .i64 n56, .int .i64 n57]]) w51) (∃ n58 : Int, w8.cell? ⟨w.heap.size, 0, none⟩ = some (.int .i64 n58) ∧ ∃ n59 : Int, w8.cell? ⟨w.heap.size, 1, none⟩ = some (.int .i64 n59) ∧ ∃ l60 : Sl, w8.cell? ⟨w.heap.size, 2, none⟩ = some (.slice l60.a l60.len l60.cap) ∧ ∃ l61 : Sl, w8.cell? ⟨w.heap.size, 3, none⟩ = some (.slice l61.a l61.len l61.cap) ∧ ∃ n62 : Int, w8.cell? ⟨w1.heap.size, 2, none⟩ = some (.int .i64 n62) ∧ CallW Try.prog 121 #[.agg #[.int .i64 n58, .int .i64 n59, .slice l60.a l60.len l60.cap, .slice l61.a l61.len l61.cap], .int .i64 n62] w8 fun v63 w64 => ∃ n65 : Int, v63 = .int .i64 n65 ∧ JoinW [.bool] (fun J67 => BIf (decide ((n65 : Int) < 0)) (J67 true w64.drew) (∃ l100 : Sl, w64.drew.cell? ⟨w.heap.size, 3, none⟩ = some (.slice l100.a l100.len l100.cap) ∧ 0 ≤ (n65 : Int) ∧ (n65 : Int) < ((l100.len : Nat) : Int) ∧ ∃ q101 : Addr, (l100.a : Option Addr) = some q101 ∧ ∃ n102 : Int, w64.drew.cell? ((q101.add (Int.toNat n65 * 2)).add 1) = some (.int .i64 n102) ∧ ∃ n103 : Int, w64.drew.cell? ⟨w1.heap.size, 1, none⟩ = some (.int .i64 n103) ∧ J67 ((n102 : Int) != n103) w64.drew)) (fun (b66 : Bool) w68 => BIf b66 (∃ n69 : Int, w68.cell? ⟨w.heap.size, 0, none⟩ = some (.int .i64 n69) ∧ ∃ n70 : Int, w68.cell? ⟨w.heap.size, 1, none⟩ = some (.int .i64 n70) ∧ ∃ l71 : Sl, w68.cell? ⟨w.heap.size, 2, none⟩ = some (.slice l71.a l71.len l71.cap) ∧ ∃ l72 : Sl, w68.cell? ⟨w.heap.size, 3, none⟩ = some (.slice l72.a l72.len l72.cap) ∧ MayN w68 ⟨w2.heap.size, 0, none⟩ 4 ∧ LetW (puts w68 ⟨w2.heap.size, 0, none⟩ 0 [.int .i64 n69, .int .i64 n70, .slice l71.a l71.len l71.cap, .slice l72.a l72.len l72.cap]) fun w73 => MayN w73 ⟨w3.heap.size, 0, none⟩ 2 ∧ LetW (puts w73 ⟨w3.heap.size, 0, none⟩ 0 [.int .i64 2, .int .i64 0]) fun w74 => ∃ n75 : Int, w74.cell? ⟨w2.heap.size, 0, none⟩ = some (.int .i64 n75) ∧ ∃ n76 : Int, w74.cell? ⟨w2.heap.size, 1, none⟩ = some (.int .i64 n76) ∧ ∃ l77 : Sl, w74.cell? ⟨w2.heap.size, 2, none⟩ = some (.slice l77.a l77.len l77.cap) ∧ ∃ l78 : Sl, w74.cell? ⟨w2.heap.size, 3, none⟩ = some (.slice l78.a l78.len l78.cap) ∧ ∃ n79 : Int, w74.cell? ⟨w3.heap.size, 0, none⟩ = some (.int .i64 n79) ∧ ∃ n80 : Int, w74.cell? ⟨w3.heap.size, 1, none⟩ = some (.int .i64 n80) ∧ K (.tuple #[.agg #[.int .i64 n75, .int .i64 n76, .slice l77.a l77.len l77.cap, .slice l78.a l78.len l78.cap], .agg #[.int .i64 n79, .int .i64 n80]]) w74) (∃ n81 : Int, w68.cell? ⟨w.heap.size, 0, none⟩ = some (.int .i64 n81) ∧ ∃ n82 : Int, w68.cell? ⟨w.heap.size, 1, none⟩ = some (.int .i64 n82) ∧ ∃ l83 : Sl, w68.cell? ⟨w.heap.size, 2, none⟩ = some (.slice l83.a l83.len l83.cap) ∧ ∃ l84 : Sl, w68.cell? ⟨w.heap.size, 3, none⟩ = some (.slice l84.a l84.len l84.cap) ∧ ∃ n85 : Int, w68.cell? ⟨w1.heap.size, 2, none⟩ = some (.int .i64 n85) ∧ CallW Try.prog 148 #[.agg #[.int .i64 n81, .int .i64 n82, .slice l83.a l83.len l83.cap, .slice l84.a l84.len l84.cap], .int .i64 n85] w68 fun v86 w87 => ∃ n88 : Int, ∃ n89 : Int, ∃ l90 : Sl, ∃ l91 : Sl, v86 = .agg #[.int .i64 n88, .int .i64 n89, .slice l90.a l90.len l90.cap, .slice l91.a l91.len l91.cap] ∧ MayN w87 ⟨w2.heap.size, 0, none⟩ 4 ∧ LetW (puts w87 ⟨w2.heap.size, 0, none⟩ 0 [.int .i64 n88, .int .i64 n89, .slice l90.a l90.len l90.cap, .slice l91.a l91.len l91.cap]) fun w92 => MayN w92 ⟨w3.heap.size, 0, none⟩ 2 ∧ LetW (puts w92 ⟨w3.heap.size, 0, none⟩ 0 [.int .i64 0, .int .i64 0]) fun w93 => ∃ n94 : Int, w93.cell? ⟨w2.heap.size, 0, none⟩ = some (.int .i64 n94) ∧ ∃ n95 : Int, w93.cell? ⟨w2.heap.size, 1, none⟩ = some (.int .i64 n95) ∧ ∃ l96 : Sl, w93.cell? ⟨w2.heap.size, 2, none⟩ = some (.slice l96.a l96.len l96.cap) ∧ ∃ l97 : Sl, w93.cell? ⟨w2.heap.size, 3, none⟩ = some (.slice l97.a l97.len l97.cap) ∧ ∃ n98 : Int, w93.cell? ⟨w3.heap.size, 0, none⟩ = some (.int .i64 n98) ∧ ∃ n99 : Int, w93.cell? ⟨w3.heap.size, 1, none⟩ = some (.int .i64 n99) ∧ K (.tuple #[.agg #[.int .i64 n94, .int .i64 n95, .slice l96.a l96.len l96.cap, .slice l97.a l97.len l97.cap], .agg #[.int .i64 n98, .int .i64 n99]]) w93))))))
theorem eq110 (a0_0 : Int) (a0_1 : Int) (a0_2 : Sl) (a0_3 : Sl) (a1 : Int) (a2_0 : Int) (a2_1 : Int) (a2_2 : Int) (w : World) (K : Value → World → Prop) : denFn Try.prog tt Try.f110 an110 [.agg #[.int .i64 a0_0, .int .i64 a0_1, .slice a0_2.a a0_2.len a0_2.cap, .slice a0_3.a a0_3.len a0_3.cap], .int .i64 a1, .agg #[.int .i64 a2_0, .int .i64 a2_1, .int .i64 a2_2]] w K = W110 a0_0 a0_1 a0_2 a0_3 a1 a2_0 a2_1 a2_2 w K := by kernel_rfl
theorem ok110 : OkFn Try.prog 110 := ⟨Try.f110, Try.func110, by kernel_rfl, by kernel_rfl⟩
theorem go110 {a0_0 : Int} {a0_1 : Int} {a0_2 : Sl} {a0_3 : Sl} {a1 : Int} {a2_0 : Int} {a2_1 : Int} {a2_2 : Int} {w : World} {K : Value → World → Prop} (h : W110 a0_0 a0_1 a0_2 a0_3 a1 a2_0 a2_1 a2_2 w K) : CallW Try.prog 110 #[.agg #[.int .i64 a0_0, .int .i64 a0_1, .slice a0_2.a a0_2.len a0_2.cap, .slice a0_3.a a0_3.len a0_3.cap], .int .i64 a1, .agg #[.int .i64 a2_0, .int .i64 a2_1, .int .i64 a2_2]] w K :=
  .inl ⟨ok110, denFn_sound tt_ok mix Try.func110 (by kernel_rfl) (eq110 a0_0 a0_1 a0_2 a0_3 a1 a2_0 a2_1 a2_2 w K ▸ h)⟩

/- loop.example/g00008/spec.l11Stand -/
def an111 : Ann := (.seq .leaf (.seq .leaf (.seq .leaf (.seq .leaf (.seq .leaf .leaf)))))
def W111 (a0_0 : Int) (a0_1 : Int) (a0_2 : Sl) (a0_3 : Sl) (a1 : Int) (a2 : Int) (w : World) (K : Value → World → Prop) : Prop :=
  LetW (w.alloc (.cells #[.int .i64 a0_0, .int .i64 a0_1, .slice a0_2.a a0_2.len a0_2.cap, .slice a0_3.a a0_3.len a0_3.cap] 43)) fun w1 => LetW (w1.alloc (.cells #[.int .i64 0, .int .i64 0, .slice none 0 0, .slice none 0 0] 43)) fun w2 => ∃ n3 : Int, w2.cell? ⟨w.heap.size, 1, none⟩ = some (.int .i64 n3) ∧ May w2 ⟨w.heap.size, 1, none⟩ ∧ LetW (w2.setCell ⟨w.heap.size, 1, none⟩ (.int .i64 (IntKind.wrap .i64 (n3 + 1)))) fun w4 => ∃ l5 : Sl, w4.cell? ⟨w.heap.size, 2, none⟩ = some (.slice l5.a l5.len l5.cap) ∧ 0 ≤ (a1 : Int) ∧ (a1 : Int) < ((l5.len : Nat) : Int) ∧ ∃ q6 : Addr, (l5.a : Option Addr) = some q6 ∧ ∃ n7 : Int, w4.cell? ((q6.add (Int.toNat a1 * 8)).add 0) = some (.int .i64 n7) ∧ ∃ n8 : Int, w4.cell? ((q6.add (Int.toNat a1 * 8)).add 1) = some (.int .i64 n8) ∧ ∃ n9 : Int, w4.cell? ((q6.add (Int.toNat a1 * 8)).add 2) = some (.int .i64 n9) ∧ ∃ n10 : Int, w4.cell? ((q6.add (Int.toNat a1 * 8)).add 3) = some (.int .i64 n10) ∧ ∃ n11 : Int, w4.cell? ((q6.add (Int.toNat a1 * 8)).add 4) = some (.int .i64 n11) ∧ ∃ n12 : Int, w4.cell? ((q6.add (Int.toNat a1 * 8)).add 5) = some (.int .i64 n12) ∧ ∃ n13 : Int, w4.cell? ((q6.add (Int.toNat a1 * 8)).add 6) = some (.int .i64 n13) ∧ ∃ n14 : Int, w4.cell? ((q6.add (Int.toNat a1 * 8)).add 7) = some (.int .i64 n14) ∧ LetW (w4.alloc (.cells #[.int .i64 0, .int .i64 0, .int .i64 0, .int .i64 0, .int .i64 0, .int .i64 0, .int .i64 0, .int .i64 0] 61)) fun w15 => MayN w15 ⟨w4.heap.size, 0, none⟩ 8 ∧ LetW (puts w15 ⟨w4.heap.size, 0, none⟩ 0 [.int .i64 n7, .int .i64 n8, .int .i64 n9, .int .i64 n10, .int .i64 n11, .int .i64 n12, .int .i64 n13, .int .i64 n14]) fun w16 => ∃ l17 : Sl, w16.cell? ⟨w.heap.size, 2, none⟩ = some (.slice l17.a l17.len l17.cap) ∧ ∃ n18 : Int, w16.cell? ⟨w4.heap.size, 0, none⟩ = some (.int .i64 n18) ∧ ∃ n19 : Int, w16.cell? ⟨w4.heap.size, 1, none⟩ = some (.int .i64 n19) ∧ ∃ n20 : Int, w16.cell? ⟨w.heap.size, 1, none⟩ = some (.int .i64 n20) ∧ 0 ≤ (a1 : Int) ∧ (a1 : Int) < ((l17.len : Nat) : Int) ∧ ∃ q21 : Addr, (l17.a : Option Addr) = some q21 ∧ MayN w16 (q21.add (Int.toNat a1 * 8)) 8 ∧ LetW (puts w16 (q21.add (Int.toNat a1 * 8)) 0 [.int .i64 n18, .int .i64 n19, .int .i64 1, .int .i64 n20, .int .i64 4, .int .i64 a2, .int .i64 0, .int .i64 (-1)]) fun w22 => ∃ n23 : Int, w22.cell? ⟨w.heap.size, 0, none⟩ = some (.int .i64 n23) ∧ ∃ n24 : Int, w22.cell? ⟨w.heap.size, 1, none⟩ = some (.int .i64 n24) ∧ ∃ l25 : Sl, w22.cell? ⟨w.heap.size, 2, none⟩ = some (.slice l25.a l25.len l25.cap) ∧ ∃ l26 : Sl, w22.cell? ⟨w.heap.size, 3, none⟩ = some (.slice l26.a l26.len l26.cap) ∧ MayN w22 ⟨w1.heap.size, 0, none⟩ 4 ∧ LetW (puts w22 ⟨w1.heap.size, 0, none⟩ 0 [.int .i64 n23, .int .i64 n24, .slice l25.a l25.len l25.cap, .slice l26.a l26.len l26.cap]) fun w27 => ∃ n28 : Int, w27.cell? ⟨w1.heap.size, 0, none⟩ = some (.int .i64 n28) ∧ ∃ n29 : Int, w27.cell? ⟨w1.heap.size, 1, none⟩ = some (.int .i64 n29) ∧ ∃ l30 : Sl, w27.cell? ⟨w1.heap.size, 2, none⟩ = some (.slice l30.a l30.len l30.cap) ∧ ∃ l31 : Sl, w27.cell? ⟨w1.heap.size, 3, none⟩ = some (.slice l31.a l31.len l31.cap) ∧ K (.agg #[.int .i64 n28, .int .i64 n29, .slice l30.a l30.len l30.cap, .slice l31.a l31.len l31.cap]) w27
theorem eq111 (a0_0 : Int) (a0_1 : Int) (a0_2 : Sl) (a0_3 : Sl) (a1 : Int) (a2 : Int) (w : World) (K : Value → World → Prop) : denFn Try.prog tt Try.f111 an111 [.agg #[.int .i64 a0_0, .int .i64 a0_1, .slice a0_2.a a0_2.len a0_2.cap, .slice a0_3.a a0_3.len a0_3.cap], .int .i64 a1, .int .i64 a2] w K = W111 a0_0 a0_1 a0_2 a0_3 a1 a2 w K := by kernel_rfl
theorem ok111 : OkFn Try.prog 111 := ⟨Try.f111, Try.func111, by kernel_rfl, by kernel_rfl⟩
theorem go111 {a0_0 : Int} {a0_1 : Int} {a0_2 : Sl} {a0_3 : Sl} {a1 : Int} {a2 : Int} {w : World} {K : Value → World → Prop} (h : W111 a0_0 a0_1 a0_2 a0_3 a1 a2 w K) : CallW Try.prog 111 #[.agg #[.int .i64 a0_0, .int .i64 a0_1, .slice a0_2.a a0_2.len a0_2.cap, .slice a0_3.a a0_3.len a0_3.cap], .int .i64 a1, .int .i64 a2] w K :=
  .inl ⟨ok111, denFn_sound tt_ok mix Try.func111 (by kernel_rfl) (eq111 a0_0 a0_1 a0_2 a0_3 a1 a2 w K ▸ h)⟩

/- (*loop.example/g00008/impl.Sched).step$1 -/
def an114 : Ann := (.seq .leaf (.seq .leaf .leaf))
def W114 (a0 : Int) (w : World) (K : Value → World → Prop) : Prop :=
  LetW (w.alloc (.cells #[.int .i64 0, .int .i64 0] 45)) fun w1 => MayN w1 ⟨w.heap.size, 0, none⟩ 2 ∧ LetW (puts w1 ⟨w.heap.size, 0, none⟩ 0 [.int .i64 a0, .int .i64 0]) fun w2 => ∃ n3 : Int, w2.cell? ⟨w.heap.size, 0, none⟩ = some (.int .i64 n3) ∧ ∃ n4 : Int, w2.cell? ⟨w.heap.size, 1, none⟩ = some (.int .i64 n4) ∧ K (.agg #[.int .i64 n3, .int .i64 n4]) w2
theorem eq114 (a0 : Int) (w : World) (K : Value → World → Prop) : denFn Try.prog tt Try.f114 an114 [.int .i64 a0] w K = W114 a0 w K := by kernel_rfl
theorem ok114 : OkFn Try.prog 114 := ⟨Try.f114, Try.func114, by kernel_rfl, by kernel_rfl⟩
theorem go114 {a0 : Int} {w : World} {K : Value → World → Prop} (h : W114 a0 w K) : CallW Try.prog 114 #[.int .i64 a0] w K :=
  .inl ⟨ok114, denFn_sound tt_ok mix Try.func114 (by kernel_rfl) (eq114 a0 w K ▸ h)⟩

/- (*loop.example/g00008/impl.Sched).stand -/
def an115 : Ann := (.seq .leaf (.draw [0, 0, 0, 0, 0, 0, 0, 64, 192, 448, 0, 1024, 3072, 7168, 16321, 32705, 65473, 131011, 262083, 524227, 1048519, 2097095, 4194247, 8388559, 16777167, 33554383, 67108831, 134217695, 268435423, 536870911, 1073741823, 2147483647] [0, 1, 2, 3, 4, 5, 6, 7, 8, 9, 10, 11, 12, 13, 14, 15, 16, 17, 18, 19, 20, 21, 22, 23, 24, 25, 26, 27, 28, 29, 30, 31]))
def W115 (a0 : Option Addr) (a1 : Option Addr) (w : World) (K : Value → World → Prop) : Prop :=
  ∃ p1 : Addr, (a0 : Option Addr) = some p1 ∧ ∃ n2 : Int, w.cell? (p1.add 1) = some (.int .i64 n2) ∧ ∃ p3 : Addr, (a0 : Option Addr) = some p3 ∧ May w (p3.add 1) ∧ LetW (w.setCell (p3.add 1) (.int .i64 (IntKind.wrap .i64 (n2 + 1)))) fun w4 => ∃ p5 : Addr, (a0 : Option Addr) = some p5 ∧ ∃ n6 : Int, w4.drew.cell? (p5.add 1) = some (.int .i64 n6) ∧ ∃ p7 : Addr, (a0 : Option Addr) = some p7 ∧ ∃ n8 : Int, w4.drew.cell? (p7.add 0) = some (.int .i64 n8) ∧ ∃ p9 : Addr, (a1 : Option Addr) = some p9 ∧ May w4.drew (p9.add 2) ∧ LetW (w4.drew.setCell (p9.add 2) (.int .i64 1)) fun w10 => ∃ p11 : Addr, (a1 : Option Addr) = some p11 ∧ May w10 (p11.add 3) ∧ LetW (w10.setCell (p11.add 3) (.int .i64 n6)) fun w12 => ∃ p13 : Addr, (a1 : Option Addr) = some p13 ∧ May w12 (p13.add 4) ∧ LetW (w12.setCell (p13.add 4) (.int .i64 4)) fun w14 => ∃ p15 : Addr, (a1 : Option Addr) = some p15 ∧ May w14 (p15.add 5) ∧ LetW (w14.setCell (p15.add 5) (.int .i64 n8)) fun w16 => ∃ p17 : Addr, (a1 : Option Addr) = some p17 ∧ May w16 (p17.add 7) ∧ LetW (w16.setCell (p17.add 7) (.int .i64 (-1))) fun w18 => ∃ p19 : Addr, (a1 : Option Addr) = some p19 ∧ May w18 (p19.add 6) ∧ LetW (w18.setCell (p19.add 6) (.int .i64 0)) fun w20 => K (.tuple #[]) w20
theorem eq115 (a0 : Option Addr) (a1 : Option Addr) (w : World) (K : Value → World → Prop) : denFn Try.prog tt Try.f115 an115 [.pointer a0, .pointer a1] w K = W115 a0 a1 w K := by kernel_rfl
theorem ok115 : OkFn Try.prog 115 := ⟨Try.f115, Try.func115, by kernel_rfl, by kernel_rfl⟩
theorem go115 {a0 : Option Addr} {a1 : Option Addr} {w : World} {K : Value → World → Prop} (h : W115 a0 a1 w K) : CallW Try.prog 115 #[.pointer a0, .pointer a1] w K :=
  .inl ⟨ok115, denFn_sound tt_ok mix Try.func115 (by kernel_rfl) (eq115 a0 a1 w K ▸ h)⟩

/- (*loop.example/g00008/impl.Sched).hand -/
def an116 : Ann := (.seq .leaf (.seq .leaf (.seq (.seq .leaf (.cond (.seq .leaf (.seq (.seq .leaf (.in_ (.loop 196617 [(5, .slice), (18, .int .i64)] (.seq .leaf (.seq (.cond .leaf .leaf) (.seq (.in_ (.seq .leaf (.seq .leaf (.cond .leaf .leaf)))) .leaf)))))) (.seq .leaf .leaf))) .leaf)) (.seq (.draw [0, 0, 3, 0, 8, 24, 56, 127, 255, 511] [0, 1, 3, 4, 5, 6, 2, 7, 8, 9]) .leaf))))
def W116 (a0 : Option Addr) (a1 : Int) (w : World) (K : Value → World → Prop) : Prop :=
  LetW (w.alloc (.cells #[.int .i64 a1] 2)) fun w1 => CallW Try.prog 124 #[.pointer a0, .func (.func 150) #[] #[.pointer (some ⟨w.heap.size, 0, none⟩)]] w1 fun v2 w3 => ∃ p4 : Option Addr, v2 = .pointer p4 ∧ BIf (Option.isNone p4) (∃ p5 : Addr, (a0 : Option Addr) = some p5 ∧ ∃ l6 : Sl, w3.cell? (p5.add 3) = some (.slice l6.a l6.len l6.cap) ∧ LoopW [.slice, .int .i64] (fun J9 => fun (l7 : Sl) (n8 : Int) w10 => BIf (decide ((n8 : Int) < ((l6.len : Nat) : Int))) (0 ≤ (n8 : Int) ∧ (n8 : Int) < ((l6.len : Nat) : Int) ∧ ∃ q11 : Addr, (l6.a : Option Addr) = some q11 ∧ ∃ n12 : Int, w10.cell? ((q11.add (Int.toNat n8 * 2)).add 0) = some (.int .i64 n12) ∧ ∃ n13 : Int, w10.cell? ((q11.add (Int.toNat n8 * 2)).add 1) = some (.int .i64 n13) ∧ LetW (w10.alloc (.cells #[.int .i64 0, .int .i64 0] 122)) fun w14 => MayN w14 ⟨w10.heap.size, 0, none⟩ 2 ∧ LetW (puts w14 ⟨w10.heap.size, 0, none⟩ 0 [.int .i64 n12, .int .i64 n13]) fun w15 => ∃ n16 : Int, w15.cell? ⟨w10.heap.size, 0, none⟩ = some (.int .i64 n16) ∧ ∃ n17 : Int, w15.cell? ⟨w.heap.size, 0, none⟩ = some (.int .i64 n17) ∧ BIf ((n16 : Int) != n17) (∃ n18 : Int, w15.cell? ⟨w10.heap.size, 0, none⟩ = some (.int .i64 n18) ∧ ∃ n19 : Int, w15.cell? ⟨w10.heap.size, 1, none⟩ = some (.int .i64 n19) ∧ LetW (w15.alloc (.cells #[.int .i64 n18, .int .i64 n19] 122)) fun w20 => AppendW 122 ti122 l7 ⟨some ⟨w15.heap.size, 0, none⟩, 1, 1⟩ w20 fun l21 w22 => J9 l21 (IntKind.wrap .i64 (n8 + 1)) w22) (J9 l7 (IntKind.wrap .i64 (n8 + 1)) w15)) (∃ p23 : Addr, (a0 : Option Addr) = some p23 ∧ May w10 (p23.add 3) ∧ LetW (w10.setCell (p23.add 3) (.slice l7.a l7.len l7.cap)) fun w24 => K (.tuple #[]) w24)) ((⟨none, 0, 0⟩ : Sl), ((0 : Int), ())) w3) (∃ n25 : Int, w3.drew.cell? ⟨w.heap.size, 0, none⟩ = some (.int .i64 n25) ∧ ∃ p26 : Addr, (p4 : Option Addr) = some p26 ∧ ∃ n27 : Int, w3.drew.cell? (p26.add 0) = some (.int .i64 n27) ∧ CallW Try.prog 83 #[.pointer a0, .int .i64 n25] w3.drew fun v28 w29 => ∃ p30 : Option Addr, v28 = .pointer p30 ∧ (∃ n31 : Int, w29.cell? (p26.add 0) = some (.int .i64 n31) ∧ (.int .i64 n31 : Value) = (.int .i64 n27 : Value)) ∧ ∃ p32 : Addr, (p30 : Option Addr) = some p32 ∧ May w29 (p32.add 1) ∧ LetW (w29.setCell (p32.add 1) (.int .i64 n27)) fun w33 => CallW Try.prog 115 #[.pointer a0, .pointer p4] w33 fun v34 w35 => v34 = .tuple #[] ∧ K (.tuple #[]) w35)
theorem eq116 (a0 : Option Addr) (a1 : Int) (w : World) (K : Value → World → Prop) : denFn Try.prog tt Try.f116 an116 [.pointer a0, .int .i64 a1] w K = W116 a0 a1 w K := by kernel_rfl
theorem ok116 : OkFn Try.prog 116 := ⟨Try.f116, Try.func116, by kernel_rfl, by kernel_rfl⟩
theorem go116 {a0 : Option Addr} {a1 : Int} {w : World} {K : Value → World → Prop} (h : W116 a0 a1 w K) : CallW Try.prog 116 #[.pointer a0, .int .i64 a1] w K :=
  .inl ⟨ok116, denFn_sound tt_ok mix Try.func116 (by kernel_rfl) (eq116 a0 a1 w K ▸ h)⟩

/- loop.example/g00008/spec.l11Circle -/
def an119 : Ann := (.seq .leaf (.seq .leaf (.seq (.seq .leaf (.in_ (.loop 1 [(3, .slice), (4, .int .i64)] (.seq (.seq .leaf (.cond .leaf .leaf)) (.seq (.in_ .leaf) .leaf))))) (.seq (.seq .leaf (.in_ (.loop 1 [(3, .slice), (5, .int .i64)] (.seq (.seq .leaf (.cond .leaf .leaf)) (.seq (.in_ .leaf) .leaf))))) (.seq (.seq .leaf (.in_ (.loop 1 [(3, .slice), (6, .int .i64)] (.seq (.seq .leaf (.cond .leaf .leaf)) (.seq (.in_ .leaf) .leaf))))) (.seq .leaf .leaf))))))
def W119 (a0 : Int) (w : World) (K : Value → World → Prop) : Prop :=
  LetW (w.alloc (.cells #[] 49)) fun w1 => LoopW [.slice, .int .i64] (fun J4 => fun (l2 : Sl) (n3 : Int) w5 => BIf (decide ((n3 : Int) < a0)) (LetW (w5.alloc (.cells #[.int .i64 1, .int .i64 0, .int .i64 n3] 49)) fun w6 => AppendW 49 ti49 l2 ⟨some ⟨w5.heap.size, 0, none⟩, 1, 1⟩ w6 fun l7 w8 => J4 l7 (IntKind.wrap .i64 (n3 + 1)) w8) (LoopW [.slice, .int .i64] (fun J11 => fun (l9 : Sl) (n10 : Int) w12 => BIf (decide ((n10 : Int) < a0)) (LetW (w12.alloc (.cells #[.int .i64 4, .int .i64 n10, .int .i64 n10] 49)) fun w13 => AppendW 49 ti49 l9 ⟨some ⟨w12.heap.size, 0, none⟩, 1, 1⟩ w13 fun l14 w15 => J11 l14 (IntKind.wrap .i64 (n10 + 1)) w15) (LoopW [.slice, .int .i64] (fun J18 => fun (l16 : Sl) (n17 : Int) w19 => BIf (decide ((n17 : Int) < a0)) ((a0 : Int) ≠ 0 ∧ LetW (w19.alloc (.cells #[.int .i64 4, .int .i64 n17, .int .i64 (Int.tmod (IntKind.wrap .i64 (n17 + 1)) a0)] 49)) fun w20 => AppendW 49 ti49 l16 ⟨some ⟨w19.heap.size, 0, none⟩, 1, 1⟩ w20 fun l21 w22 => J18 l21 (IntKind.wrap .i64 (n17 + 1)) w22) (K (.slice l16.a l16.len l16.cap) w19)) ((l9 : Sl), ((0 : Int), ())) w12)) ((l2 : Sl), ((0 : Int), ())) w5)) ((⟨some ⟨w.heap.size, 0, none⟩, 0, 0⟩ : Sl), ((0 : Int), ())) w1
theorem eq119 (a0 : Int) (w : World) (K : Value → World → Prop) : denFn Try.prog tt Try.f119 an119 [.int .i64 a0] w K = W119 a0 w K := by kernel_rfl
theorem ok119 : OkFn Try.prog 119 := ⟨Try.f119, Try.func119, by kernel_rfl, by kernel_rfl⟩
theorem go119 {a0 : Int} {w : World} {K : Value → World → Prop} (h : W119 a0 w K) : CallW Try.prog 119 #[.int .i64 a0] w K :=
  .inl ⟨ok119, denFn_sound tt_ok mix Try.func119 (by kernel_rfl) (eq119 a0 w K ▸ h)⟩

/- loop.example/g00008/spec.l1Byte -/
def an120 : Ann := (.seq .leaf (.seq .leaf (.seq (.draw [0, 1, 3, 7, 15, 0, 32, 96, 224, 480, 1023, 2047, 4095] [0, 1, 2, 3, 4, 5, 6, 7, 8, 9, 10, 11, 12]) (.seq (.seq (.draw [0, 1, 3, 7, 0, 16, 48, 112, 240, 511] [0, 1, 2, 3, 4, 5, 6, 7, 8, 9]) (.cond (.seq (.draw [0, 0, 2, 6, 14, 0, 32, 96, 224, 510, 1022, 2046, 4095, 8191, 16383] [0, 1, 2, 3, 4, 5, 6, 7, 8, 9, 10, 11, 12, 13, 14]) .leaf) .leaf)) (.seq .leaf .leaf)))))
def W120 (a0 : Option Addr) (w : World) (K : Value → World → Prop) : Prop :=
  ∃ p1 : Addr, (a0 : Option Addr) = some p1 ∧ ∃ n2 : Int, w.cell? (p1.add 2) = some (.int .i64 n2) ∧ ∃ p3 : Addr, (a0 : Option Addr) = some p3 ∧ May w (p3.add 2) ∧ LetW (w.setCell (p3.add 2) (.int .i64 (IntKind.wrap .i64 ((IntKind.wrap .i64 (n2 * 6364136223846793005)) + 1442695040888963407)))) fun w4 => ∃ p5 : Addr, (a0 : Option Addr) = some p5 ∧ ∃ n6 : Int, w4.drew.cell? (p5.add 2) = some (.int .i64 n6) ∧ 0 ≤ (33 : Int) ∧ ∃ p7 : Addr, (a0 : Option Addr) = some p7 ∧ ∃ n8 : Int, w4.drew.cell? (p7.add 2) = some (.int .i64 n8) ∧ 0 ≤ (45 : Int) ∧ ∃ p9 : Addr, (a0 : Option Addr) = some p9 ∧ ∃ n10 : Int, w4.drew.drew.cell? (p9.add 1) = some (.int .i64 n10) ∧ ∃ p11 : Addr, (a0 : Option Addr) = some p11 ∧ ∃ l12 : Sl, w4.drew.drew.cell? (p11.add 0) = some (.slice l12.a l12.len l12.cap) ∧ BIf (decide ((n10 : Int) < ((l12.len : Nat) : Int))) (∃ p13 : Addr, (a0 : Option Addr) = some p13 ∧ ∃ l14 : Sl, w4.drew.drew.drew.cell? (p13.add 0) = some (.slice l14.a l14.len l14.cap) ∧ ∃ p15 : Addr, (a0 : Option Addr) = some p15 ∧ ∃ n16 : Int, w4.drew.drew.drew.cell? (p15.add 1) = some (.int .i64 n16) ∧ 0 ≤ (n16 : Int) ∧ (n16 : Int) < ((l14.len : Nat) : Int) ∧ ∃ q17 : Addr, (l14.a : Option Addr) = some q17 ∧ ∃ n18 : Int, w4.drew.drew.drew.cell? (q17.add (Int.toNat n16 * 1)) = some (.int .u8 n18) ∧ ∃ p19 : Addr, (a0 : Option Addr) = some p19 ∧ ∃ n20 : Int, w4.drew.drew.drew.cell? (p19.add 1) = some (.int .i64 n20) ∧ ∃ p21 : Addr, (a0 : Option Addr) = some p21 ∧ May w4.drew.drew.drew (p21.add 1) ∧ LetW (w4.drew.drew.drew.setCell (p21.add 1) (.int .i64 (IntKind.wrap .i64 (n20 + 1)))) fun w22 => K (.int .i64 (andI .i64 (IntKind.wrap .i64 ((andI .i64 (xorI .i64 (shrI .i64 n6 33) (shrI .i64 n8 45)) 255) + (IntKind.wrap .i64 n18))) 255)) w22) (K (.int .i64 (andI .i64 (xorI .i64 (shrI .i64 n6 33) (shrI .i64 n8 45)) 255)) w4.drew.drew)
theorem eq120 (a0 : Option Addr) (w : World) (K : Value → World → Prop) : denFn Try.prog tt Try.f120 an120 [.pointer a0] w K = W120 a0 w K := by kernel_rfl
theorem ok120 : OkFn Try.prog 120 := ⟨Try.f120, Try.func120, by kernel_rfl, by kernel_rfl⟩
theorem go120 {a0 : Option Addr} {w : World} {K : Value → World → Prop} (h : W120 a0 w K) : CallW Try.prog 120 #[.pointer a0] w K :=
  .inl ⟨ok120, denFn_sound tt_ok mix Try.func120 (by kernel_rfl) (eq120 a0 w K ▸ h)⟩

/- loop.example/g00008/spec.l11Lock -/
def an121 : Ann := (.seq .leaf (.seq (.seq .leaf (.in_ (.loop 6 [(5, .int .i64)] (.seq (.seq .leaf (.cond .leaf .leaf)) (.seq (.in_ (.seq .leaf (.cond (.seq .leaf .leaf) .leaf))) .leaf))))) (.seq .leaf .leaf)))
def W121 (a0_0 : Int) (a0_1 : Int) (a0_2 : Sl) (a0_3 : Sl) (a1 : Int) (w : World) (K : Value → World → Prop) : Prop :=
  LetW (w.alloc (.cells #[.int .i64 a0_0, .int .i64 a0_1, .slice a0_2.a a0_2.len a0_2.cap, .slice a0_3.a a0_3.len a0_3.cap] 43)) fun w1 => LoopW [.int .i64] (fun J3 => fun (n2 : Int) w4 => ∃ l5 : Sl, w4.cell? ⟨w.heap.size, 3, none⟩ = some (.slice l5.a l5.len l5.cap) ∧ BIf (decide ((n2 : Int) < ((l5.len : Nat) : Int))) (∃ l6 : Sl, w4.cell? ⟨w.heap.size, 3, none⟩ = some (.slice l6.a l6.len l6.cap) ∧ 0 ≤ (n2 : Int) ∧ (n2 : Int) < ((l6.len : Nat) : Int) ∧ ∃ q7 : Addr, (l6.a : Option Addr) = some q7 ∧ ∃ n8 : Int, w4.cell? ((q7.add (Int.toNat n2 * 2)).add 0) = some (.int .i64 n8) ∧ BIf ((n8 : Int) == a1) (K (.int .i64 n2) w4) (J3 (IntKind.wrap .i64 (n2 + 1)) w4)) (K (.int .i64 (-1)) w4)) ((0 : Int), ()) w1
theorem eq121 (a0_0 : Int) (a0_1 : Int) (a0_2 : Sl) (a0_3 : Sl) (a1 : Int) (w : World) (K : Value → World → Prop) : denFn Try.prog tt Try.f121 an121 [.agg #[.int .i64 a0_0, .int .i64 a0_1, .slice a0_2.a a0_2.len a0_2.cap, .slice a0_3.a a0_3.len a0_3.cap], .int .i64 a1] w K = W121 a0_0 a0_1 a0_2 a0_3 a1 w K := by kernel_rfl
theorem ok121 : OkFn Try.prog 121 := ⟨Try.f121, Try.func121, by kernel_rfl, by kernel_rfl⟩
theorem go121 {a0_0 : Int} {a0_1 : Int} {a0_2 : Sl} {a0_3 : Sl} {a1 : Int} {w : World} {K : Value → World → Prop} (h : W121 a0_0 a0_1 a0_2 a0_3 a1 w K) : CallW Try.prog 121 #[.agg #[.int .i64 a0_0, .int .i64 a0_1, .slice a0_2.a a0_2.len a0_2.cap, .slice a0_3.a a0_3.len a0_3.cap], .int .i64 a1] w K :=
  .inl ⟨ok121, denFn_sound tt_ok mix Try.func121 (by kernel_rfl) (eq121 a0_0 a0_1 a0_2 a0_3 a1 w K ▸ h)⟩

/- loop.example/g00008/spec.l11Next -/
def an122 : Ann := (.seq .leaf (.seq .leaf (.seq (.seq (.reg [(3, none), (8, some (36, [(20, .bool)]))]) (.cond (.seq .leaf .leaf) .leaf)) (.seq (.draw [0, 0, 2, 0, 14, 30, 62, 127, 255] [0, 1, 2, 3, 4, 5, 6, 7, 8]) (.seq (.seq .leaf (.cond (.seq .leaf .leaf) .leaf)) (.seq .leaf .leaf))))))
def W122 (a0_0 : Int) (a0_1 : Int) (a0_2 : Sl) (a0_3 : Sl) (a1 : Int) (w : World) (K : Value → World → Prop) : Prop :=
  LetW (w.alloc (.cells #[.int .i64 a0_0, .int .i64 a0_1, .slice a0_2.a a0_2.len a0_2.cap, .slice a0_3.a a0_3.len a0_3.cap] 43)) fun w1 => ∃ n2 : Int, w1.cell? ⟨w.heap.size, 0, none⟩ = some (.int .i64 n2) ∧ ∃ n3 : Int, w1.cell? ⟨w.heap.size, 1, none⟩ = some (.int .i64 n3) ∧ ∃ l4 : Sl, w1.cell? ⟨w.heap.size, 2, none⟩ = some (.slice l4.a l4.len l4.cap) ∧ ∃ l5 : Sl, w1.cell? ⟨w.heap.size, 3, none⟩ = some (.slice l5.a l5.len l5.cap) ∧ CallW Try.prog 80 #[.agg #[.int .i64 n2, .int .i64 n3, .slice l4.a l4.len l4.cap, .slice l5.a l5.len l5.cap], .int .i64 a1] w1 fun v6 w7 => ∃ n8 : Int, v6 = .int .i64 n8 ∧ JoinW [.bool] (fun J10 => BIf (decide ((n8 : Int) < 0)) (J10 true w7) (∃ l25 : Sl, w7.cell? ⟨w.heap.size, 2, none⟩ = some (.slice l25.a l25.len l25.cap) ∧ 0 ≤ (n8 : Int) ∧ (n8 : Int) < ((l25.len : Nat) : Int) ∧ ∃ q26 : Addr, (l25.a : Option Addr) = some q26 ∧ ∃ n27 : Int, w7.cell? ((q26.add (Int.toNat n8 * 8)).add 2) = some (.int .i64 n27) ∧ J10 ((n27 : Int) != 2) w7)) (fun (b9 : Bool) w11 => BIf b9 (K (.int .i64 (-1)) w11) (∃ n12 : Int, w11.drew.cell? ⟨w.heap.size, 0, none⟩ = some (.int .i64 n12) ∧ ∃ n13 : Int, w11.drew.cell? ⟨w.heap.size, 1, none⟩ = some (.int .i64 n13) ∧ ∃ l14 : Sl, w11.drew.cell? ⟨w.heap.size, 2, none⟩ = some (.slice l14.a l14.len l14.cap) ∧ ∃ l15 : Sl, w11.drew.cell? ⟨w.heap.size, 3, none⟩ = some (.slice l15.a l15.len l15.cap) ∧ ∃ l16 : Sl, w11.drew.cell? ⟨w.heap.size, 2, none⟩ = some (.slice l16.a l16.len l16.cap) ∧ 0 ≤ (n8 : Int) ∧ (n8 : Int) < ((l16.len : Nat) : Int) ∧ ∃ q17 : Addr, (l16.a : Option Addr) = some q17 ∧ ∃ n18 : Int, w11.drew.cell? ((q17.add (Int.toNat n8 * 8)).add 7) = some (.int .i64 n18) ∧ CallW Try.prog 121 #[.agg #[.int .i64 n12, .int .i64 n13, .slice l14.a l14.len l14.cap, .slice l15.a l15.len l15.cap], .int .i64 n18] w11.drew fun v19 w20 => ∃ n21 : Int, v19 = .int .i64 n21 ∧ BIf (decide ((n21 : Int) < 0)) (K (.int .i64 (-1)) w20) (∃ l22 : Sl, w20.cell? ⟨w.heap.size, 3, none⟩ = some (.slice l22.a l22.len l22.cap) ∧ 0 ≤ (n21 : Int) ∧ (n21 : Int) < ((l22.len : Nat) : Int) ∧ ∃ q23 : Addr, (l22.a : Option Addr) = some q23 ∧ ∃ n24 : Int, w20.cell? ((q23.add (Int.toNat n21 * 2)).add 1) = some (.int .i64 n24) ∧ K (.int .i64 n24) w20)))
theorem eq122 (a0_0 : Int) (a0_1 : Int) (a0_2 : Sl) (a0_3 : Sl) (a1 : Int) (w : World) (K : Value → World → Prop) : denFn Try.prog tt Try.f122 an122 [.agg #[.int .i64 a0_0, .int .i64 a0_1, .slice a0_2.a a0_2.len a0_2.cap, .slice a0_3.a a0_3.len a0_3.cap], .int .i64 a1] w K = W122 a0_0 a0_1 a0_2 a0_3 a1 w K := by kernel_rfl
theorem ok122 : OkFn Try.prog 122 := ⟨Try.f122, Try.func122, by kernel_rfl, by kernel_rfl⟩
theorem go122 {a0_0 : Int} {a0_1 : Int} {a0_2 : Sl} {a0_3 : Sl} {a1 : Int} {w : World} {K : Value → World → Prop} (h : W122 a0_0 a0_1 a0_2 a0_3 a1 w K) : CallW Try.prog 122 #[.agg #[.int .i64 a0_0, .int .i64 a0_1, .slice a0_2.a a0_2.len a0_2.cap, .slice a0_3.a a0_3.len a0_3.cap], .int .i64 a1] w K :=
  .inl ⟨ok122, denFn_sound tt_ok mix Try.func122 (by kernel_rfl) (eq122 a0_0 a0_1 a0_2 a0_3 a1 w K ▸ h)⟩

/- loop.example/g00008/spec.l11Spoil -/
def an123 : Ann := (.seq .leaf (.seq (.draw [0, 1, 0, 0, 8, 24, 60, 127, 255] [0, 1, 2, 3, 4, 5, 6, 7, 8]) (.seq .leaf (.seq .leaf (.in_ (.seq .leaf (.cond .leaf (.seq .leaf (.cond .leaf (.seq .leaf (.cond .leaf (.seq .leaf (.cond .leaf (.seq .leaf (.cond .leaf (.seq .leaf (.cond .leaf (.seq .leaf (.cond .leaf (.seq .leaf (.cond .leaf (.join 57 [(110, .bool)] (.seq .leaf (.cond .leaf .leaf)) (.cond (.seq .leaf (.cond (.seq .leaf (.seq (.draw [0, 1, 0, 0, 8, 24, 56, 127, 255, 511] [0, 1, 2, 3, 4, 5, 6, 7, 8, 9]) (.seq .leaf (.cond (.draw [0, 1, 0, 0, 8, 0, 56, 120, 248, 0, 1016, 2047, 4095, 8191] [0, 1, 2, 3, 4, 5, 6, 7, 8, 9, 10, 11, 12, 13]) .leaf)))) .leaf)) .leaf)))))))))))))))))))))))
def W123 (a0 : Option Addr) (a1_0 : Int) (a1_1 : Int) (a1_2 : Sl) (a1_3 : Sl) (w : World) (K : Value → World → Prop) : Prop :=
  LetW (w.alloc (.cells #[.int .i64 a1_0, .int .i64 a1_1, .slice a1_2.a a1_2.len a1_2.cap, .slice a1_3.a a1_3.len a1_3.cap] 43)) fun w1 => ∃ l2 : Sl, w1.drew.cell? ⟨w.heap.size, 2, none⟩ = some (.slice l2.a l2.len l2.cap) ∧ ∃ l3 : Sl, w1.drew.cell? ⟨w.heap.size, 2, none⟩ = some (.slice l3.a l3.len l3.cap) ∧ CallW Try.prog 77 #[.pointer a0, .int .i64 ((l3.len : Nat) : Int)] w1.drew fun v4 w5 => ∃ n6 : Int, v4 = .int .i64 n6 ∧ (∃ l7 : Sl, w5.cell? ⟨w.heap.size, 2, none⟩ = some (.slice l7.a l7.len l7.cap) ∧ (.slice l7.a l7.len l7.cap : Value) = (.slice l2.a l2.len l2.cap : Value)) ∧ 0 ≤ (n6 : Int) ∧ (n6 : Int) < ((l2.len : Nat) : Int) ∧ ∃ q8 : Addr, (l2.a : Option Addr) = some q8 ∧ LetW (w5.alloc (.cells #[.int .i64 1, .int .i64 (-1), .int .i64 8, .int .i64 100] 2)) fun w9 => CallW Try.prog 77 #[.pointer a0, .int .i64 4] w9 fun v10 w11 => ∃ n12 : Int, v10 = .int .i64 n12 ∧ 0 ≤ (n12 : Int) ∧ (n12 : Int) < ((4 : Nat) : Int) ∧ ∃ q13 : Addr, (some ⟨w5.heap.size, 0, none⟩ : Option Addr) = some q13 ∧ ∃ n14 : Int, w11.cell? (q13.add (Int.toNat n12 * 1)) = some (.int .i64 n14) ∧ CallW Try.prog 77 #[.pointer a0, .int .i64 10] w11 fun v15 w16 => ∃ n17 : Int, v15 = .int .i64 n17 ∧ BIf ((n17 : Int) == 0) (∃ p18 : Addr, (some (q8.add (Int.toNat n6 * 8)) : Option Addr) = some p18 ∧ ∃ n19 : Int, w16.cell? (p18.add 0) = some (.int .i64 n19) ∧ ∃ p20 : Addr, (some (q8.add (Int.toNat n6 * 8)) : Option Addr) = some p20 ∧ May w16 (p20.add 0) ∧ LetW (w16.setCell (p20.add 0) (.int .i64 (IntKind.wrap .i64 (n19 + n14)))) fun w21 => K (.tuple #[]) w21) (BIf ((n17 : Int) == 1) (∃ p22 : Addr, (some (q8.add (Int.toNat n6 * 8)) : Option Addr) = some p22 ∧ ∃ n23 : Int, w16.cell? (p22.add 1) = some (.int .i64 n23) ∧ ∃ p24 : Addr, (some (q8.add (Int.toNat n6 * 8)) : Option Addr) = some p24 ∧ May w16 (p24.add 1) ∧ LetW (w16.setCell (p24.add 1) (.int .i64 (IntKind.wrap .i64 (n23 + n14)))) fun w25 => K (.tuple #[]) w25) (BIf ((n17 : Int) == 2) (∃ p26 : Addr, (some (q8.add (Int.toNat n6 * 8)) : Option Addr) = some p26 ∧ ∃ n27 : Int, w16.cell? (p26.add 2) = some (.int .i64 n27) ∧ ∃ p28 : Addr, (some (q8.add (Int.toNat n6 * 8)) : Option Addr) = some p28 ∧ May w16 (p28.add 2) ∧ LetW (w16.setCell (p28.add 2) (.int .i64 (IntKind.wrap .i64 (n27 + n14)))) fun w29 => K (.tuple #[]) w29) (BIf ((n17 : Int) == 3) (∃ p30 : Addr, (some (q8.add (Int.toNat n6 * 8)) : Option Addr) = some p30 ∧ ∃ n31 : Int, w16.cell? (p30.add 3) = some (.int .i64 n31) ∧ ∃ p32 : Addr, (some (q8.add (Int.toNat n6 * 8)) : Option Addr) = some p32 ∧ May w16 (p32.add 3) ∧ LetW (w16.setCell (p32.add 3) (.int .i64 (IntKind.wrap .i64 (n31 + n14)))) fun w33 => K (.tuple #[]) w33) (BIf ((n17 : Int) == 4) (∃ p34 : Addr, (some (q8.add (Int.toNat n6 * 8)) : Option Addr) = some p34 ∧ ∃ n35 : Int, w16.cell? (p34.add 4) = some (.int .i64 n35) ∧ ∃ p36 : Addr, (some (q8.add (Int.toNat n6 * 8)) : Option Addr) = some p36 ∧ May w16 (p36.add 4) ∧ LetW (w16.setCell (p36.add 4) (.int .i64 (IntKind.wrap .i64 (n35 + n14)))) fun w37 => K (.tuple #[]) w37) (BIf ((n17 : Int) == 5) (∃ p38 : Addr, (some (q8.add (Int.toNat n6 * 8)) : Option Addr) = some p38 ∧ ∃ n39 : Int, w16.cell? (p38.add 5) = some (.int .i64 n39) ∧ ∃ p40 : Addr, (some (q8.add (Int.toNat n6 * 8)) : Option Addr) = some p40 ∧ May w16 (p40.add 5) ∧ LetW (w16.setCell (p40.add 5) (.int .i64 (IntKind.wrap .i64 (n39 + n14)))) fun w41 => K (.tuple #[]) w41) (BIf ((n17 : Int) == 6) (∃ p42 : Addr, (some (q8.add (Int.toNat n6 * 8)) : Option Addr) = some p42 ∧ ∃ n43 : Int, w16.cell? (p42.add 6) = some (.int .i64 n43) ∧ ∃ p44 : Addr, (some (q8.add (Int.toNat n6 * 8)) : Option Addr) = some p44 ∧ May w16 (p44.add 6) ∧ LetW (w16.setCell (p44.add 6) (.int .i64 (IntKind.wrap .i64 (n43 + n14)))) fun w45 => K (.tuple #[]) w45) (BIf ((n17 : Int) == 7) (∃ p46 : Addr, (some (q8.add (Int.toNat n6 * 8)) : Option Addr) = some p46 ∧ ∃ n47 : Int, w16.cell? (p46.add 7) = some (.int .i64 n47) ∧ ∃ p48 : Addr, (some (q8.add (Int.toNat n6 * 8)) : Option Addr) = some p48 ∧ May w16 (p48.add 7) ∧ LetW (w16.setCell (p48.add 7) (.int .i64 (IntKind.wrap .i64 (n47 + n14)))) fun w49 => K (.tuple #[]) w49) (JoinW [.bool] (fun J51 => BIf ((n17 : Int) == 8) (J51 ((n17 : Int) == 8) w16) (J51 ((n17 : Int) == 9) w16)) (fun (b50 : Bool) w52 => BIf b50 (∃ l53 : Sl, w52.cell? ⟨w.heap.size, 3, none⟩ = some (.slice l53.a l53.len l53.cap) ∧ BIf (decide ((((l53.len : Nat) : Int) : Int) > 0)) (∃ l54 : Sl, w52.cell? ⟨w.heap.size, 3, none⟩ = some (.slice l54.a l54.len l54.cap) ∧ CallW Try.prog 77 #[.pointer a0, .int .i64 ((l54.len : Nat) : Int)] w52 fun v55 w56 => ∃ n57 : Int, v55 = .int .i64 n57 ∧ ∃ l58 : Sl, w56.drew.cell? ⟨w.heap.size, 3, none⟩ = some (.slice l58.a l58.len l58.cap) ∧ ∃ p59 : Addr, (some (q8.add (Int.toNat n6 * 8)) : Option Addr) = some p59 ∧ ∃ n60 : Int, w56.drew.cell? (p59.add 0) = some (.int .i64 n60) ∧ 0 ≤ (n57 : Int) ∧ (n57 : Int) < ((l58.len : Nat) : Int) ∧ ∃ q61 : Addr, (l58.a : Option Addr) = some q61 ∧ May w56.drew ((q61.add (Int.toNat n57 * 2)).add 1) ∧ LetW (w56.drew.setCell ((q61.add (Int.toNat n57 * 2)).add 1) (.int .i64 n60)) fun w62 => CallW Try.prog 78 #[.pointer a0, .int .i64 3] w62 fun v63 w64 => ∃ b65 : Bool, v63 = .bool b65 ∧ BIf b65 (∃ l66 : Sl, w64.drew.cell? ⟨w.heap.size, 3, none⟩ = some (.slice l66.a l66.len l66.cap) ∧ ∃ l67 : Sl, w64.drew.cell? ⟨w.heap.size, 3, none⟩ = some (.slice l67.a l67.len l67.cap) ∧ 0 ≤ (n57 : Int) ∧ (n57 : Int) < ((l67.len : Nat) : Int) ∧ ∃ q68 : Addr, (l67.a : Option Addr) = some q68 ∧ ∃ n69 : Int, w64.drew.cell? ((q68.add (Int.toNat n57 * 2)).add 0) = some (.int .i64 n69) ∧ 0 ≤ (n57 : Int) ∧ (n57 : Int) < ((l66.len : Nat) : Int) ∧ ∃ q70 : Addr, (l66.a : Option Addr) = some q70 ∧ May w64.drew ((q70.add (Int.toNat n57 * 2)).add 0) ∧ LetW (w64.drew.setCell ((q70.add (Int.toNat n57 * 2)).add 0) (.int .i64 (IntKind.wrap .i64 (n69 + n14)))) fun w71 => K (.tuple #[]) w71) (K (.tuple #[]) w64)) (K (.tuple #[]) w52)) (K (.tuple #[]) w52))))))))))
theorem eq123 (a0 : Option Addr) (a1_0 : Int) (a1_1 : Int) (a1_2 : Sl) (a1_3 : Sl) (w : World) (K : Value → World → Prop) : denFn Try.prog tt Try.f123 an123 [.pointer a0, .agg #[.int .i64 a1_0, .int .i64 a1_1, .slice a1_2.a a1_2.len a1_2.cap, .slice a1_3.a a1_3.len a1_3.cap]] w K = W123 a0 a1_0 a1_1 a1_2 a1_3 w K := by kernel_rfl
theorem ok123 : OkFn Try.prog 123 := ⟨Try.f123, Try.func123, by kernel_rfl, by kernel_rfl⟩
theorem go123 {a0 : Option Addr} {a1_0 : Int} {a1_1 : Int} {a1_2 : Sl} {a1_3 : Sl} {w : World} {K : Value → World → Prop} (h : W123 a0 a1_0 a1_1 a1_2 a1_3 w K) : CallW Try.prog 123 #[.pointer a0, .agg #[.int .i64 a1_0, .int .i64 a1_1, .slice a1_2.a a1_2.len a1_2.cap, .slice a1_3.a a1_3.len a1_3.cap]] w K :=
  .inl ⟨ok123, denFn_sound tt_ok mix Try.func123 (by kernel_rfl) (eq123 a0 a1_0 a1_1 a1_2 a1_3 w K ▸ h)⟩

/- (*loop.example/g00008/impl.Sched).first -/
def an124 : Ann := (.seq .leaf (.seq .leaf (.seq .leaf (.seq (.seq .leaf (.in_ (.loop 16387 [(5, .ptr), (6, .int .i64), (15, .int .i64)] (.seq .leaf (.seq (.cond .leaf .leaf) (.seq (.in_ (.seq .leaf (.seq .leaf (.seq (.seq .leaf (.cond .leaf .leaf)) (.seq .leaf (.join 50019 [(53, .bool)] (.draw [0, 1, 3, 7, 7, 31, 63, 127, 255, 255, 1023, 2047, 4095, 8191, 16383, 32767, 4095, 69631, 200703, 462847, 1048575, 2097151, 4194303] [0, 1, 2, 3, 4, 5, 6, 7, 8, 9, 10, 11, 12, 13, 14, 15, 16, 17, 18, 19, 20, 21, 22]) (.cond .leaf .leaf))))))) .leaf)))))) (.seq .leaf .leaf)))))
def W124 (a0 : Option Addr) (a1 : Nat) (a1x a1c : List Value) (w : World) (K : Value → World → Prop) : Prop :=
  ∃ p1 : Addr, (a0 : Option Addr) = some p1 ∧ ∃ l2 : Sl, w.cell? (p1.add 2) = some (.slice l2.a l2.len l2.cap) ∧ LoopW [.ptr, .int .i64, .int .i64] (fun J6 => fun (p3 : Option Addr) (n4 : Int) (n5 : Int) w7 => BIf (decide ((n5 : Int) < ((l2.len : Nat) : Int))) (∃ p8 : Addr, (a0 : Option Addr) = some p8 ∧ ∃ l9 : Sl, w7.cell? (p8.add 2) = some (.slice l9.a l9.len l9.cap) ∧ 0 ≤ (n5 : Int) ∧ (n5 : Int) < ((l9.len : Nat) : Int) ∧ ∃ q10 : Addr, (l9.a : Option Addr) = some q10 ∧ CallW Try.prog a1 ⟨a1x ++ ([.pointer (some (q10.add (Int.toNat n5 * 8)))] ++ a1c)⟩ w7 fun v11 w12 => ∃ b13 : Bool, v11 = .bool b13 ∧ BIf (!b13) (J6 p3 n4 (IntKind.wrap .i64 (n5 + 1)) w12) (CallW Try.prog 88 #[.pointer a0, .pointer (some (q10.add (Int.toNat n5 * 8)))] w12 fun v14 w15 => ∃ n16 : Int, v14 = .int .i64 n16 ∧ JoinW [.bool] (fun J18 => BIf (Option.isNone p3) (J18 true w15.drew) (BIf (decide ((n16 : Int) > n4)) (J18 true w15.drew) (BIf ((n16 : Int) == n4) (∃ p20 : Addr, (some (q10.add (Int.toNat n5 * 8)) : Option Addr) = some p20 ∧ ∃ n21 : Int, w15.drew.cell? (p20.add 3) = some (.int .i64 n21) ∧ ∃ p22 : Addr, (p3 : Option Addr) = some p22 ∧ ∃ n23 : Int, w15.drew.cell? (p22.add 3) = some (.int .i64 n23) ∧ J18 (decide ((n21 : Int) < n23)) w15.drew) (J18 false w15.drew)))) (fun (b17 : Bool) w19 => BIf b17 (J6 (some (q10.add (Int.toNat n5 * 8))) n16 (IntKind.wrap .i64 (n5 + 1)) w19) (J6 p3 n4 (IntKind.wrap .i64 (n5 + 1)) w19)))) (K (.pointer p3) w7)) ((none : Option Addr), ((0 : Int), ((0 : Int), ()))) w
theorem eq124 (a0 : Option Addr) (a1 : Nat) (a1x a1c : List Value) (w : World) (K : Value → World → Prop) : denFn Try.prog tt Try.f124 an124 [.pointer a0, .func (.func a1) ⟨a1x⟩ ⟨a1c⟩] w K = W124 a0 a1 a1x a1c w K := by kernel_rfl
theorem ok124 : OkFn Try.prog 124 := ⟨Try.f124, Try.func124, by kernel_rfl, by kernel_rfl⟩
theorem go124 {a0 : Option Addr} {a1 : Nat} {a1x a1c : List Value} {w : World} {K : Value → World → Prop} (h : W124 a0 a1 a1x a1c w K) : CallW Try.prog 124 #[.pointer a0, .func (.func a1) ⟨a1x⟩ ⟨a1c⟩] w K :=
  .inl ⟨ok124, denFn_sound tt_ok mix Try.func124 (by kernel_rfl) (eq124 a0 a1 a1x a1c w K ▸ h)⟩

/- (*loop.example/g00008/impl.Sched).pick$1 -/
def an125 : Ann := (.seq .leaf (.seq .leaf .leaf))
def W125 (a0 : Option Addr) (w : World) (K : Value → World → Prop) : Prop :=
  ∃ p1 : Addr, (a0 : Option Addr) = some p1 ∧ ∃ n2 : Int, w.cell? (p1.add 2) = some (.int .i64 n2) ∧ K (.bool ((n2 : Int) == 1)) w
theorem eq125 (a0 : Option Addr) (w : World) (K : Value → World → Prop) : denFn Try.prog tt Try.f125 an125 [.pointer a0] w K = W125 a0 w K := by kernel_rfl
theorem ok125 : OkFn Try.prog 125 := ⟨Try.f125, Try.func125, by kernel_rfl, by kernel_rfl⟩
theorem go125 {a0 : Option Addr} {w : World} {K : Value → World → Prop} (h : W125 a0 w K) : CallW Try.prog 125 #[.pointer a0] w K :=
  .inl ⟨ok125, denFn_sound tt_ok mix Try.func125 (by kernel_rfl) (eq125 a0 w K ▸ h)⟩

/- loop.example/g00008/spec.l11Pick -/
def an147 : Ann := (.seq .leaf (.seq .leaf (.seq .leaf (.seq (.seq .leaf (.in_ (.loop 2 [(3, .int .i64), (4, .int .i64), (5, .int .i64)] (.seq (.seq .leaf (.cond .leaf .leaf)) (.seq (.in_ (.seq .leaf (.seq (.seq .leaf (.cond .leaf .leaf)) (.seq .leaf (.join 186 [(45, .bool)] (.draw [0, 0, 3, 7, 15, 15, 63, 127, 255, 511, 255, 1279, 255, 7423, 15615, 31999, 65535, 131071, 262143] [0, 1, 2, 3, 4, 5, 6, 7, 8, 9, 10, 11, 12, 13, 14, 15, 16, 17, 18]) (.cond (.seq .leaf .leaf) .leaf)))))) .leaf))))) (.seq (.seq .leaf (.cond (.seq .leaf .leaf) .leaf)) (.seq .leaf .leaf))))))
def W147 (a0_0 : Int) (a0_1 : Int) (a0_2 : Sl) (a0_3 : Sl) (w : World) (K : Value → World → Prop) : Prop :=
  LetW (w.alloc (.cells #[.int .i64 a0_0, .int .i64 a0_1, .slice a0_2.a a0_2.len a0_2.cap, .slice a0_3.a a0_3.len a0_3.cap] 43)) fun w1 => LoopW [.int .i64, .int .i64, .int .i64] (fun J5 => fun (n2 : Int) (n3 : Int) (n4 : Int) w6 => ∃ l7 : Sl, w6.cell? ⟨w.heap.size, 2, none⟩ = some (.slice l7.a l7.len l7.cap) ∧ BIf (decide ((n4 : Int) < ((l7.len : Nat) : Int))) (∃ l8 : Sl, w6.cell? ⟨w.heap.size, 2, none⟩ = some (.slice l8.a l8.len l8.cap) ∧ 0 ≤ (n4 : Int) ∧ (n4 : Int) < ((l8.len : Nat) : Int) ∧ ∃ q9 : Addr, (l8.a : Option Addr) = some q9 ∧ ∃ n10 : Int, w6.cell? ((q9.add (Int.toNat n4 * 8)).add 0) = some (.int .i64 n10) ∧ ∃ n11 : Int, w6.cell? ((q9.add (Int.toNat n4 * 8)).add 1) = some (.int .i64 n11) ∧ ∃ n12 : Int, w6.cell? ((q9.add (Int.toNat n4 * 8)).add 2) = some (.int .i64 n12) ∧ ∃ n13 : Int, w6.cell? ((q9.add (Int.toNat n4 * 8)).add 3) = some (.int .i64 n13) ∧ ∃ n14 : Int, w6.cell? ((q9.add (Int.toNat n4 * 8)).add 4) = some (.int .i64 n14) ∧ ∃ n15 : Int, w6.cell? ((q9.add (Int.toNat n4 * 8)).add 5) = some (.int .i64 n15) ∧ ∃ n16 : Int, w6.cell? ((q9.add (Int.toNat n4 * 8)).add 6) = some (.int .i64 n16) ∧ ∃ n17 : Int, w6.cell? ((q9.add (Int.toNat n4 * 8)).add 7) = some (.int .i64 n17) ∧ LetW (w6.alloc (.cells #[.int .i64 0, .int .i64 0, .int .i64 0, .int .i64 0, .int .i64 0, .int .i64 0, .int .i64 0, .int .i64 0] 61)) fun w18 => MayN w18 ⟨w6.heap.size, 0, none⟩ 8 ∧ LetW (puts w18 ⟨w6.heap.size, 0, none⟩ 0 [.int .i64 n10, .int .i64 n11, .int .i64 n12, .int .i64 n13, .int .i64 n14, .int .i64 n15, .int .i64 n16, .int .i64 n17]) fun w19 => ∃ n20 : Int, w19.cell? ⟨w6.heap.size, 2, none⟩ = some (.int .i64 n20) ∧ BIf ((n20 : Int) != 1) (J5 n2 n3 (IntKind.wrap .i64 (n4 + 1)) w19) (∃ n21 : Int, w19.cell? ⟨w.heap.size, 0, none⟩ = some (.int .i64 n21) ∧ ∃ n22 : Int, w19.cell? ⟨w.heap.size, 1, none⟩ = some (.int .i64 n22) ∧ ∃ l23 : Sl, w19.cell? ⟨w.heap.size, 2, none⟩ = some (.slice l23.a l23.len l23.cap) ∧ ∃ l24 : Sl, w19.cell? ⟨w.heap.size, 3, none⟩ = some (.slice l24.a l24.len l24.cap) ∧ ∃ n25 : Int, w19.cell? ⟨w6.heap.size, 0, none⟩ = some (.int .i64 n25) ∧ CallW Try.prog 155 #[.agg #[.int .i64 n21, .int .i64 n22, .slice l23.a l23.len l23.cap, .slice l24.a l24.len l24.cap], .int .i64 n25] w19 fun v26 w27 => ∃ n28 : Int, v26 = .int .i64 n28 ∧ JoinW [.bool] (fun J30 => BIf (decide ((n28 : Int) > n3)) (J30 true w27.drew) (BIf ((n28 : Int) == n3) (∃ n32 : Int, w27.drew.cell? ⟨w6.heap.size, 3, none⟩ = some (.int .i64 n32) ∧ ∃ l33 : Sl, w27.drew.cell? ⟨w.heap.size, 2, none⟩ = some (.slice l33.a l33.len l33.cap) ∧ 0 ≤ (n2 : Int) ∧ (n2 : Int) < ((l33.len : Nat) : Int) ∧ ∃ q34 : Addr, (l33.a : Option Addr) = some q34 ∧ ∃ n35 : Int, w27.drew.cell? ((q34.add (Int.toNat n2 * 8)).add 3) = some (.int .i64 n35) ∧ J30 (decide ((n32 : Int) < n35)) w27.drew) (J30 false w27.drew))) (fun (b29 : Bool) w31 => BIf b29 (J5 n4 n28 (IntKind.wrap .i64 (n4 + 1)) w31) (J5 n2 n3 (IntKind.wrap .i64 (n4 + 1)) w31)))) (BIf (decide ((n2 : Int) < 0)) (K (.int .i64 (-1)) w6) (∃ l36 : Sl, w6.cell? ⟨w.heap.size, 2, none⟩ = some (.slice l36.a l36.len l36.cap) ∧ 0 ≤ (n2 : Int) ∧ (n2 : Int) < ((l36.len : Nat) : Int) ∧ ∃ q37 : Addr, (l36.a : Option Addr) = some q37 ∧ ∃ n38 : Int, w6.cell? ((q37.add (Int.toNat n2 * 8)).add 0) = some (.int .i64 n38) ∧ K (.int .i64 n38) w6))) (((-1) : Int), (((-1) : Int), ((0 : Int), ()))) w1
theorem eq147 (a0_0 : Int) (a0_1 : Int) (a0_2 : Sl) (a0_3 : Sl) (w : World) (K : Value → World → Prop) : denFn Try.prog tt Try.f147 an147 [.agg #[.int .i64 a0_0, .int .i64 a0_1, .slice a0_2.a a0_2.len a0_2.cap, .slice a0_3.a a0_3.len a0_3.cap]] w K = W147 a0_0 a0_1 a0_2 a0_3 w K := by kernel_rfl
theorem ok147 : OkFn Try.prog 147 := ⟨Try.f147, Try.func147, by kernel_rfl, by kernel_rfl⟩
theorem go147 {a0_0 : Int} {a0_1 : Int} {a0_2 : Sl} {a0_3 : Sl} {w : World} {K : Value → World → Prop} (h : W147 a0_0 a0_1 a0_2 a0_3 w K) : CallW Try.prog 147 #[.agg #[.int .i64 a0_0, .int .i64 a0_1, .slice a0_2.a a0_2.len a0_2.cap, .slice a0_3.a a0_3.len a0_3.cap]] w K :=
  .inl ⟨ok147, denFn_sound tt_ok mix Try.func147 (by kernel_rfl) (eq147 a0_0 a0_1 a0_2 a0_3 w K ▸ h)⟩

/- loop.example/g00008/spec.l11HandOn -/
def an148 : Ann := (.seq .leaf (.seq .leaf (.seq .leaf (.seq (.seq .leaf (.in_ (.loop 22 [(5, .int .i64), (6, .int .i64), (7, .int .i64)] (.seq (.seq .leaf (.cond .leaf .leaf)) (.seq (.in_ (.seq .leaf (.seq (.seq (.reg [(4, none), (5, some (502, [(31, .bool)]))]) (.cond .leaf .leaf)) (.seq .leaf (.join 758 [(54, .bool)] (.draw [0, 0, 3, 7, 15, 15, 63, 127, 255, 511, 255, 1279, 255, 7423, 15615, 31999, 65535, 131071, 262143] [0, 1, 2, 3, 4, 5, 6, 7, 8, 9, 10, 11, 12, 13, 14, 15, 16, 17, 18]) (.cond (.seq .leaf .leaf) .leaf)))))) .leaf))))) (.seq .leaf (.seq (.seq .leaf (.cond (.seq (.draw [0, 0, 2, 0, 14, 31, 0, 64, 0, 256, 960, 2047, 4095, 8191] [1, 2, 3, 4, 6, 7, 8, 9, 10, 0, 5, 11, 12, 13]) (.seq .leaf .leaf)) .leaf)) (.seq (.draw [0, 1, 0, 0, 8, 0, 56, 120, 248, 511, 1023, 2047] [0, 1, 2, 3, 4, 5, 6, 7, 8, 9, 10, 11]) (.seq .leaf .leaf))))))))
def W148 (a0_0 : Int) (a0_1 : Int) (a0_2 : Sl) (a0_3 : Sl) (a1 : Int) (w : World) (K : Value → World → Prop) : Prop :=
  LetW (w.alloc (.cells #[.int .i64 a0_0, .int .i64 a0_1, .slice a0_2.a a0_2.len a0_2.cap, .slice a0_3.a a0_3.len a0_3.cap] 43)) fun w1 => LetW (w1.alloc (.cells #[.int .i64 0, .int .i64 0, .slice none 0 0, .slice none 0 0] 43)) fun w2 => LoopW [.int .i64, .int .i64, .int .i64] (fun J6 => fun (n3 : Int) (n4 : Int) (n5 : Int) w7 => ∃ l8 : Sl, w7.cell? ⟨w.heap.size, 2, none⟩ = some (.slice l8.a l8.len l8.cap) ∧ BIf (decide ((n5 : Int) < ((l8.len : Nat) : Int))) (∃ l9 : Sl, w7.cell? ⟨w.heap.size, 2, none⟩ = some (.slice l9.a l9.len l9.cap) ∧ 0 ≤ (n5 : Int) ∧ (n5 : Int) < ((l9.len : Nat) : Int) ∧ ∃ q10 : Addr, (l9.a : Option Addr) = some q10 ∧ ∃ n11 : Int, w7.cell? ((q10.add (Int.toNat n5 * 8)).add 0) = some (.int .i64 n11) ∧ ∃ n12 : Int, w7.cell? ((q10.add (Int.toNat n5 * 8)).add 1) = some (.int .i64 n12) ∧ ∃ n13 : Int, w7.cell? ((q10.add (Int.toNat n5 * 8)).add 2) = some (.int .i64 n13) ∧ ∃ n14 : Int, w7.cell? ((q10.add (Int.toNat n5 * 8)).add 3) = some (.int .i64 n14) ∧ ∃ n15 : Int, w7.cell? ((q10.add (Int.toNat n5 * 8)).add 4) = some (.int .i64 n15) ∧ ∃ n16 : Int, w7.cell? ((q10.add (Int.toNat n5 * 8)).add 5) = some (.int .i64 n16) ∧ ∃ n17 : Int, w7.cell? ((q10.add (Int.toNat n5 * 8)).add 6) = some (.int .i64 n17) ∧ ∃ n18 : Int, w7.cell? ((q10.add (Int.toNat n5 * 8)).add 7) = some (.int .i64 n18) ∧ LetW (w7.alloc (.cells #[.int .i64 0, .int .i64 0, .int .i64 0, .int .i64 0, .int .i64 0, .int .i64 0, .int .i64 0, .int .i64 0] 61)) fun w19 => MayN w19 ⟨w7.heap.size, 0, none⟩ 8 ∧ LetW (puts w19 ⟨w7.heap.size, 0, none⟩ 0 [.int .i64 n11, .int .i64 n12, .int .i64 n13, .int .i64 n14, .int .i64 n15, .int .i64 n16, .int .i64 n17, .int .i64 n18]) fun w20 => ∃ n21 : Int, w20.cell? ⟨w7.heap.size, 2, none⟩ = some (.int .i64 n21) ∧ JoinW [.bool] (fun J23 => BIf ((n21 : Int) != 2) (J23 true w20) (∃ n40 : Int, w20.cell? ⟨w7.heap.size, 7, none⟩ = some (.int .i64 n40) ∧ J23 ((n40 : Int) != a1) w20)) (fun (b22 : Bool) w24 => BIf b22 (J6 n3 n4 (IntKind.wrap .i64 (n5 + 1)) w24) (∃ n25 : Int, w24.cell? ⟨w.heap.size, 0, none⟩ = some (.int .i64 n25) ∧ ∃ n26 : Int, w24.cell? ⟨w.heap.size, 1, none⟩ = some (.int .i64 n26) ∧ ∃ l27 : Sl, w24.cell? ⟨w.heap.size, 2, none⟩ = some (.slice l27.a l27.len l27.cap) ∧ ∃ l28 : Sl, w24.cell? ⟨w.heap.size, 3, none⟩ = some (.slice l28.a l28.len l28.cap) ∧ ∃ n29 : Int, w24.cell? ⟨w7.heap.size, 0, none⟩ = some (.int .i64 n29) ∧ CallW Try.prog 155 #[.agg #[.int .i64 n25, .int .i64 n26, .slice l27.a l27.len l27.cap, .slice l28.a l28.len l28.cap], .int .i64 n29] w24 fun v30 w31 => ∃ n32 : Int, v30 = .int .i64 n32 ∧ JoinW [.bool] (fun J34 => BIf (decide ((n32 : Int) > n4)) (J34 true w31.drew) (BIf ((n32 : Int) == n4) (∃ n36 : Int, w31.drew.cell? ⟨w7.heap.size, 3, none⟩ = some (.int .i64 n36) ∧ ∃ l37 : Sl, w31.drew.cell? ⟨w.heap.size, 2, none⟩ = some (.slice l37.a l37.len l37.cap) ∧ 0 ≤ (n3 : Int) ∧ (n3 : Int) < ((l37.len : Nat) : Int) ∧ ∃ q38 : Addr, (l37.a : Option Addr) = some q38 ∧ ∃ n39 : Int, w31.drew.cell? ((q38.add (Int.toNat n3 * 8)).add 3) = some (.int .i64 n39) ∧ J34 (decide ((n36 : Int) < n39)) w31.drew) (J34 false w31.drew))) (fun (b33 : Bool) w35 => BIf b33 (J6 n5 n32 (IntKind.wrap .i64 (n5 + 1)) w35) (J6 n3 n4 (IntKind.wrap .i64 (n5 + 1)) w35))))) (∃ n41 : Int, w7.cell? ⟨w.heap.size, 0, none⟩ = some (.int .i64 n41) ∧ ∃ n42 : Int, w7.cell? ⟨w.heap.size, 1, none⟩ = some (.int .i64 n42) ∧ ∃ l43 : Sl, w7.cell? ⟨w.heap.size, 2, none⟩ = some (.slice l43.a l43.len l43.cap) ∧ ∃ l44 : Sl, w7.cell? ⟨w.heap.size, 3, none⟩ = some (.slice l44.a l44.len l44.cap) ∧ CallW Try.prog 121 #[.agg #[.int .i64 n41, .int .i64 n42, .slice l43.a l43.len l43.cap, .slice l44.a l44.len l44.cap], .int .i64 a1] w7 fun v45 w46 => ∃ n47 : Int, v45 = .int .i64 n47 ∧ BIf (decide ((n3 : Int) < 0)) (∃ l48 : Sl, w46.drew.cell? ⟨w.heap.size, 3, none⟩ = some (.slice l48.a l48.len l48.cap) ∧ 0 ≤ (n47 : Int) ∧ (n47 : Int) ≤ ((l48.cap : Nat) : Int) ∧ ∃ l49 : Sl, w46.drew.cell? ⟨w.heap.size, 3, none⟩ = some (.slice l49.a l49.len l49.cap) ∧ 0 ≤ (IntKind.wrap .i64 (n47 + 1) : Int) ∧ (IntKind.wrap .i64 (n47 + 1) : Int) ≤ ((l49.len : Nat) : Int) ∧ LetW (w46.drew.alloc (.cells #[] 122)) fun w50 => (∃ l51 : Sl, w50.cell? ⟨w.heap.size, 3, none⟩ = some (.slice l51.a l51.len l51.cap) ∧ (.slice l51.a l51.len l51.cap : Value) = (.slice l49.a l49.len l49.cap : Value)) ∧ (∃ l52 : Sl, w50.cell? ⟨w.heap.size, 3, none⟩ = some (.slice l52.a l52.len l52.cap) ∧ (.slice l52.a l52.len l52.cap : Value) = (.slice l48.a l48.len l48.cap : Value)) ∧ AppendW 122 ti122 ⟨some ⟨w46.drew.heap.size, 0, none⟩, 0, 0⟩ ⟨cutA l48.a l48.cap (Int.toNat 0) 2, Int.toNat n47 - Int.toNat 0, l48.cap - Int.toNat 0⟩ w50 fun l53 w54 => (∃ l55 : Sl, w54.cell? ⟨w.heap.size, 3, none⟩ = some (.slice l55.a l55.len l55.cap) ∧ (.slice l55.a l55.len l55.cap : Value) = (.slice l49.a l49.len l49.cap : Value)) ∧ AppendW 122 ti122 l53 ⟨cutA l49.a l49.cap (Int.toNat (IntKind.wrap .i64 (n47 + 1))) 2, Int.toNat ((l49.len : Nat) : Int) - Int.toNat (IntKind.wrap .i64 (n47 + 1)), l49.cap - Int.toNat (IntKind.wrap .i64 (n47 + 1))⟩ w54 fun l56 w57 => May w57 ⟨w.heap.size, 3, none⟩ ∧ LetW (w57.setCell ⟨w.heap.size, 3, none⟩ (.slice l56.a l56.len l56.cap)) fun w58 => ∃ n59 : Int, w58.cell? ⟨w.heap.size, 0, none⟩ = some (.int .i64 n59) ∧ ∃ n60 : Int, w58.cell? ⟨w.heap.size, 1, none⟩ = some (.int .i64 n60) ∧ ∃ l61 : Sl, w58.cell? ⟨w.heap.size, 2, none⟩ = some (.slice l61.a l61.len l61.cap) ∧ ∃ l62 : Sl, w58.cell? ⟨w.heap.size, 3, none⟩ = some (.slice l62.a l62.len l62.cap) ∧ MayN w58 ⟨w1.heap.size, 0, none⟩ 4 ∧ LetW (puts w58 ⟨w1.heap.size, 0, none⟩ 0 [.int .i64 n59, .int .i64 n60, .slice l61.a l61.len l61.cap, .slice l62.a l62.len l62.cap]) fun w63 => ∃ n64 : Int, w63.cell? ⟨w1.heap.size, 0, none⟩ = some (.int .i64 n64) ∧ ∃ n65 : Int, w63.cell? ⟨w1.heap.size, 1, none⟩ = some (.int .i64 n65) ∧ ∃ l66 : Sl, w63.cell? ⟨w1.heap.size, 2, none⟩ = some (.slice l66.a l66.len l66.cap) ∧ ∃ l67 : Sl, w63.cell? ⟨w1.heap.size, 3, none⟩ = some (.slice l67.a l67.len l67.cap) ∧ K (.agg #[.int .i64 n64, .int .i64 n65, .slice l66.a l66.len l66.cap, .slice l67.a l67.len l67.cap]) w63) (∃ l68 : Sl, w46.drew.cell? ⟨w.heap.size, 3, none⟩ = some (.slice l68.a l68.len l68.cap) ∧ ∃ l69 : Sl, w46.drew.cell? ⟨w.heap.size, 2, none⟩ = some (.slice l69.a l69.len l69.cap) ∧ 0 ≤ (n3 : Int) ∧ (n3 : Int) < ((l69.len : Nat) : Int) ∧ ∃ q70 : Addr, (l69.a : Option Addr) = some q70 ∧ ∃ n71 : Int, w46.drew.cell? ((q70.add (Int.toNat n3 * 8)).add 0) = some (.int .i64 n71) ∧ 0 ≤ (n47 : Int) ∧ (n47 : Int) < ((l68.len : Nat) : Int) ∧ ∃ q72 : Addr, (l68.a : Option Addr) = some q72 ∧ May w46.drew ((q72.add (Int.toNat n47 * 2)).add 1) ∧ LetW (w46.drew.setCell ((q72.add (Int.toNat n47 * 2)).add 1) (.int .i64 n71)) fun w73 => ∃ n74 : Int, w73.cell? ⟨w.heap.size, 0, none⟩ = some (.int .i64 n74) ∧ ∃ n75 : Int, w73.cell? ⟨w.heap.size, 1, none⟩ = some (.int .i64 n75) ∧ ∃ l76 : Sl, w73.cell? ⟨w.heap.size, 2, none⟩ = some (.slice l76.a l76.len l76.cap) ∧ ∃ l77 : Sl, w73.cell? ⟨w.heap.size, 3, none⟩ = some (.slice l77.a l77.len l77.cap) ∧ ∃ n78 : Int, w73.cell? ⟨w.heap.size, 0, none⟩ = some (.int .i64 n78) ∧ CallW Try.prog 111 #[.agg #[.int .i64 n74, .int .i64 n75, .slice l76.a l76.len l76.cap, .slice l77.a l77.len l77.cap], .int .i64 n3, .int .i64 n78] w73 fun v79 w80 => ∃ n81 : Int, ∃ n82 : Int, ∃ l83 : Sl, ∃ l84 : Sl, v79 = .agg #[.int .i64 n81, .int .i64 n82, .slice l83.a l83.len l83.cap, .slice l84.a l84.len l84.cap] ∧ MayN w80 ⟨w1.heap.size, 0, none⟩ 4 ∧ LetW (puts w80 ⟨w1.heap.size, 0, none⟩ 0 [.int .i64 n81, .int .i64 n82, .slice l83.a l83.len l83.cap, .slice l84.a l84.len l84.cap]) fun w85 => ∃ n86 : Int, w85.cell? ⟨w1.heap.size, 0, none⟩ = some (.int .i64 n86) ∧ ∃ n87 : Int, w85.cell? ⟨w1.heap.size, 1, none⟩ = some (.int .i64 n87) ∧ ∃ l88 : Sl, w85.cell? ⟨w1.heap.size, 2, none⟩ = some (.slice l88.a l88.len l88.cap) ∧ ∃ l89 : Sl, w85.cell? ⟨w1.heap.size, 3, none⟩ = some (.slice l89.a l89.len l89.cap) ∧ K (.agg #[.int .i64 n86, .int .i64 n87, .slice l88.a l88.len l88.cap, .slice l89.a l89.len l89.cap]) w85))) (((-1) : Int), (((-1) : Int), ((0 : Int), ()))) w2
theorem eq148 (a0_0 : Int) (a0_1 : Int) (a0_2 : Sl) (a0_3 : Sl) (a1 : Int) (w : World) (K : Value → World → Prop) : denFn Try.prog tt Try.f148 an148 [.agg #[.int .i64 a0_0, .int .i64 a0_1, .slice a0_2.a a0_2.len a0_2.cap, .slice a0_3.a a0_3.len a0_3.cap], .int .i64 a1] w K = W148 a0_0 a0_1 a0_2 a0_3 a1 w K := by kernel_rfl
theorem ok148 : OkFn Try.prog 148 := ⟨Try.f148, Try.func148, by kernel_rfl, by kernel_rfl⟩
theorem go148 {a0_0 : Int} {a0_1 : Int} {a0_2 : Sl} {a0_3 : Sl} {a1 : Int} {w : World} {K : Value → World → Prop} (h : W148 a0_0 a0_1 a0_2 a0_3 a1 w K) : CallW Try.prog 148 #[.agg #[.int .i64 a0_0, .int .i64 a0_1, .slice a0_2.a a0_2.len a0_2.cap, .slice a0_3.a a0_3.len a0_3.cap], .int .i64 a1] w K :=
  .inl ⟨ok148, denFn_sound tt_ok mix Try.func148 (by kernel_rfl) (eq148 a0_0 a0_1 a0_2 a0_3 a1 w K ▸ h)⟩

/- loop.example/g00008/spec.l11TakeLock -/
def an149 : Ann := (.seq .leaf (.seq .leaf (.seq .leaf (.seq (.seq .leaf (.cond (.seq .leaf (.seq (.seq .leaf (.in_ (.loop 716 [(10, .slice), (11, .int .i64)] (.seq (.seq .leaf (.cond .leaf .leaf)) (.seq (.in_ (.seq .leaf (.cond .leaf .leaf))) .leaf))))) (.seq .leaf (.seq (.seq .leaf (.in_ (.loop 204 [(10, .slice), (12, .int .i64)] (.seq (.seq .leaf (.cond .leaf .leaf)) (.seq (.in_ (.seq .leaf (.cond .leaf .leaf))) .leaf))))) (.seq .leaf (.seq .leaf .leaf)))))) .leaf)) (.seq (.seq .leaf (.cond (.seq .leaf .leaf) .leaf)) (.seq (.seq (.draw [0, 0, 2, 0, 14, 30, 62, 0, 255] [0, 1, 2, 3, 4, 5, 6, 7, 8]) (.cond (.seq .leaf .leaf) .leaf)) (.seq .leaf (.seq .leaf (.seq .leaf .leaf)))))))))
def W149 (a0_0 : Int) (a0_1 : Int) (a0_2 : Sl) (a0_3 : Sl) (a1 : Int) (a2 : Int) (w : World) (K : Value → World → Prop) : Prop :=
  LetW (w.alloc (.cells #[.int .i64 a0_0, .int .i64 a0_1, .slice a0_2.a a0_2.len a0_2.cap, .slice a0_3.a a0_3.len a0_3.cap] 43)) fun w1 => LetW (w1.alloc (.cells #[.int .i64 0, .int .i64 0, .slice none 0 0, .slice none 0 0] 43)) fun w2 => LetW (w2.alloc (.cells #[.int .i64 0, .int .i64 0] 45)) fun w3 => ∃ n4 : Int, w3.cell? ⟨w.heap.size, 0, none⟩ = some (.int .i64 n4) ∧ ∃ n5 : Int, w3.cell? ⟨w.heap.size, 1, none⟩ = some (.int .i64 n5) ∧ ∃ l6 : Sl, w3.cell? ⟨w.heap.size, 2, none⟩ = some (.slice l6.a l6.len l6.cap) ∧ ∃ l7 : Sl, w3.cell? ⟨w.heap.size, 3, none⟩ = some (.slice l7.a l7.len l7.cap) ∧ CallW Try.prog 121 #[.agg #[.int .i64 n4, .int .i64 n5, .slice l6.a l6.len l6.cap, .slice l7.a l7.len l7.cap], .int .i64 a2] w3 fun v8 w9 => ∃ n10 : Int, v8 = .int .i64 n10 ∧ ∃ l11 : Sl, w9.cell? ⟨w.heap.size, 2, none⟩ = some (.slice l11.a l11.len l11.cap) ∧ 0 ≤ (a1 : Int) ∧ (a1 : Int) < ((l11.len : Nat) : Int) ∧ ∃ q12 : Addr, (l11.a : Option Addr) = some q12 ∧ ∃ n13 : Int, w9.cell? ((q12.add (Int.toNat a1 * 8)).add 0) = some (.int .i64 n13) ∧ BIf (decide ((n10 : Int) < 0)) (LetW (w9.alloc (.cells #[] 122)) fun w14 => LoopW [.slice, .int .i64] (fun J17 => fun (l15 : Sl) (n16 : Int) w18 => ∃ l19 : Sl, w18.cell? ⟨w.heap.size, 3, none⟩ = some (.slice l19.a l19.len l19.cap) ∧ BIf (decide ((n16 : Int) < ((l19.len : Nat) : Int))) (∃ l20 : Sl, w18.cell? ⟨w.heap.size, 3, none⟩ = some (.slice l20.a l20.len l20.cap) ∧ 0 ≤ (n16 : Int) ∧ (n16 : Int) < ((l20.len : Nat) : Int) ∧ ∃ q21 : Addr, (l20.a : Option Addr) = some q21 ∧ ∃ n22 : Int, w18.cell? ((q21.add (Int.toNat n16 * 2)).add 0) = some (.int .i64 n22) ∧ BIf (decide ((n22 : Int) < a2)) (∃ l23 : Sl, w18.cell? ⟨w.heap.size, 3, none⟩ = some (.slice l23.a l23.len l23.cap) ∧ 0 ≤ (n16 : Int) ∧ (n16 : Int) < ((l23.len : Nat) : Int) ∧ ∃ q24 : Addr, (l23.a : Option Addr) = some q24 ∧ ∃ n25 : Int, w18.cell? ((q24.add (Int.toNat n16 * 2)).add 0) = some (.int .i64 n25) ∧ ∃ n26 : Int, w18.cell? ((q24.add (Int.toNat n16 * 2)).add 1) = some (.int .i64 n26) ∧ LetW (w18.alloc (.cells #[.int .i64 n25, .int .i64 n26] 122)) fun w27 => AppendW 122 ti122 l15 ⟨some ⟨w18.heap.size, 0, none⟩, 1, 1⟩ w27 fun l28 w29 => J17 l28 (IntKind.wrap .i64 (n16 + 1)) w29) (J17 l15 (IntKind.wrap .i64 (n16 + 1)) w18)) (LetW (w18.alloc (.cells #[.int .i64 a2, .int .i64 n13] 122)) fun w30 => AppendW 122 ti122 l15 ⟨some ⟨w18.heap.size, 0, none⟩, 1, 1⟩ w30 fun l31 w32 => LoopW [.slice, .int .i64] (fun J35 => fun (l33 : Sl) (n34 : Int) w36 => ∃ l37 : Sl, w36.cell? ⟨w.heap.size, 3, none⟩ = some (.slice l37.a l37.len l37.cap) ∧ BIf (decide ((n34 : Int) < ((l37.len : Nat) : Int))) (∃ l38 : Sl, w36.cell? ⟨w.heap.size, 3, none⟩ = some (.slice l38.a l38.len l38.cap) ∧ 0 ≤ (n34 : Int) ∧ (n34 : Int) < ((l38.len : Nat) : Int) ∧ ∃ q39 : Addr, (l38.a : Option Addr) = some q39 ∧ ∃ n40 : Int, w36.cell? ((q39.add (Int.toNat n34 * 2)).add 0) = some (.int .i64 n40) ∧ BIf (decide ((n40 : Int) > a2)) (∃ l41 : Sl, w36.cell? ⟨w.heap.size, 3, none⟩ = some (.slice l41.a l41.len l41.cap) ∧ 0 ≤ (n34 : Int) ∧ (n34 : Int) < ((l41.len : Nat) : Int) ∧ ∃ q42 : Addr, (l41.a : Option Addr) = some q42 ∧ ∃ n43 : Int, w36.cell? ((q42.add (Int.toNat n34 * 2)).add 0) = some (.int .i64 n43) ∧ ∃ n44 : Int, w36.cell? ((q42.add (Int.toNat n34 * 2)).add 1) = some (.int .i64 n44) ∧ LetW (w36.alloc (.cells #[.int .i64 n43, .int .i64 n44] 122)) fun w45 => AppendW 122 ti122 l33 ⟨some ⟨w36.heap.size, 0, none⟩, 1, 1⟩ w45 fun l46 w47 => J35 l46 (IntKind.wrap .i64 (n34 + 1)) w47) (J35 l33 (IntKind.wrap .i64 (n34 + 1)) w36)) (May w36 ⟨w.heap.size, 3, none⟩ ∧ LetW (w36.setCell ⟨w.heap.size, 3, none⟩ (.slice l33.a l33.len l33.cap)) fun w48 => ∃ n49 : Int, w48.cell? ⟨w.heap.size, 0, none⟩ = some (.int .i64 n49) ∧ ∃ n50 : Int, w48.cell? ⟨w.heap.size, 1, none⟩ = some (.int .i64 n50) ∧ ∃ l51 : Sl, w48.cell? ⟨w.heap.size, 2, none⟩ = some (.slice l51.a l51.len l51.cap) ∧ ∃ l52 : Sl, w48.cell? ⟨w.heap.size, 3, none⟩ = some (.slice l52.a l52.len l52.cap) ∧ MayN w48 ⟨w1.heap.size, 0, none⟩ 4 ∧ LetW (puts w48 ⟨w1.heap.size, 0, none⟩ 0 [.int .i64 n49, .int .i64 n50, .slice l51.a l51.len l51.cap, .slice l52.a l52.len l52.cap]) fun w53 => MayN w53 ⟨w2.heap.size, 0, none⟩ 2 ∧ LetW (puts w53 ⟨w2.heap.size, 0, none⟩ 0 [.int .i64 0, .int .i64 0]) fun w54 => ∃ n55 : Int, w54.cell? ⟨w1.heap.size, 0, none⟩ = some (.int .i64 n55) ∧ ∃ n56 : Int, w54.cell? ⟨w1.heap.size, 1, none⟩ = some (.int .i64 n56) ∧ ∃ l57 : Sl, w54.cell? ⟨w1.heap.size, 2, none⟩ = some (.slice l57.a l57.len l57.cap) ∧ ∃ l58 : Sl, w54.cell? ⟨w1.heap.size, 3, none⟩ = some (.slice l58.a l58.len l58.cap) ∧ ∃ n59 : Int, w54.cell? ⟨w2.heap.size, 0, none⟩ = some (.int .i64 n59) ∧ ∃ n60 : Int, w54.cell? ⟨w2.heap.size, 1, none⟩ = some (.int .i64 n60) ∧ K (.tuple #[.agg #[.int .i64 n55, .int .i64 n56, .slice l57.a l57.len l57.cap, .slice l58.a l58.len l58.cap], .agg #[.int .i64 n59, .int .i64 n60]]) w54)) ((l31 : Sl), ((0 : Int), ())) w32)) ((⟨some ⟨w9.heap.size, 0, none⟩, 0, 0⟩ : Sl), ((0 : Int), ())) w14) (∃ l61 : Sl, w9.cell? ⟨w.heap.size, 3, none⟩ = some (.slice l61.a l61.len l61.cap) ∧ 0 ≤ (n10 : Int) ∧ (n10 : Int) < ((l61.len : Nat) : Int) ∧ ∃ q62 : Addr, (l61.a : Option Addr) = some q62 ∧ ∃ n63 : Int, w9.cell? ((q62.add (Int.toNat n10 * 2)).add 1) = some (.int .i64 n63) ∧ BIf ((n63 : Int) == n13) (∃ n64 : Int, w9.cell? ⟨w.heap.size, 0, none⟩ = some (.int .i64 n64) ∧ ∃ n65 : Int, w9.cell? ⟨w.heap.size, 1, none⟩ = some (.int .i64 n65) ∧ ∃ l66 : Sl, w9.cell? ⟨w.heap.size, 2, none⟩ = some (.slice l66.a l66.len l66.cap) ∧ ∃ l67 : Sl, w9.cell? ⟨w.heap.size, 3, none⟩ = some (.slice l67.a l67.len l67.cap) ∧ MayN w9 ⟨w1.heap.size, 0, none⟩ 4 ∧ LetW (puts w9 ⟨w1.heap.size, 0, none⟩ 0 [.int .i64 n64, .int .i64 n65, .slice l66.a l66.len l66.cap, .slice l67.a l67.len l67.cap]) fun w68 => MayN w68 ⟨w2.heap.size, 0, none⟩ 2 ∧ LetW (puts w68 ⟨w2.heap.size, 0, none⟩ 0 [.int .i64 4, .int .i64 0]) fun w69 => ∃ n70 : Int, w69.cell? ⟨w1.heap.size, 0, none⟩ = some (.int .i64 n70) ∧ ∃ n71 : Int, w69.cell? ⟨w1.heap.size, 1, none⟩ = some (.int .i64 n71) ∧ ∃ l72 : Sl, w69.cell? ⟨w1.heap.size, 2, none⟩ = some (.slice l72.a l72.len l72.cap) ∧ ∃ l73 : Sl, w69.cell? ⟨w1.heap.size, 3, none⟩ = some (.slice l73.a l73.len l73.cap) ∧ ∃ n74 : Int, w69.cell? ⟨w2.heap.size, 0, none⟩ = some (.int .i64 n74) ∧ ∃ n75 : Int, w69.cell? ⟨w2.heap.size, 1, none⟩ = some (.int .i64 n75) ∧ K (.tuple #[.agg #[.int .i64 n70, .int .i64 n71, .slice l72.a l72.len l72.cap, .slice l73.a l73.len l73.cap], .agg #[.int .i64 n74, .int .i64 n75]]) w69) (∃ n76 : Int, w9.drew.cell? ⟨w.heap.size, 0, none⟩ = some (.int .i64 n76) ∧ ∃ n77 : Int, w9.drew.cell? ⟨w.heap.size, 1, none⟩ = some (.int .i64 n77) ∧ ∃ l78 : Sl, w9.drew.cell? ⟨w.heap.size, 2, none⟩ = some (.slice l78.a l78.len l78.cap) ∧ ∃ l79 : Sl, w9.drew.cell? ⟨w.heap.size, 3, none⟩ = some (.slice l79.a l79.len l79.cap) ∧ ∃ l80 : Sl, w9.drew.cell? ⟨w.heap.size, 3, none⟩ = some (.slice l80.a l80.len l80.cap) ∧ 0 ≤ (n10 : Int) ∧ (n10 : Int) < ((l80.len : Nat) : Int) ∧ ∃ q81 : Addr, (l80.a : Option Addr) = some q81 ∧ ∃ n82 : Int, w9.drew.cell? ((q81.add (Int.toNat n10 * 2)).add 1) = some (.int .i64 n82) ∧ CallW Try.prog 82 #[.agg #[.int .i64 n76, .int .i64 n77, .slice l78.a l78.len l78.cap, .slice l79.a l79.len l79.cap], .int .i64 n82, .int .i64 n13] w9.drew fun v83 w84 => ∃ b85 : Bool, v83 = .bool b85 ∧ BIf b85 (∃ n86 : Int, w84.cell? ⟨w.heap.size, 0, none⟩ = some (.int .i64 n86) ∧ ∃ n87 : Int, w84.cell? ⟨w.heap.size, 1, none⟩ = some (.int .i64 n87) ∧ ∃ l88 : Sl, w84.cell? ⟨w.heap.size, 2, none⟩ = some (.slice l88.a l88.len l88.cap) ∧ ∃ l89 : Sl, w84.cell? ⟨w.heap.size, 3, none⟩ = some (.slice l89.a l89.len l89.cap) ∧ MayN w84 ⟨w1.heap.size, 0, none⟩ 4 ∧ LetW (puts w84 ⟨w1.heap.size, 0, none⟩ 0 [.int .i64 n86, .int .i64 n87, .slice l88.a l88.len l88.cap, .slice l89.a l89.len l89.cap]) fun w90 => MayN w90 ⟨w2.heap.size, 0, none⟩ 2 ∧ LetW (puts w90 ⟨w2.heap.size, 0, none⟩ 0 [.int .i64 17, .int .i64 0]) fun w91 => ∃ n92 : Int, w91.cell? ⟨w1.heap.size, 0, none⟩ = some (.int .i64 n92) ∧ ∃ n93 : Int, w91.cell? ⟨w1.heap.size, 1, none⟩ = some (.int .i64 n93) ∧ ∃ l94 : Sl, w91.cell? ⟨w1.heap.size, 2, none⟩ = some (.slice l94.a l94.len l94.cap) ∧ ∃ l95 : Sl, w91.cell? ⟨w1.heap.size, 3, none⟩ = some (.slice l95.a l95.len l95.cap) ∧ ∃ n96 : Int, w91.cell? ⟨w2.heap.size, 0, none⟩ = some (.int .i64 n96) ∧ ∃ n97 : Int, w91.cell? ⟨w2.heap.size, 1, none⟩ = some (.int .i64 n97) ∧ K (.tuple #[.agg #[.int .i64 n92, .int .i64 n93, .slice l94.a l94.len l94.cap, .slice l95.a l95.len l95.cap], .agg #[.int .i64 n96, .int .i64 n97]]) w91) (∃ l98 : Sl, w84.cell? ⟨w.heap.size, 2, none⟩ = some (.slice l98.a l98.len l98.cap) ∧ 0 ≤ (a1 : Int) ∧ (a1 : Int) < ((l98.len : Nat) : Int) ∧ ∃ q99 : Addr, (l98.a : Option Addr) = some q99 ∧ May w84 ((q99.add (Int.toNat a1 * 8)).add 2) ∧ LetW (w84.setCell ((q99.add (Int.toNat a1 * 8)).add 2) (.int .i64 2)) fun w100 => ∃ l101 : Sl, w100.cell? ⟨w.heap.size, 2, none⟩ = some (.slice l101.a l101.len l101.cap) ∧ 0 ≤ (a1 : Int) ∧ (a1 : Int) < ((l101.len : Nat) : Int) ∧ ∃ q102 : Addr, (l101.a : Option Addr) = some q102 ∧ May w100 ((q102.add (Int.toNat a1 * 8)).add 7) ∧ LetW (w100.setCell ((q102.add (Int.toNat a1 * 8)).add 7) (.int .i64 a2)) fun w103 => ∃ n104 : Int, w103.cell? ⟨w.heap.size, 0, none⟩ = some (.int .i64 n104) ∧ ∃ n105 : Int, w103.cell? ⟨w.heap.size, 1, none⟩ = some (.int .i64 n105) ∧ ∃ l106 : Sl, w103.cell? ⟨w.heap.size, 2, none⟩ = some (.slice l106.a l106.len l106.cap) ∧ ∃ l107 : Sl, w103.cell? ⟨w.heap.size, 3, none⟩ = some (.slice l107.a l107.len l107.cap) ∧ MayN w103 ⟨w1.heap.size, 0, none⟩ 4 ∧ LetW (puts w103 ⟨w1.heap.size, 0, none⟩ 0 [.int .i64 n104, .int .i64 n105, .slice l106.a l106.len l106.cap, .slice l107.a l107.len l107.cap]) fun w108 => MayN w108 ⟨w2.heap.size, 0, none⟩ 2 ∧ LetW (puts w108 ⟨w2.heap.size, 0, none⟩ 0 [.int .i64 0, .int .i64 1]) fun w109 => ∃ n110 : Int, w109.cell? ⟨w1.heap.size, 0, none⟩ = some (.int .i64 n110) ∧ ∃ n111 : Int, w109.cell? ⟨w1.heap.size, 1, none⟩ = some (.int .i64 n111) ∧ ∃ l112 : Sl, w109.cell? ⟨w1.heap.size, 2, none⟩ = some (.slice l112.a l112.len l112.cap) ∧ ∃ l113 : Sl, w109.cell? ⟨w1.heap.size, 3, none⟩ = some (.slice l113.a l113.len l113.cap) ∧ ∃ n114 : Int, w109.cell? ⟨w2.heap.size, 0, none⟩ = some (.int .i64 n114) ∧ ∃ n115 : Int, w109.cell? ⟨w2.heap.size, 1, none⟩ = some (.int .i64 n115) ∧ K (.tuple #[.agg #[.int .i64 n110, .int .i64 n111, .slice l112.a l112.len l112.cap, .slice l113.a l113.len l113.cap], .agg #[.int .i64 n114, .int .i64 n115]]) w109)))
theorem eq149 (a0_0 : Int) (a0_1 : Int) (a0_2 : Sl) (a0_3 : Sl) (a1 : Int) (a2 : Int) (w : World) (K : Value → World → Prop) : denFn Try.prog tt Try.f149 an149 [.agg #[.int .i64 a0_0, .int .i64 a0_1, .slice a0_2.a a0_2.len a0_2.cap, .slice a0_3.a a0_3.len a0_3.cap], .int .i64 a1, .int .i64 a2] w K = W149 a0_0 a0_1 a0_2 a0_3 a1 a2 w K := by kernel_rfl
theorem ok149 : OkFn Try.prog 149 := ⟨Try.f149, Try.func149, by kernel_rfl, by kernel_rfl⟩
theorem go149 {a0_0 : Int} {a0_1 : Int} {a0_2 : Sl} {a0_3 : Sl} {a1 : Int} {a2 : Int} {w : World} {K : Value → World → Prop} (h : W149 a0_0 a0_1 a0_2 a0_3 a1 a2 w K) : CallW Try.prog 149 #[.agg #[.int .i64 a0_0, .int .i64 a0_1, .slice a0_2.a a0_2.len a0_2.cap, .slice a0_3.a a0_3.len a0_3.cap], .int .i64 a1, .int .i64 a2] w K :=
  .inl ⟨ok149, denFn_sound tt_ok mix Try.func149 (by kernel_rfl) (eq149 a0_0 a0_1 a0_2 a0_3 a1 a2 w K ▸ h)⟩

/- (*loop.example/g00008/impl.Sched).hand$1 -/
def an150 : Ann := (.seq .leaf (.seq (.draw [0, 1, 3, 7, 15, 31, 63, 127, 255, 511, 63, 2047, 4095, 8191] [0, 1, 2, 3, 4, 5, 6, 7, 8, 9, 10, 11, 12, 13]) .leaf))
def W150 (a0 : Option Addr) (c0 : Addr) (w : World) (K : Value → World → Prop) : Prop :=
  ∃ p1 : Addr, (a0 : Option Addr) = some p1 ∧ ∃ n2 : Int, w.drew.cell? (p1.add 2) = some (.int .i64 n2) ∧ BIf ((n2 : Int) == 2) (∃ p3 : Addr, (a0 : Option Addr) = some p3 ∧ ∃ n4 : Int, w.drew.cell? (p3.add 7) = some (.int .i64 n4) ∧ ∃ n5 : Int, w.drew.cell? c0 = some (.int .i64 n5) ∧ K (.bool ((n4 : Int) == n5)) w.drew) (K (.bool false) w.drew)
theorem eq150 (a0 : Option Addr) (c0 : Addr) (w : World) (K : Value → World → Prop) : denFn Try.prog tt Try.f150 an150 [.pointer a0, .pointer (some c0)] w K = W150 a0 c0 w K := by kernel_rfl
theorem ok150 : OkFn Try.prog 150 := ⟨Try.f150, Try.func150, by kernel_rfl, by kernel_rfl⟩
theorem go150 {a0 : Option Addr} {c0 : Addr} {w : World} {K : Value → World → Prop} (h : W150 a0 c0 w K) : CallW Try.prog 150 #[.pointer a0, .pointer (some c0)] w K :=
  .inl ⟨ok150, denFn_sound tt_ok mix Try.func150 (by kernel_rfl) (eq150 a0 c0 w K ▸ h)⟩

/- loop.example/g00008/spec.l11Prio -/
def an155 : Ann := (.seq .leaf (.seq (.draw [0, 0, 2, 0, 0, 24, 62, 126, 255, 511] [0, 1, 2, 3, 4, 5, 6, 7, 8, 9]) (.seq (.seq .leaf (.in_ (.loop 6 [(5, .int .i64), (6, .int .i64)] (.seq (.seq .leaf (.cond .leaf .leaf)) (.seq (.in_ (.seq (.draw [0, 0, 2, 0, 14, 30, 62, 0, 255] [0, 1, 2, 3, 4, 5, 6, 7, 8]) (.cond (.seq (.draw [0, 0, 2, 0, 14, 30, 63, 127] [0, 1, 2, 3, 4, 5, 6, 7]) (.seq .leaf (.cond .leaf .leaf))) .leaf))) .leaf))))) (.seq .leaf .leaf))))
def W155 (a0_0 : Int) (a0_1 : Int) (a0_2 : Sl) (a0_3 : Sl) (a1 : Int) (w : World) (K : Value → World → Prop) : Prop :=
  LetW (w.alloc (.cells #[.int .i64 a0_0, .int .i64 a0_1, .slice a0_2.a a0_2.len a0_2.cap, .slice a0_3.a a0_3.len a0_3.cap] 43)) fun w1 => ∃ n2 : Int, w1.drew.cell? ⟨w.heap.size, 0, none⟩ = some (.int .i64 n2) ∧ ∃ n3 : Int, w1.drew.cell? ⟨w.heap.size, 1, none⟩ = some (.int .i64 n3) ∧ ∃ l4 : Sl, w1.drew.cell? ⟨w.heap.size, 2, none⟩ = some (.slice l4.a l4.len l4.cap) ∧ ∃ l5 : Sl, w1.drew.cell? ⟨w.heap.size, 3, none⟩ = some (.slice l5.a l5.len l5.cap) ∧ ∃ l6 : Sl, w1.drew.cell? ⟨w.heap.size, 2, none⟩ = some (.slice l6.a l6.len l6.cap) ∧ ∃ n7 : Int, w1.drew.cell? ⟨w.heap.size, 0, none⟩ = some (.int .i64 n7) ∧ ∃ n8 : Int, w1.drew.cell? ⟨w.heap.size, 1, none⟩ = some (.int .i64 n8) ∧ ∃ l9 : Sl, w1.drew.cell? ⟨w.heap.size, 2, none⟩ = some (.slice l9.a l9.len l9.cap) ∧ ∃ l10 : Sl, w1.drew.cell? ⟨w.heap.size, 3, none⟩ = some (.slice l10.a l10.len l10.cap) ∧ CallW Try.prog 80 #[.agg #[.int .i64 n7, .int .i64 n8, .slice l9.a l9.len l9.cap, .slice l10.a l10.len l10.cap], .int .i64 a1] w1.drew fun v11 w12 => ∃ n13 : Int, v11 = .int .i64 n13 ∧ (∃ l14 : Sl, w12.cell? ⟨w.heap.size, 2, none⟩ = some (.slice l14.a l14.len l14.cap) ∧ (.slice l14.a l14.len l14.cap : Value) = (.slice l6.a l6.len l6.cap : Value)) ∧ (∃ n15 : Int, w12.cell? ⟨w.heap.size, 0, none⟩ = some (.int .i64 n15) ∧ ∃ n16 : Int, w12.cell? ⟨w.heap.size, 1, none⟩ = some (.int .i64 n16) ∧ ∃ l17 : Sl, w12.cell? ⟨w.heap.size, 2, none⟩ = some (.slice l17.a l17.len l17.cap) ∧ ∃ l18 : Sl, w12.cell? ⟨w.heap.size, 3, none⟩ = some (.slice l18.a l18.len l18.cap) ∧ (.agg #[.int .i64 n15, .int .i64 n16, .slice l17.a l17.len l17.cap, .slice l18.a l18.len l18.cap] : Value) = (.agg #[.int .i64 n2, .int .i64 n3, .slice l4.a l4.len l4.cap, .slice l5.a l5.len l5.cap] : Value)) ∧ 0 ≤ (n13 : Int) ∧ (n13 : Int) < ((l6.len : Nat) : Int) ∧ ∃ q19 : Addr, (l6.a : Option Addr) = some q19 ∧ ∃ n20 : Int, w12.cell? ((q19.add (Int.toNat n13 * 8)).add 0) = some (.int .i64 n20) ∧ ∃ n21 : Int, w12.cell? ((q19.add (Int.toNat n13 * 8)).add 1) = some (.int .i64 n21) ∧ ∃ n22 : Int, w12.cell? ((q19.add (Int.toNat n13 * 8)).add 2) = some (.int .i64 n22) ∧ ∃ n23 : Int, w12.cell? ((q19.add (Int.toNat n13 * 8)).add 3) = some (.int .i64 n23) ∧ ∃ n24 : Int, w12.cell? ((q19.add (Int.toNat n13 * 8)).add 4) = some (.int .i64 n24) ∧ ∃ n25 : Int, w12.cell? ((q19.add (Int.toNat n13 * 8)).add 5) = some (.int .i64 n25) ∧ ∃ n26 : Int, w12.cell? ((q19.add (Int.toNat n13 * 8)).add 6) = some (.int .i64 n26) ∧ ∃ n27 : Int, w12.cell? ((q19.add (Int.toNat n13 * 8)).add 7) = some (.int .i64 n27) ∧ CallW Try.prog 157 #[.agg #[.int .i64 n2, .int .i64 n3, .slice l4.a l4.len l4.cap, .slice l5.a l5.len l5.cap], .agg #[.int .i64 n20, .int .i64 n21, .int .i64 n22, .int .i64 n23, .int .i64 n24, .int .i64 n25, .int .i64 n26, .int .i64 n27]] w12 fun v28 w29 => ∃ n30 : Int, v28 = .int .i64 n30 ∧ LoopW [.int .i64, .int .i64] (fun J33 => fun (n31 : Int) (n32 : Int) w34 => ∃ l35 : Sl, w34.cell? ⟨w.heap.size, 2, none⟩ = some (.slice l35.a l35.len l35.cap) ∧ BIf (decide ((n32 : Int) < ((l35.len : Nat) : Int))) (∃ n36 : Int, w34.drew.cell? ⟨w.heap.size, 0, none⟩ = some (.int .i64 n36) ∧ ∃ n37 : Int, w34.drew.cell? ⟨w.heap.size, 1, none⟩ = some (.int .i64 n37) ∧ ∃ l38 : Sl, w34.drew.cell? ⟨w.heap.size, 2, none⟩ = some (.slice l38.a l38.len l38.cap) ∧ ∃ l39 : Sl, w34.drew.cell? ⟨w.heap.size, 3, none⟩ = some (.slice l39.a l39.len l39.cap) ∧ ∃ l40 : Sl, w34.drew.cell? ⟨w.heap.size, 2, none⟩ = some (.slice l40.a l40.len l40.cap) ∧ 0 ≤ (n32 : Int) ∧ (n32 : Int) < ((l40.len : Nat) : Int) ∧ ∃ q41 : Addr, (l40.a : Option Addr) = some q41 ∧ ∃ n42 : Int, w34.drew.cell? ((q41.add (Int.toNat n32 * 8)).add 0) = some (.int .i64 n42) ∧ CallW Try.prog 82 #[.agg #[.int .i64 n36, .int .i64 n37, .slice l38.a l38.len l38.cap, .slice l39.a l39.len l39.cap], .int .i64 n42, .int .i64 a1] w34.drew fun v43 w44 => ∃ b45 : Bool, v43 = .bool b45 ∧ BIf b45 (∃ n46 : Int, w44.drew.cell? ⟨w.heap.size, 0, none⟩ = some (.int .i64 n46) ∧ ∃ n47 : Int, w44.drew.cell? ⟨w.heap.size, 1, none⟩ = some (.int .i64 n47) ∧ ∃ l48 : Sl, w44.drew.cell? ⟨w.heap.size, 2, none⟩ = some (.slice l48.a l48.len l48.cap) ∧ ∃ l49 : Sl, w44.drew.cell? ⟨w.heap.size, 3, none⟩ = some (.slice l49.a l49.len l49.cap) ∧ ∃ l50 : Sl, w44.drew.cell? ⟨w.heap.size, 2, none⟩ = some (.slice l50.a l50.len l50.cap) ∧ 0 ≤ (n32 : Int) ∧ (n32 : Int) < ((l50.len : Nat) : Int) ∧ ∃ q51 : Addr, (l50.a : Option Addr) = some q51 ∧ ∃ n52 : Int, w44.drew.cell? ((q51.add (Int.toNat n32 * 8)).add 0) = some (.int .i64 n52) ∧ ∃ n53 : Int, w44.drew.cell? ((q51.add (Int.toNat n32 * 8)).add 1) = some (.int .i64 n53) ∧ ∃ n54 : Int, w44.drew.cell? ((q51.add (Int.toNat n32 * 8)).add 2) = some (.int .i64 n54) ∧ ∃ n55 : Int, w44.drew.cell? ((q51.add (Int.toNat n32 * 8)).add 3) = some (.int .i64 n55) ∧ ∃ n56 : Int, w44.drew.cell? ((q51.add (Int.toNat n32 * 8)).add 4) = some (.int .i64 n56) ∧ ∃ n57 : Int, w44.drew.cell? ((q51.add (Int.toNat n32 * 8)).add 5) = some (.int .i64 n57) ∧ ∃ n58 : Int, w44.drew.cell? ((q51.add (Int.toNat n32 * 8)).add 6) = some (.int .i64 n58) ∧ ∃ n59 : Int, w44.drew.cell? ((q51.add (Int.toNat n32 * 8)).add 7) = some (.int .i64 n59) ∧ CallW Try.prog 157 #[.agg #[.int .i64 n46, .int .i64 n47, .slice l48.a l48.len l48.cap, .slice l49.a l49.len l49.cap], .agg #[.int .i64 n52, .int .i64 n53, .int .i64 n54, .int .i64 n55, .int .i64 n56, .int .i64 n57, .int .i64 n58, .int .i64 n59]] w44.drew fun v60 w61 => ∃ n62 : Int, v60 = .int .i64 n62 ∧ BIf (decide ((n62 : Int) > n31)) (J33 n62 (IntKind.wrap .i64 (n32 + 1)) w61) (J33 n31 (IntKind.wrap .i64 (n32 + 1)) w61)) (J33 n31 (IntKind.wrap .i64 (n32 + 1)) w44)) (K (.int .i64 n31) w34)) ((n30 : Int), ((0 : Int), ())) w29
theorem eq155 (a0_0 : Int) (a0_1 : Int) (a0_2 : Sl) (a0_3 : Sl) (a1 : Int) (w : World) (K : Value → World → Prop) : denFn Try.prog tt Try.f155 an155 [.agg #[.int .i64 a0_0, .int .i64 a0_1, .slice a0_2.a a0_2.len a0_2.cap, .slice a0_3.a a0_3.len a0_3.cap], .int .i64 a1] w K = W155 a0_0 a0_1 a0_2 a0_3 a1 w K := by kernel_rfl
theorem ok155 : OkFn Try.prog 155 := ⟨Try.f155, Try.func155, by kernel_rfl, by kernel_rfl⟩
theorem go155 {a0_0 : Int} {a0_1 : Int} {a0_2 : Sl} {a0_3 : Sl} {a1 : Int} {w : World} {K : Value → World → Prop} (h : W155 a0_0 a0_1 a0_2 a0_3 a1 w K) : CallW Try.prog 155 #[.agg #[.int .i64 a0_0, .int .i64 a0_1, .slice a0_2.a a0_2.len a0_2.cap, .slice a0_3.a a0_3.len a0_3.cap], .int .i64 a1] w K :=
  .inl ⟨ok155, denFn_sound tt_ok mix Try.func155 (by kernel_rfl) (eq155 a0_0 a0_1 a0_2 a0_3 a1 w K ▸ h)⟩

/- loop.example/g00008/spec.l11Own -/
def an157 : Ann := (.seq .leaf (.seq .leaf (.join 0 [(5, .int .i64)] (.seq .leaf (.cond .leaf .leaf)) (.seq (.seq .leaf (.cond (.seq .leaf .leaf) .leaf)) (.seq .leaf .leaf)))))
def W157 (a0_0 : Int) (a0_1 : Int) (a0_2 : Sl) (a0_3 : Sl) (a1_0 : Int) (a1_1 : Int) (a1_2 : Int) (a1_3 : Int) (a1_4 : Int) (a1_5 : Int) (a1_6 : Int) (a1_7 : Int) (w : World) (K : Value → World → Prop) : Prop :=
  LetW (w.alloc (.cells #[.int .i64 a0_0, .int .i64 a0_1, .slice a0_2.a a0_2.len a0_2.cap, .slice a0_3.a a0_3.len a0_3.cap] 43)) fun w1 => LetW (w1.alloc (.cells #[.int .i64 a1_0, .int .i64 a1_1, .int .i64 a1_2, .int .i64 a1_3, .int .i64 a1_4, .int .i64 a1_5, .int .i64 a1_6, .int .i64 a1_7] 61)) fun w2 => ∃ n3 : Int, w2.cell? ⟨w1.heap.size, 1, none⟩ = some (.int .i64 n3) ∧ JoinW [.int .i64] (fun J5 => ∃ n7 : Int, w2.cell? ⟨w1.heap.size, 2, none⟩ = some (.int .i64 n7) ∧ BIf ((n7 : Int) == 1) (∃ n8 : Int, w2.cell? ⟨w.heap.size, 0, none⟩ = some (.int .i64 n8) ∧ ∃ n9 : Int, w2.cell? ⟨w1.heap.size, 5, none⟩ = some (.int .i64 n9) ∧ (16 : Int) ≠ 0 ∧ J5 (IntKind.wrap .i64 (n3 + (IntKind.wrap .i64 (Int.tdiv (IntKind.wrap .i64 (n8 - n9)) 16)))) w2) (J5 n3 w2)) (fun (n4 : Int) w6 => BIf (decide ((n4 : Int) > 7)) (K (.int .i64 7) w6) (K (.int .i64 n4) w6))
theorem eq157 (a0_0 : Int) (a0_1 : Int) (a0_2 : Sl) (a0_3 : Sl) (a1_0 : Int) (a1_1 : Int) (a1_2 : Int) (a1_3 : Int) (a1_4 : Int) (a1_5 : Int) (a1_6 : Int) (a1_7 : Int) (w : World) (K : Value → World → Prop) : denFn Try.prog tt Try.f157 an157 [.agg #[.int .i64 a0_0, .int .i64 a0_1, .slice a0_2.a a0_2.len a0_2.cap, .slice a0_3.a a0_3.len a0_3.cap], .agg #[.int .i64 a1_0, .int .i64 a1_1, .int .i64 a1_2, .int .i64 a1_3, .int .i64 a1_4, .int .i64 a1_5, .int .i64 a1_6, .int .i64 a1_7]] w K = W157 a0_0 a0_1 a0_2 a0_3 a1_0 a1_1 a1_2 a1_3 a1_4 a1_5 a1_6 a1_7 w K := by kernel_rfl
theorem ok157 : OkFn Try.prog 157 := ⟨Try.f157, Try.func157, by kernel_rfl, by kernel_rfl⟩
theorem go157 {a0_0 : Int} {a0_1 : Int} {a0_2 : Sl} {a0_3 : Sl} {a1_0 : Int} {a1_1 : Int} {a1_2 : Int} {a1_3 : Int} {a1_4 : Int} {a1_5 : Int} {a1_6 : Int} {a1_7 : Int} {w : World} {K : Value → World → Prop} (h : W157 a0_0 a0_1 a0_2 a0_3 a1_0 a1_1 a1_2 a1_3 a1_4 a1_5 a1_6 a1_7 w K) : CallW Try.prog 157 #[.agg #[.int .i64 a0_0, .int .i64 a0_1, .slice a0_2.a a0_2.len a0_2.cap, .slice a0_3.a a0_3.len a0_3.cap], .agg #[.int .i64 a1_0, .int .i64 a1_1, .int .i64 a1_2, .int .i64 a1_3, .int .i64 a1_4, .int .i64 a1_5, .int .i64 a1_6, .int .i64 a1_7]] w K :=
  .inl ⟨ok157, denFn_sound tt_ok mix Try.func157 (by kernel_rfl) (eq157 a0_0 a0_1 a0_2 a0_3 a1_0 a1_1 a1_2 a1_3 a1_4 a1_5 a1_6 a1_7 w K ▸ h)⟩

end Go.Proofs.Yteigefjiifihpaa

/- The types of the laws' parameters, as values of Lean's. Conditions: none. -/
set_option linter.unusedVariables false
set_option maxRecDepth 100000
namespace Go.Proofs.Yteigefjiifihpaa
open Go Go.Den
structure DThread where
  Id : Int
  Base : Int
  State : Int
  Line : Int
  Left : Int
  Since : Int
  Until : Int
  Wait : Int
def DThread.cells (x : DThread) : List Value := [.int .i64 x.Id, .int .i64 x.Base, .int .i64 x.State, .int .i64 x.Line, .int .i64 x.Left, .int .i64 x.Since, .int .i64 x.Until, .int .i64 x.Wait]
structure DLock where
  Id : Int
  Owner : Int
def DLock.cells (x : DLock) : List Value := [.int .i64 x.Id, .int .i64 x.Owner]
structure DSched where
  Now : Int
  Seq : Int
  Threads : List DThread
  Locks : List DLock
structure DSchedOp where
  Kind : Int
  Id : Int
  N : Int
def DSchedOp.cells (x : DSchedOp) : List Value := [.int .i64 x.Kind, .int .i64 x.Id, .int .i64 x.N]
end Go.Proofs.Yteigefjiifihpaa

/- FnExactPick: the state in memory, and the small functions of both sides. Conditions: none. -/
set_option linter.unusedVariables false
set_option linter.unusedSimpArgs false
namespace Go.Proofs.Yteigefjiifihpaa
open Go Go.Den
def thrs (l : List DThread) : List Value := l.flatMap DThread.cells
def lcks (l : List DLock) : List Value := l.flatMap DLock.cells
/-- Threads and locks, in memory. -/
structure SAt (w : World) (t l : Sl) (d : DSched) : Prop where
  tl : t.len = d.Threads.length
  tr : RowAt w t.a (t.len * 8) (thrs d.Threads)
  ll : l.len = d.Locks.length
  lr : RowAt w l.a (l.len * 2) (lcks d.Locks)
  few : d.Threads.length ≤ 1048576 ∧ d.Locks.length ≤ 1048576
theorem SAt.ext {w w' : World} {t l : Sl} {d : DSched} (h : SAt w t l d) (e : Ext w w') : SAt w' t l d := ⟨h.tl, e.row h.tr, h.ll, e.row h.lr, h.few⟩
theorem SAt.thr {w : World} {t l : Sl} {d : DSched} (h : SAt w t l d) {i : Nat} {x : DThread} (hx : d.Threads[i]? = some x) : ∃ p, t.a = some p ∧ ∀ j v, x.cells[j]? = some v → w.cell? ((p.add (i * 8)).add j) = some v :=
  RowAt.elem (f := DThread.cells) (z := 8) (fun _ => rfl) h.tr hx (by omega)
theorem SAt.lck {w : World} {t l : Sl} {d : DSched} (h : SAt w t l d) {i : Nat} {x : DLock} (hx : d.Locks[i]? = some x) : ∃ p, l.a = some p ∧ ∀ j v, x.cells[j]? = some v → w.cell? ((p.add (i * 2)).add j) = some v :=
  RowAt.elem (f := DLock.cells) (z := 2) (fun _ => rfl) h.lr hx (by omega)
/-- The state's own cells. -/
def sCells (n q : Int) (t l : Sl) : List Value := [.int .i64 n, .int .i64 q, .slice t.a t.len t.cap, .slice l.a l.len l.cap]
def sAgg (n q : Int) (t l : Sl) : Value := .agg #[.int .i64 n, .int .i64 q, .slice t.a t.len t.cap, .slice l.a l.len l.cap]
def idT (d : DSched) (id : Int) : Int := idxFrom (fun x : DThread => x.Id == id) d.Threads 0
def idL (d : DSched) (id : Int) : Int := idxFrom (fun x : DLock => x.Id == id) d.Locks 0
theorem c79 {n : Int} {w : World} : CallW Try.prog 79 #[.int .i64 n] w (fun v w' => v = .bool (decide (n ≥ 0) && decide (n ≤ 1099511627776)) ∧ w' = w) := by
  refine go79 ?_
  unfold W79
  simp only [join_and]
  exact ⟨by trivial, by trivial⟩
theorem c80 {n q : Int} {t l : Sl} {d : DSched} {id : Int} {w : World} (h : SAt w t l d) : CallW Try.prog 80 #[sAgg n q t l, .int .i64 id] w (fun v w' => v = .int .i64 (idT d id) ∧ Ext w w') := by
  refine go80 ?_
  unfold W80
  refine LetW_iff.2 ?_
  have hb : Blk (w.alloc (.cells #[.int .i64 n, .int .i64 q, .slice t.a t.len t.cap, .slice l.a l.len l.cap] 43)) w.heap.size (sCells n q t l) := blk_alloc w _ _
  have e1 := ext_alloc w (.cells #[.int .i64 n, .int .i64 q, .slice t.a t.len t.cap, .slice l.a l.len l.cap] 43)
  generalize w.alloc (.cells #[.int .i64 n, .int .i64 q, .slice t.a t.len t.cap, .slice l.a l.len l.cap] 43) = w1 at *
  have h1 := h.ext e1
  have hfew := h.few.1
  have htl := h.tl
  refine LoopW.m1 (fun (i : Int) w' => 0 ≤ i ∧ i ≤ t.len ∧ idxFrom (fun x : DThread => x.Id == id) (d.Threads.drop i.toNat) i.toNat = idT d id ∧ w' = w1) (fun (i : Int) _ => (t.len - i).toNat) ⟨by omega, by omega, rfl, rfl⟩ ?_
  rintro (i : Int) w1 ⟨hi0, hi1, hr, rfl⟩ J hJ
  obtain ⟨k, rfl⟩ := Int.eq_ofNat_of_zero_le hi0
  rw [Int.toNat_natCast] at hr ⊢
  refine ⟨t, hb.cell 2, BIf.dec (fun hlt => ?_) (fun hge => ?_)⟩
  · have hk : k < d.Threads.length := by omega
    have hget : d.Threads[k]? = some d.Threads[k] := List.getElem?_eq_getElem hk
    obtain ⟨p, hp, hc⟩ := h1.thr hget
    rw [idxFrom_step _ _ _ hk] at hr
    refine ⟨t, hb.cell 2, hi0, hlt, p, hp, _, hc 0 _ rfl, BIf.eq (fun e => ?_) (fun e => ?_)⟩
    · rw [if_pos (by simpa using e)] at hr
      exact ⟨by rw [hr], e1⟩
    · rw [if_neg (by simpa using e)] at hr
      rw [w64 (by omega) (by omega)]
      exact hJ _ _ ⟨by omega, by omega, hr, rfl⟩ (by omega)
  · rw [idxFrom_end _ _ _ (by omega)] at hr
    exact ⟨by rw [← hr], e1⟩
theorem c121 {n q : Int} {t l : Sl} {d : DSched} {id : Int} {w : World} (h : SAt w t l d) : CallW Try.prog 121 #[sAgg n q t l, .int .i64 id] w (fun v w' => v = .int .i64 (idL d id) ∧ Ext w w') := by
  refine go121 ?_
  unfold W121
  refine LetW_iff.2 ?_
  have hb : Blk (w.alloc (.cells #[.int .i64 n, .int .i64 q, .slice t.a t.len t.cap, .slice l.a l.len l.cap] 43)) w.heap.size (sCells n q t l) := blk_alloc w _ _
  have e1 := ext_alloc w (.cells #[.int .i64 n, .int .i64 q, .slice t.a t.len t.cap, .slice l.a l.len l.cap] 43)
  generalize w.alloc (.cells #[.int .i64 n, .int .i64 q, .slice t.a t.len t.cap, .slice l.a l.len l.cap] 43) = w1 at *
  have h1 := h.ext e1
  have hfew := h.few.2
  have htl := h.ll
  refine LoopW.m1 (fun (i : Int) w' => 0 ≤ i ∧ i ≤ l.len ∧ idxFrom (fun x : DLock => x.Id == id) (d.Locks.drop i.toNat) i.toNat = idL d id ∧ w' = w1) (fun (i : Int) _ => (l.len - i).toNat) ⟨by omega, by omega, rfl, rfl⟩ ?_
  rintro (i : Int) w1 ⟨hi0, hi1, hr, rfl⟩ J hJ
  obtain ⟨k, rfl⟩ := Int.eq_ofNat_of_zero_le hi0
  rw [Int.toNat_natCast] at hr ⊢
  refine ⟨l, hb.cell 3, BIf.dec (fun hlt => ?_) (fun hge => ?_)⟩
  · have hk : k < d.Locks.length := by omega
    have hget : d.Locks[k]? = some d.Locks[k] := List.getElem?_eq_getElem hk
    obtain ⟨p, hp, hc⟩ := h1.lck hget
    rw [idxFrom_step _ _ _ hk] at hr
    refine ⟨l, hb.cell 3, hi0, hlt, p, hp, _, hc 0 _ rfl, BIf.eq (fun e => ?_) (fun e => ?_)⟩
    · rw [if_pos (by simpa using e)] at hr
      exact ⟨by rw [hr], e1⟩
    · rw [if_neg (by simpa using e)] at hr
      rw [w64 (by omega) (by omega)]
      exact hJ _ _ ⟨by omega, by omega, hr, rfl⟩ (by omega)
  · rw [idxFrom_end _ _ _ (by omega)] at hr
    exact ⟨by rw [← hr], e1⟩
/-- The program's side: the state lies at an address. -/
def PAt (w : World) (s : Addr) (n q : Int) (t l : Sl) : Prop := ∀ j v, (sCells n q t l)[j]? = some v → w.cell? (s.add j) = some v
/-- A thread's, a lock's address, by its place. -/
def ptrAt (a : Option Addr) (z : Nat) (i : Int) : Option Addr := if i < 0 then none else a.map (fun p => p.add (i.toNat * z))
theorem c84 {s : Addr} {n q : Int} {t l : Sl} {d : DSched} {id : Int} {w : World} (hs : PAt w s n q t l) (h : SAt w t l d) : CallW Try.prog 84 #[.pointer (some s), .int .i64 id] w (fun v w' => v = .pointer (ptrAt t.a 8 (idT d id)) ∧ w' = w) := by
  refine go84 ?_
  unfold W84
  have hfew := h.few.1
  have htl := h.tl
  refine ⟨s, rfl, t, hs 2 _ rfl, ?_⟩
  refine LoopW.m1 (fun (i : Int) w' => 0 ≤ i ∧ i ≤ t.len ∧ idxFrom (fun x : DThread => x.Id == id) (d.Threads.drop i.toNat) i.toNat = idT d id ∧ w' = w) (fun (i : Int) _ => (t.len - i).toNat) ⟨by omega, by omega, rfl, rfl⟩ ?_
  rintro (i : Int) w ⟨hi0, hi1, hr, rfl⟩ J hJ
  obtain ⟨k, rfl⟩ := Int.eq_ofNat_of_zero_le hi0
  rw [Int.toNat_natCast] at hr ⊢
  refine BIf.dec (fun hlt => ?_) (fun hge => ?_)
  · have hk : k < d.Threads.length := by omega
    have hget : d.Threads[k]? = some d.Threads[k] := List.getElem?_eq_getElem hk
    obtain ⟨p, hp, hc⟩ := h.thr hget
    rw [idxFrom_step _ _ _ hk] at hr
    refine ⟨s, rfl, t, hs 2 _ rfl, hi0, hlt, p, hp, _, hc 0 _ rfl, BIf.eq (fun e => ?_) (fun e => ?_)⟩
    · rw [if_pos (by simpa using e)] at hr
      refine ⟨s, rfl, t, hs 2 _ rfl, hi0, hlt, p, hp, ?_, rfl⟩
      unfold ptrAt
      rw [← hr, if_neg (by omega), hp, Int.toNat_natCast]; rfl
    · rw [if_neg (by simpa using e)] at hr
      rw [w64 (by omega) (by omega)]
      exact hJ _ _ ⟨by omega, by omega, hr, rfl⟩ (by omega)
  · rw [idxFrom_end _ _ _ (by omega)] at hr
    refine ⟨?_, rfl⟩
    unfold ptrAt
    rw [← hr]; rfl
theorem c83 {s : Addr} {n q : Int} {t l : Sl} {d : DSched} {id : Int} {w : World} (hs : PAt w s n q t l) (h : SAt w t l d) : CallW Try.prog 83 #[.pointer (some s), .int .i64 id] w (fun v w' => v = .pointer (ptrAt l.a 2 (idL d id)) ∧ w' = w) := by
  refine go83 ?_
  unfold W83
  have hfew := h.few.2
  have htl := h.ll
  refine ⟨s, rfl, l, hs 3 _ rfl, ?_⟩
  refine LoopW.m1 (fun (i : Int) w' => 0 ≤ i ∧ i ≤ l.len ∧ idxFrom (fun x : DLock => x.Id == id) (d.Locks.drop i.toNat) i.toNat = idL d id ∧ w' = w) (fun (i : Int) _ => (l.len - i).toNat) ⟨by omega, by omega, rfl, rfl⟩ ?_
  rintro (i : Int) w ⟨hi0, hi1, hr, rfl⟩ J hJ
  obtain ⟨k, rfl⟩ := Int.eq_ofNat_of_zero_le hi0
  rw [Int.toNat_natCast] at hr ⊢
  refine BIf.dec (fun hlt => ?_) (fun hge => ?_)
  · have hk : k < d.Locks.length := by omega
    have hget : d.Locks[k]? = some d.Locks[k] := List.getElem?_eq_getElem hk
    obtain ⟨p, hp, hc⟩ := h.lck hget
    rw [idxFrom_step _ _ _ hk] at hr
    refine ⟨s, rfl, l, hs 3 _ rfl, hi0, hlt, p, hp, _, hc 0 _ rfl, BIf.eq (fun e => ?_) (fun e => ?_)⟩
    · rw [if_pos (by simpa using e)] at hr
      refine ⟨s, rfl, l, hs 3 _ rfl, hi0, hlt, p, hp, ?_, rfl⟩
      unfold ptrAt
      rw [← hr, if_neg (by omega), hp, Int.toNat_natCast]; rfl
    · rw [if_neg (by simpa using e)] at hr
      rw [w64 (by omega) (by omega)]
      exact hJ _ _ ⟨by omega, by omega, hr, rfl⟩ (by omega)
  · rw [idxFrom_end _ _ _ (by omega)] at hr
    refine ⟨?_, rfl⟩
    unfold ptrAt
    rw [← hr]; rfl
end Go.Proofs.Yteigefjiifihpaa

/- FnExactPick: whom a thread waits for, on the reference's side. Conditions: none. -/
set_option linter.unusedVariables false
set_option linter.unusedSimpArgs false
namespace Go.Proofs.Yteigefjiifihpaa
open Go Go.Den
theorem idxFrom_find {α : Type} (p : α → Bool) : ∀ (l : List α) (k : Nat), (idxFrom p l k = -1 ∧ l.find? p = none) ∨ ∃ i x, idxFrom p l k = ((k + i : Nat) : Int) ∧ l[i]? = some x ∧ l.find? p = some x
  | [], k => .inl ⟨rfl, rfl⟩
  | x :: r, k => by
    unfold idxFrom
    by_cases hp : p x = true
    · rw [if_pos hp]
      exact .inr ⟨0, x, rfl, rfl, by simp [List.find?, hp]⟩
    · rw [if_neg hp]
      have hp : p x = false := by simpa using hp
      rcases idxFrom_find p r (k + 1) with ⟨h1, h2⟩ | ⟨i, y, h1, h2, h3⟩
      · exact .inl ⟨h1, by simp [List.find?, hp, h2]⟩
      · exact .inr ⟨i + 1, y, by rw [h1]; congr 1; omega, by simpa using h2, by simp [List.find?, hp, h3]⟩
def thrOf (d : DSched) (id : Int) : Option DThread := d.Threads.find? (fun x => x.Id == id)
def lckOf (d : DSched) (id : Int) : Option DLock := d.Locks.find? (fun x => x.Id == id)
theorem idT_find (d : DSched) (id : Int) : (idT d id = -1 ∧ thrOf d id = none) ∨ ∃ i x, idT d id = ((i : Nat) : Int) ∧ d.Threads[i]? = some x ∧ thrOf d id = some x := by
  rcases idxFrom_find (fun x : DThread => x.Id == id) d.Threads 0 with h | ⟨i, x, h1, h2, h3⟩
  · exact .inl h
  · exact .inr ⟨i, x, by rw [← Nat.zero_add i]; exact h1, h2, h3⟩
theorem idL_find (d : DSched) (id : Int) : (idL d id = -1 ∧ lckOf d id = none) ∨ ∃ i x, idL d id = ((i : Nat) : Int) ∧ d.Locks[i]? = some x ∧ lckOf d id = some x := by
  rcases idxFrom_find (fun x : DLock => x.Id == id) d.Locks 0 with h | ⟨i, x, h1, h2, h3⟩
  · exact .inl h
  · exact .inr ⟨i, x, by rw [← Nat.zero_add i]; exact h1, h2, h3⟩
/-- Who has the lock that a thread waits for. -/
def nxt (d : DSched) (id : Int) : Int := match thrOf d id with
  | none => -1
  | some t => if t.State = 2 then (match lckOf d t.Wait with | none => -1 | some k => k.Owner) else -1
theorem c122 {n q : Int} {t l : Sl} {d : DSched} {id : Int} {w : World} (h : SAt w t l d) : CallW Try.prog 122 #[sAgg n q t l, .int .i64 id] w (fun v w' => v = .int .i64 (nxt d id) ∧ Ext w w') := by
  refine go122 ?_
  unfold W122
  refine LetW_iff.2 ?_
  have hb : Blk (w.alloc (.cells #[.int .i64 n, .int .i64 q, .slice t.a t.len t.cap, .slice l.a l.len l.cap] 43)) w.heap.size (sCells n q t l) := blk_alloc w _ _
  have e1 := ext_alloc w (.cells #[.int .i64 n, .int .i64 q, .slice t.a t.len t.cap, .slice l.a l.len l.cap] 43)
  generalize w.alloc (.cells #[.int .i64 n, .int .i64 q, .slice t.a t.len t.cap, .slice l.a l.len l.cap] 43) = w1 at *
  have h1 := h.ext e1
  have htl := h.tl
  have hll := h.ll
  refine ⟨n, hb.cell 0, q, hb.cell 1, t, hb.cell 2, l, hb.cell 3, (c80 h1).mono ?_⟩
  rintro _ w2 ⟨rfl, e2⟩
  have hb2 := hb.ext e2
  have h2 := h1.ext e2
  refine ⟨_, rfl, ?_⟩
  rcases idT_find d id with ⟨hi, hf⟩ | ⟨i, x, hi, hx, hf⟩
  · rw [hi]
    refine JoinW.each (BIf.t rfl (BIf.t rfl ⟨?_, Only.trans e1 e2⟩))
    unfold nxt; rw [hf]
  · have hil := (List.getElem?_eq_some_iff.1 hx).1
    rw [hi, Int.toNat_natCast]
    obtain ⟨p, hp, hc⟩ := h2.thr hx
    refine JoinW.each (BIf.f (decide_eq_false (by omega)) ⟨t, hb2.cell 2, by omega, by omega, p, hp, _, hc 2 _ rfl, ?_⟩)
    refine BIf.ne (fun hst => ⟨?_, Only.trans e1 e2⟩) (fun hst => ?_)
    · unfold nxt; rw [hf]; simp [hst]
    · have hb3 := hb2.ext (ext_drew w2)
      have h3 := h2.ext (ext_drew w2)
      obtain ⟨p', hp', hc'⟩ := h3.thr hx
      refine ⟨n, hb3.cell 0, q, hb3.cell 1, t, hb3.cell 2, l, hb3.cell 3, t, hb3.cell 2, by omega, by omega, p', hp', _, hc' 7 _ rfl, (c121 h3).mono ?_⟩
      rintro _ w4 ⟨rfl, e4⟩
      have hb4 := hb3.ext e4
      have h4 := h3.ext e4
      have eall : Ext w w4 := Only.trans e1 (Only.trans e2 (Only.trans (ext_drew w2) e4))
      have hn : nxt d id = match lckOf d x.Wait with | none => -1 | some k => k.Owner := by unfold nxt; rw [hf]; simp only [hst, if_true]
      refine ⟨_, rfl, ?_⟩
      rcases idL_find d x.Wait with ⟨hi, hf⟩ | ⟨j, y, hi, hy, hf⟩
      · rw [hi]
        exact BIf.t rfl ⟨by rw [hn, hf], eall⟩
      · have hjl := (List.getElem?_eq_some_iff.1 hy).1
        rw [hi, Int.toNat_natCast]
        obtain ⟨r, hr, hcr⟩ := h4.lck hy
        refine BIf.f (decide_eq_false (by omega)) ⟨l, hb4.cell 3, by omega, by omega, r, hr, _, hcr 1 _ rfl, ?_, eall⟩
        rw [hn, hf]
/-- Does the way from at come to 'on', within n steps? -/
def waitsN (d : DSched) (on : Int) : Nat → Int → Bool
  | 0, _ => false
  | n + 1, at_ => if at_ < 0 then false else if at_ = on then true else waitsN d on n (nxt d at_)
def waits (d : DSched) (id on : Int) : Bool := waitsN d on (d.Threads.length + 1) (nxt d id)
theorem c82 {n q : Int} {t l : Sl} {d : DSched} {id on : Int} {w : World} (h : SAt w t l d) : CallW Try.prog 82 #[sAgg n q t l, .int .i64 id, .int .i64 on] w (fun v w' => v = .bool (waits d id on) ∧ Ext w w') := by
  refine go82 ?_
  unfold W82
  refine LetW_iff.2 ?_
  have hb : Blk (w.alloc (.cells #[.int .i64 n, .int .i64 q, .slice t.a t.len t.cap, .slice l.a l.len l.cap] 43)) w.heap.size (sCells n q t l) := blk_alloc w _ _
  have e1 := ext_alloc w (.cells #[.int .i64 n, .int .i64 q, .slice t.a t.len t.cap, .slice l.a l.len l.cap] 43)
  generalize w.alloc (.cells #[.int .i64 n, .int .i64 q, .slice t.a t.len t.cap, .slice l.a l.len l.cap] 43) = w1 at *
  have h1 := h.ext e1
  have htl := h.tl
  have hfew := h.few.1
  refine ⟨n, hb.cell 0, q, hb.cell 1, t, hb.cell 2, l, hb.cell 3, (c122 h1).mono ?_⟩
  rintro _ w2 ⟨rfl, e2⟩
  refine ⟨_, rfl, ?_⟩
  refine LoopW.m2 (fun (a i : Int) w' => 0 ≤ i ∧ i ≤ t.len + 1 ∧ waitsN d on (t.len + 1 - i).toNat a = waits d id on ∧ Ext w1 w') (fun _ (i : Int) _ => (t.len + 1 - i).toNat) ⟨by omega, by omega, ?_, e2⟩ ?_
  · unfold waits; congr 1; omega
  rintro (a : Int) (i : Int) w3 ⟨hi0, hi1, hr, e3⟩ J hJ
  have hb3 := hb.ext e3
  have h3 := h1.ext e3
  refine ⟨t, hb3.cell 2, ?_⟩
  simp only [join_and]
  refine BIf.of (fun hc => ?_) (fun hc => ?_)
  · simp only [Bool.and_eq_true, decide_eq_true_eq] at hc
    rw [show (t.len + 1 - i).toNat = (t.len - i).toNat + 1 by omega] at hr
    rw [waitsN, if_neg (by omega)] at hr
    refine BIf.eq (fun e => ?_) (fun e => ?_)
    · rw [if_pos e] at hr
      exact ⟨by rw [← hr], Only.trans e1 e3⟩
    · rw [if_neg e] at hr
      refine ⟨n, hb3.cell 0, q, hb3.cell 1, t, hb3.cell 2, l, hb3.cell 3, (c122 h3).mono ?_⟩
      rintro _ w4 ⟨rfl, e4⟩
      refine ⟨_, rfl, ?_⟩
      rw [w64 (by omega) (by omega)]
      exact hJ _ _ _ ⟨by omega, by omega, by rw [← hr]; congr 1; omega, Only.trans e3 e4⟩ (by omega)
  · refine ⟨?_, Only.trans e1 e3⟩
    simp only [Bool.and_eq_false_iff, decide_eq_false_iff_not] at hc
    rw [← hr]
    rcases hc with hc | hc
    · rw [show (t.len + 1 - i).toNat = 0 by omega]; rfl
    · cases hk : (t.len + 1 - i).toNat with
      | zero => rfl
      | succ k => rw [waitsN, if_pos (by omega)]
end Go.Proofs.Yteigefjiifihpaa

/- FnExactPick: one thread, on the reference's side. Conditions: none. -/
set_option linter.unusedVariables false
set_option linter.unusedSimpArgs false
namespace Go.Proofs.Yteigefjiifihpaa
open Go Go.Den
def tAgg (x : DThread) : Value := .agg #[.int .i64 x.Id, .int .i64 x.Base, .int .i64 x.State, .int .i64 x.Line, .int .i64 x.Left, .int .i64 x.Since, .int .i64 x.Until, .int .i64 x.Wait]
def thrBad (d : DSched) (x : DThread) : Bool := decide (x.Id < 0) || decide (x.Id ≥ 32) || decide (x.Base < 0) || decide (x.Base > 7) || decide (x.Line < 1) || decide (x.Line > d.Seq) || decide (x.Left < 1) || decide (x.Left > 4) || decide (x.Since < 0) || decide (x.Since > d.Now)
def thrOk (d : DSched) (x : DThread) : Bool := if thrBad d x = true then false else if x.State = 1 then (x.Wait == -1 && x.Until == 0) else if x.State = 2 then (decide (idL d x.Wait ≥ 0) && x.Until == 0) else (x.State == 3 && x.Wait == -1 && decide (x.Until > 0))
theorem c81 {t l : Sl} {d : DSched} {x : DThread} {w : World} (h : SAt w t l d) : CallW Try.prog 81 #[sAgg d.Now d.Seq t l, tAgg x] w (fun v w' => v = .bool (thrOk d x) ∧ Ext w w') := by
  refine go81 ?_
  unfold W81
  refine LetW_iff.2 ?_
  have hb : Blk (w.alloc (.cells #[.int .i64 d.Now, .int .i64 d.Seq, .slice t.a t.len t.cap, .slice l.a l.len l.cap] 43)) w.heap.size (sCells d.Now d.Seq t l) := blk_alloc w _ _
  have e1 := ext_alloc w (.cells #[.int .i64 d.Now, .int .i64 d.Seq, .slice t.a t.len t.cap, .slice l.a l.len l.cap] 43)
  generalize w.alloc (.cells #[.int .i64 d.Now, .int .i64 d.Seq, .slice t.a t.len t.cap, .slice l.a l.len l.cap] 43) = w1 at *
  refine LetW_iff.2 ?_
  have hx : Blk (w1.alloc (.cells #[.int .i64 x.Id, .int .i64 x.Base, .int .i64 x.State, .int .i64 x.Line, .int .i64 x.Left, .int .i64 x.Since, .int .i64 x.Until, .int .i64 x.Wait] 61)) w1.heap.size x.cells := blk_alloc w1 _ _
  have e2 := ext_alloc w1 (.cells #[.int .i64 x.Id, .int .i64 x.Base, .int .i64 x.State, .int .i64 x.Line, .int .i64 x.Left, .int .i64 x.Since, .int .i64 x.Until, .int .i64 x.Wait] 61)
  generalize w1.alloc (.cells #[.int .i64 x.Id, .int .i64 x.Base, .int .i64 x.State, .int .i64 x.Line, .int .i64 x.Left, .int .i64 x.Since, .int .i64 x.Until, .int .i64 x.Wait] 61) = w2 at *
  have hb := hb.ext e2
  have e12 := Only.trans e1 e2
  have h2 := h.ext e12
  refine ⟨_, hx.cell 0, ?_⟩
  refine join_or_ex _ (hx.cell 0) ?_
  refine join_or_ex _ (hx.cell 1) ?_
  refine join_or_ex _ (hx.cell 1) ?_
  refine join_or_ex _ (hx.cell 3) ?_
  refine join_or_ex2 _ _ (hx.cell 3) (hb.cell 1) ?_
  refine join_or_ex _ (hx.cell 4) ?_
  refine join_or_ex _ (hx.cell 4) ?_
  refine join_or_ex _ (hx.cell 5) ?_
  refine join_or_ex2 _ _ (hx.cell 5) (hb.cell 0) ?_
  unfold thrOk
  refine BIf.of (fun hbad => ?_) (fun hgood => ?_)
  · rw [if_pos (show thrBad d x = true from hbad)]
    exact ⟨rfl, e12⟩
  · rw [if_neg (by rw [show thrBad d x = false from hgood]; simp)]
    refine ⟨_, hx.cell 2, BIf.eq (fun hs => ?_) (fun hs => BIf.eq (fun hs2 => ?_) (fun hs2 => ?_))⟩
    · rw [if_pos hs]
      refine ⟨_, hx.cell 7, join_and_ex _ (hx.cell 6) ⟨rfl, e12⟩⟩
    · rw [if_neg hs, if_pos hs2]
      refine ⟨_, hb.cell 0, _, hb.cell 1, t, hb.cell 2, l, hb.cell 3, _, hx.cell 7, (c121 h2).mono ?_⟩
      rintro _ w3 ⟨rfl, e3⟩
      refine ⟨_, rfl, join_and_ex _ ((hx.ext e3).cell 6) ⟨rfl, Only.trans e12 e3⟩⟩
    · rw [if_neg hs, if_neg hs2]
      refine ⟨_, hx.cell 2, join_and_ex _ (hx.cell 7) (join_and_ex _ (hx.cell 6) ⟨rfl, e12⟩)⟩
/-- A thread's own priority. -/
def own (d : DSched) (x : DThread) : Int := if (if x.State = 1 then x.Base + (d.Now - x.Since) / 16 else x.Base) > 7 then 7 else (if x.State = 1 then x.Base + (d.Now - x.Since) / 16 else x.Base)
/-- What is needed of the numbers. -/
def thrNum (d : DSched) (x : DThread) : Prop := 0 ≤ x.Base ∧ x.Base ≤ 7 ∧ 0 ≤ x.Since ∧ x.Since ≤ d.Now ∧ d.Now ≤ 1099511627776
theorem c157 {q : Int} {t l : Sl} {d : DSched} {x : DThread} {w : World} (hx : thrNum d x) : CallW Try.prog 157 #[sAgg d.Now q t l, tAgg x] w (fun v w' => v = .int .i64 (own d x) ∧ Ext w w') := by
  obtain ⟨n0, n1, n2, n3, n4⟩ := hx
  refine go157 ?_
  unfold W157
  refine LetW_iff.2 ?_
  have hb : Blk (w.alloc (.cells #[.int .i64 d.Now, .int .i64 q, .slice t.a t.len t.cap, .slice l.a l.len l.cap] 43)) w.heap.size (sCells d.Now q t l) := blk_alloc w _ _
  have e1 := ext_alloc w (.cells #[.int .i64 d.Now, .int .i64 q, .slice t.a t.len t.cap, .slice l.a l.len l.cap] 43)
  generalize w.alloc (.cells #[.int .i64 d.Now, .int .i64 q, .slice t.a t.len t.cap, .slice l.a l.len l.cap] 43) = w1 at *
  refine LetW_iff.2 ?_
  have hx : Blk (w1.alloc (.cells #[.int .i64 x.Id, .int .i64 x.Base, .int .i64 x.State, .int .i64 x.Line, .int .i64 x.Left, .int .i64 x.Since, .int .i64 x.Until, .int .i64 x.Wait] 61)) w1.heap.size x.cells := blk_alloc w1 _ _
  have e2 := ext_alloc w1 (.cells #[.int .i64 x.Id, .int .i64 x.Base, .int .i64 x.State, .int .i64 x.Line, .int .i64 x.Left, .int .i64 x.Since, .int .i64 x.Until, .int .i64 x.Wait] 61)
  generalize w1.alloc (.cells #[.int .i64 x.Id, .int .i64 x.Base, .int .i64 x.State, .int .i64 x.Line, .int .i64 x.Left, .int .i64 x.Since, .int .i64 x.Until, .int .i64 x.Wait] 61) = w2 at *
  have hb := hb.ext e2
  have e12 := Only.trans e1 e2
  refine ⟨_, hx.cell 1, JoinW.cut1 (fun (p : Int) w' => p = (if x.State = 1 then x.Base + (d.Now - x.Since) / 16 else x.Base) ∧ w' = w2) ?_ ?_⟩
  · refine ⟨_, hx.cell 2, BIf.eq (fun hs => ?_) (fun hs => ?_)⟩
    · refine ⟨_, hb.cell 0, _, hx.cell 5, by omega, ?_, rfl⟩
      rw [if_pos hs, w64 (n := d.Now - x.Since) (by omega) (by omega), Int.tdiv_eq_ediv_of_nonneg (by omega), w64 (n := (d.Now - x.Since) / 16) (by omega) (by omega), w64 (by omega) (by omega)]
    · exact ⟨by rw [if_neg hs], rfl⟩
  · rintro (p : Int) w2 ⟨hp, rfl⟩
    unfold own
    rw [← hp]
    refine BIf.dec (fun h7 => ?_) (fun h7 => ?_)
    · rw [if_pos h7]; exact ⟨rfl, e12⟩
    · rw [if_neg h7]; exact ⟨rfl, e12⟩
end Go.Proofs.Yteigefjiifihpaa

/- FnExactPick: a thread's priority, and who is picked, on the reference's side. Conditions: none. -/
set_option linter.unusedVariables false
set_option linter.unusedSimpArgs false
namespace Go.Proofs.Yteigefjiifihpaa
open Go Go.Den
def prioL (d : DSched) (id : Int) : List DThread → Int → Int
  | [], p => p
  | x :: r, p => prioL d id r (if waits d x.Id id = true then (if own d x > p then own d x else p) else p)
def prio (d : DSched) (x : DThread) : Int := prioL d x.Id d.Threads (own d x)
theorem own_range {d : DSched} {x : DThread} (h : thrNum d x) : 0 ≤ own d x ∧ own d x ≤ 7 := by
  obtain ⟨n0, n1, n2, n3, n4⟩ := h
  unfold own
  split <;> split <;> omega
theorem c155 {t l : Sl} {d : DSched} {x : DThread} {id : Int} {w : World} (h : SAt w t l d) (hx : thrOf d id = some x) (hid : x.Id = id) (hnum : ∀ y, y ∈ d.Threads → thrNum d y) : CallW Try.prog 155 #[sAgg d.Now d.Seq t l, .int .i64 id] w (fun v w' => v = .int .i64 (prio d x) ∧ Ext w w') := by
  refine go155 ?_
  unfold W155
  refine LetW_iff.2 ?_
  have hb0 : Blk (w.alloc (.cells #[.int .i64 d.Now, .int .i64 d.Seq, .slice t.a t.len t.cap, .slice l.a l.len l.cap] 43)) w.heap.size (sCells d.Now d.Seq t l) := blk_alloc w _ _
  have e0 := ext_alloc w (.cells #[.int .i64 d.Now, .int .i64 d.Seq, .slice t.a t.len t.cap, .slice l.a l.len l.cap] 43)
  generalize w.alloc (.cells #[.int .i64 d.Now, .int .i64 d.Seq, .slice t.a t.len t.cap, .slice l.a l.len l.cap] 43) = w0 at *
  have e1 := Only.trans e0 (ext_drew w0)
  have hb := hb0.ext (ext_drew w0)
  have h1 := h.ext e1
  have htl := h.tl
  have hfew := h.few.1
  generalize w0.drew = w1 at *
  refine ⟨_, hb.cell 0, _, hb.cell 1, t, hb.cell 2, l, hb.cell 3, t, hb.cell 2, _, hb.cell 0, _, hb.cell 1, t, hb.cell 2, l, hb.cell 3, (c80 h1).mono ?_⟩
  rintro _ w2 ⟨rfl, e2⟩
  have hb2 := hb.ext e2
  have h2 := h1.ext e2
  have e02 := Only.trans e1 e2
  refine ⟨_, rfl, ⟨t, hb2.cell 2, rfl⟩, ⟨_, hb2.cell 0, _, hb2.cell 1, t, hb2.cell 2, l, hb2.cell 3, rfl⟩, ?_⟩
  rcases idT_find d id with ⟨_, hf⟩ | ⟨i, x', hi, hxi, hf⟩
  · rw [hf] at hx; cases hx
  rw [hf] at hx; cases hx
  have hil := (List.getElem?_eq_some_iff.1 hxi).1
  rw [hi, Int.toNat_natCast]
  obtain ⟨p, hp, hc⟩ := h2.thr hxi
  refine ⟨by omega, by omega, p, hp, _, hc 0 _ rfl, _, hc 1 _ rfl, _, hc 2 _ rfl, _, hc 3 _ rfl, _, hc 4 _ rfl, _, hc 5 _ rfl, _, hc 6 _ rfl, _, hc 7 _ rfl, ?_⟩
  refine (c157 (hnum x (List.mem_of_getElem? hxi))).mono ?_
  rintro _ w3 ⟨rfl, e3⟩
  have hb3 := hb2.ext e3
  have h3 := h2.ext e3
  have e03 := Only.trans e02 e3
  refine ⟨_, rfl, ?_⟩
  refine LoopW.m2 (fun (p i : Int) w' => 0 ≤ i ∧ i ≤ t.len ∧ prioL d id (d.Threads.drop i.toNat) p = prio d x ∧ Ext w3 w') (fun _ (i : Int) _ => (t.len - i).toNat) ⟨by omega, by omega, by unfold prio; rw [hid]; rfl, Only.refl _ _⟩ ?_
  rintro (pr : Int) (i : Int) w4 ⟨hi0, hi1, hr, e4⟩ J hJ
  obtain ⟨k, rfl⟩ := Int.eq_ofNat_of_zero_le hi0
  rw [Int.toNat_natCast] at hr ⊢
  have hb4 := hb3.ext e4
  refine ⟨t, hb4.cell 2, BIf.dec (fun hlt => ?_) (fun hge => ?_)⟩
  · have hk : k < d.Threads.length := by omega
    have hget : d.Threads[k]? = some d.Threads[k] := List.getElem?_eq_getElem hk
    have e5 := Only.trans e4 (ext_drew w4)
    have hb5 := hb3.ext e5
    have h5 := h3.ext e5
    generalize w4.drew = w5 at *
    obtain ⟨p5, hp5, hc5⟩ := h5.thr hget
    rw [List.drop_eq_getElem_cons hk, prioL] at hr
    refine ⟨_, hb5.cell 0, _, hb5.cell 1, t, hb5.cell 2, l, hb5.cell 3, t, hb5.cell 2, hi0, hlt, p5, hp5, _, hc5 0 _ rfl, (c82 h5).mono ?_⟩
    rintro _ w6 ⟨rfl, e6⟩
    refine ⟨_, rfl, ?_⟩
    rw [w64 (n := (k : Int) + 1) (by omega) (by omega)]
    refine BIf.of (fun hw => ?_) (fun hw => ?_)
    · rw [if_pos hw] at hr
      have e7 := Only.trans e5 (Only.trans e6 (ext_drew w6))
      have hb7 := hb3.ext e7
      have h7 := h3.ext e7
      generalize w6.drew = w7 at *
      obtain ⟨p7, hp7, hc7⟩ := h7.thr hget
      refine ⟨_, hb7.cell 0, _, hb7.cell 1, t, hb7.cell 2, l, hb7.cell 3, t, hb7.cell 2, hi0, hlt, p7, hp7, _, hc7 0 _ rfl, _, hc7 1 _ rfl, _, hc7 2 _ rfl, _, hc7 3 _ rfl, _, hc7 4 _ rfl, _, hc7 5 _ rfl, _, hc7 6 _ rfl, _, hc7 7 _ rfl, ?_⟩
      refine (c157 (hnum d.Threads[k] (List.getElem_mem hk))).mono ?_
      rintro _ w8 ⟨rfl, e8⟩
      refine ⟨_, rfl, BIf.dec (fun hgt => ?_) (fun hng => ?_)⟩
      · rw [if_pos hgt] at hr
        exact hJ _ _ _ ⟨by omega, by omega, hr, Only.trans e7 e8⟩ (by omega)
      · rw [if_neg hng] at hr
        exact hJ _ _ _ ⟨by omega, by omega, hr, Only.trans e7 e8⟩ (by omega)
    · rw [if_neg (by rw [hw]; simp)] at hr
      exact hJ _ _ _ ⟨by omega, by omega, hr, Only.trans e5 e6⟩ (by omega)
  · rw [List.drop_eq_nil_of_le (by omega)] at hr
    exact ⟨by rw [← hr]; rfl, Only.trans e03 e4⟩
end Go.Proofs.Yteigefjiifihpaa

/- FnExactPick: who is picked, on the reference's side. Conditions: none. -/
set_option linter.unusedVariables false
set_option linter.unusedSimpArgs false
namespace Go.Proofs.Yteigefjiifihpaa
open Go Go.Den
def lineAt (d : DSched) (b : Int) : Int := match d.Threads[b.toNat]? with | some y => y.Line | none => 0
def pickL (d : DSched) : List DThread → Nat → Int → Int → Int
  | [], _, b, _ => b
  | x :: r, i, b, m => if x.State = 1 then (if prio d x > m ∨ (prio d x = m ∧ x.Line < lineAt d b) then pickL d r (i + 1) i (prio d x) else pickL d r (i + 1) b m) else pickL d r (i + 1) b m
def pickS (d : DSched) : Int := if pickL d d.Threads 0 (-1) (-1) < 0 then -1 else match d.Threads[(pickL d d.Threads 0 (-1) (-1)).toNat]? with | some y => y.Id | none => -1
theorem prioL_ge (d : DSched) (id : Int) : ∀ (l : List DThread) (p : Int), p ≤ prioL d id l p
  | [], p => Int.le_refl _
  | x :: r, p => by
    unfold prioL
    refine Int.le_trans ?_ (prioL_ge d id r _)
    split
    · split <;> omega
    · exact Int.le_refl _
theorem prio_ge {d : DSched} {x : DThread} (h : thrNum d x) : 0 ≤ prio d x := Int.le_trans (own_range h).1 (prioL_ge _ _ _ _)
theorem thr_put {w : World} {b : Nat} {cs : List Value} (h : Blk w b cs) (hl : cs.length = 8) (x : DThread) {Q : World → Prop} (hq : ∀ w', Only (fun k => k = b) w w' → Blk w' b x.cells → Q w') :
    MayN w ⟨b, 0, none⟩ 8 ∧ LetW (puts w ⟨b, 0, none⟩ 0 [.int .i64 x.Id, .int .i64 x.Base, .int .i64 x.State, .int .i64 x.Line, .int .i64 x.Left, .int .i64 x.Since, .int .i64 x.Until, .int .i64 x.Wait]) Q := by
  refine ⟨h.mayN (by omega), LetW_iff.2 (hq _ (only_puts x.cells w ⟨b, 0, none⟩ 0) ?_)⟩
  have hb := Blk.puts x.cells h 0 0
  have he : setAll cs (0 + 0) x.cells = x.cells := by
    rw [setAll_eq _ _ _ (by rw [hl]; exact Nat.le_refl _)]
    have : List.drop 8 cs = [] := List.drop_eq_nil_of_le (by omega)
    simp [DThread.cells, this]
  rw [he] at hb
  exact hb
theorem c147 {t l : Sl} {d : DSched} {w : World} (h : SAt w t l d) (hfind : ∀ x, x ∈ d.Threads → thrOf d x.Id = some x) (hnum : ∀ y, y ∈ d.Threads → thrNum d y) : CallW Try.prog 147 #[sAgg d.Now d.Seq t l] w (fun v w' => v = .int .i64 (pickS d) ∧ Ext w w') := by
  refine go147 ?_
  unfold W147
  refine LetW_iff.2 ?_
  have hb : Blk (w.alloc (.cells #[.int .i64 d.Now, .int .i64 d.Seq, .slice t.a t.len t.cap, .slice l.a l.len l.cap] 43)) w.heap.size (sCells d.Now d.Seq t l) := blk_alloc w _ _
  have e0 := ext_alloc w (.cells #[.int .i64 d.Now, .int .i64 d.Seq, .slice t.a t.len t.cap, .slice l.a l.len l.cap] 43)
  generalize w.alloc (.cells #[.int .i64 d.Now, .int .i64 d.Seq, .slice t.a t.len t.cap, .slice l.a l.len l.cap] 43) = w0 at *
  have h0 := h.ext e0
  have htl := h.tl
  have hfew := h.few.1
  refine LoopW.m3 (fun (b m i : Int) w' => 0 ≤ i ∧ i ≤ t.len ∧ ((b = -1 ∧ m = -1) ∨ (0 ≤ b ∧ b < i ∧ 0 ≤ m)) ∧ pickL d (d.Threads.drop i.toNat) i.toNat b m = pickL d d.Threads 0 (-1) (-1) ∧ Ext w0 w') (fun _ _ (i : Int) _ => (t.len - i).toNat) ⟨by omega, by omega, .inl ⟨rfl, rfl⟩, rfl, Only.refl _ _⟩ ?_
  rintro (b : Int) (m : Int) (i : Int) w1 ⟨hi0, hi1, hbm, hr, e1⟩ J hJ
  obtain ⟨k, rfl⟩ := Int.eq_ofNat_of_zero_le hi0
  rw [Int.toNat_natCast] at hr ⊢
  have hb1 := hb.ext e1
  have h1 := h0.ext e1
  refine ⟨t, hb1.cell 2, BIf.dec (fun hlt => ?_) (fun hge => ?_)⟩
  · have hk : k < d.Threads.length := by omega
    have hget : d.Threads[k]? = some d.Threads[k] := List.getElem?_eq_getElem hk
    have hmem := List.getElem_mem hk
    rw [List.drop_eq_getElem_cons hk, pickL] at hr
    obtain ⟨p, hp, hc⟩ := h1.thr hget
    generalize d.Threads[k] = x at *
    refine ⟨t, hb1.cell 2, hi0, hlt, p, hp, _, hc 0 _ rfl, _, hc 1 _ rfl, _, hc 2 _ rfl, _, hc 3 _ rfl, _, hc 4 _ rfl, _, hc 5 _ rfl, _, hc 6 _ rfl, _, hc 7 _ rfl, LetW_iff.2 ?_⟩
    have hz : Blk (w1.alloc (.cells #[.int .i64 0, .int .i64 0, .int .i64 0, .int .i64 0, .int .i64 0, .int .i64 0, .int .i64 0, .int .i64 0] 61)) w1.heap.size _ := blk_alloc w1 _ _
    have e2 := ext_alloc w1 (.cells #[.int .i64 0, .int .i64 0, .int .i64 0, .int .i64 0, .int .i64 0, .int .i64 0, .int .i64 0, .int .i64 0] 61)
    refine thr_put hz rfl x (fun w3 o3 hx3 => ?_)
    have e13 : Ext w1 w3 := Ext.own e2 o3 (by rintro k rfl; exact Nat.le_refl _)
    have e3 := Only.trans e1 e13
    have hb3 := hb.ext e3
    have h3 := h0.ext e3
    rw [w64 (n := (k : Int) + 1) (by omega) (by omega)]
    refine ⟨_, hx3.cell 2, BIf.ne (fun hs => ?_) (fun hs => ?_)⟩
    · rw [if_neg hs] at hr
      exact hJ _ _ _ _ ⟨by omega, by omega, by omega, hr, e3⟩ (by omega)
    · rw [if_pos hs] at hr
      refine ⟨_, hb3.cell 0, _, hb3.cell 1, t, hb3.cell 2, l, hb3.cell 3, _, hx3.cell 0, (c155 h3 (hfind x hmem) rfl hnum).mono ?_⟩
      rintro _ w4 ⟨rfl, e4⟩
      have e5 := Only.trans e3 (Only.trans e4 (ext_drew w4))
      have hx5 := hx3.ext (Only.trans e4 (ext_drew w4))
      have hb5 := hb.ext e5
      have h5 := h0.ext e5
      have hpr := prio_ge (hnum x hmem)
      refine ⟨_, rfl, JoinW.cut1 (fun (c : Bool) w' => c = decide (prio d x > m ∨ (prio d x = m ∧ x.Line < lineAt d b)) ∧ w' = w4.drew) ?_ ?_⟩
      · refine BIf.dec (fun h1 => ⟨?_, rfl⟩) (fun h1 => BIf.eq (fun h2 => ?_) (fun h2 => ⟨?_, rfl⟩))
        · exact (decide_eq_true (.inl h1)).symm
        · have hbb : 0 ≤ b ∧ b < k := by omega
          have hbl : b.toNat < d.Threads.length := by omega
          have hgb : d.Threads[b.toNat]? = some d.Threads[b.toNat] := List.getElem?_eq_getElem hbl
          obtain ⟨r, hr', hcr⟩ := h5.thr hgb
          refine ⟨_, hx5.cell 3, t, hb5.cell 2, by omega, by omega, r, hr', _, hcr 3 _ rfl, ?_, rfl⟩
          have hla : lineAt d b = d.Threads[b.toNat].Line := by unfold lineAt; rw [hgb]
          rw [hla]
          apply decide_eq_decide.2
          exact ⟨fun h => .inr ⟨h2, h⟩, fun h => by rcases h with h | h; exact absurd h h1; exact h.2⟩
        · exact (decide_eq_false (by rintro (h | h); exact h1 h; exact h2 h.1)).symm
      · rintro (c : Bool) w5 ⟨hcc, rfl⟩
        refine BIf.of (fun hc1 => ?_) (fun hc1 => ?_)
        · rw [hc1] at hcc
          rw [if_pos (of_decide_eq_true hcc.symm)] at hr
          exact hJ _ _ _ _ ⟨by omega, by omega, .inr ⟨by omega, by omega, hpr⟩, hr, e5⟩ (by omega)
        · rw [hc1] at hcc
          rw [if_neg (of_decide_eq_false hcc.symm)] at hr
          exact hJ _ _ _ _ ⟨by omega, by omega, by omega, hr, e5⟩ (by omega)
  · rw [List.drop_eq_nil_of_le (by omega)] at hr
    have hr : pickL d d.Threads 0 (-1) (-1) = b := hr.symm
    have e01 := Only.trans e0 e1
    unfold pickS
    rw [hr]
    refine BIf.dec (fun hneg => ?_) (fun hpos => ?_)
    · rw [if_pos hneg]; exact ⟨rfl, e01⟩
    · rw [if_neg hpos]
      have hbl : b.toNat < d.Threads.length := by omega
      have hgb : d.Threads[b.toNat]? = some d.Threads[b.toNat] := List.getElem?_eq_getElem hbl
      obtain ⟨r, hr', hcr⟩ := h1.thr hgb
      refine ⟨t, hb1.cell 2, by omega, by omega, r, hr', _, hcr 0 _ rfl, ?_, e01⟩
      rw [hgb]
end Go.Proofs.Yteigefjiifihpaa

/- FnExactPick: when a state can be, on the reference's side. Conditions: none. -/
set_option linter.unusedVariables false
set_option linter.unusedSimpArgs false
namespace Go.Proofs.Yteigefjiifihpaa
open Go Go.Den
def cnt (n : Int) : Bool := decide (n ≥ 0) && decide (n ≤ 1099511627776)
def headBad (d : DSched) : Bool := ((!cnt d.Now || !cnt d.Seq) || decide ((d.Threads.length : Int) > 32)) || decide ((d.Locks.length : Int) > 16)
def LckOk (d : DSched) (i : Nat) (y : DLock) : Prop := 0 ≤ y.Id ∧ y.Id < 16 ∧ (∀ z, 0 < i → d.Locks[i - 1]? = some z → z.Id < y.Id) ∧ 0 ≤ idT d y.Owner
def ThrOk (d : DSched) (i : Nat) (x : DThread) : Prop := (∀ z, 0 < i → d.Threads[i - 1]? = some z → z.Id < x.Id) ∧ thrOk d x = true ∧ waits d x.Id x.Id = false
def LineOk (d : DSched) (i : Nat) (x : DThread) : Prop := ∀ j z, j < i → d.Threads[j]? = some z → z.Line ≠ x.Line
structure SOk (d : DSched) : Prop where
  head : headBad d = false
  lck : ∀ i y, d.Locks[i]? = some y → LckOk d i y
  thr : ∀ i x, d.Threads[i]? = some x → ThrOk d i x ∧ LineOk d i x
theorem lck_put {w : World} {b : Nat} {cs : List Value} (h : Blk w b cs) (hl : cs.length = 2) (x : DLock) {Q : World → Prop} (hq : ∀ w', Only (fun k => k = b) w w' → Blk w' b x.cells → Q w') :
    MayN w ⟨b, 0, none⟩ 2 ∧ LetW (puts w ⟨b, 0, none⟩ 0 [.int .i64 x.Id, .int .i64 x.Owner]) Q := by
  refine ⟨h.mayN (by omega), LetW_iff.2 (hq _ (only_puts x.cells w ⟨b, 0, none⟩ 0) ?_)⟩
  have hb := Blk.puts x.cells h 0 0
  have he : setAll cs (0 + 0) x.cells = x.cells := by
    rw [setAll_eq _ _ _ (by rw [hl]; exact Nat.le_refl _)]
    have : List.drop 2 cs = [] := List.drop_eq_nil_of_le (by omega)
    simp [DLock.cells, this]
  rw [he] at hb
  exact hb
def KOk (d : DSched) (w : World) (v : Value) (w' : World) : Prop := ∃ b : Bool, v = .bool b ∧ (b = true ↔ SOk d) ∧ Ext w w'
theorem c31 {t l : Sl} {d : DSched} {w : World} (h : SAt w t l d) : CallW Try.prog 31 #[sAgg d.Now d.Seq t l] w (KOk d w) := by
  refine go31 ?_
  unfold W31
  refine LetW_iff.2 ?_
  have hb : Blk (w.alloc (.cells #[.int .i64 d.Now, .int .i64 d.Seq, .slice t.a t.len t.cap, .slice l.a l.len l.cap] 43)) w.heap.size (sCells d.Now d.Seq t l) := blk_alloc w _ _
  have e0 := ext_alloc w (.cells #[.int .i64 d.Now, .int .i64 d.Seq, .slice t.a t.len t.cap, .slice l.a l.len l.cap] 43)
  generalize w.alloc (.cells #[.int .i64 d.Now, .int .i64 d.Seq, .slice t.a t.len t.cap, .slice l.a l.len l.cap] 43) = w1 at *
  have h1 := h.ext e0
  have htl := h.tl
  have hll := h.ll
  have hfew := h.few
  refine ⟨_, hb.cell 0, c79.mono ?_⟩
  rintro _ w1 ⟨rfl, rfl⟩
  refine ⟨_, rfl, JoinW.cut1 (fun (b : Bool) w' => b = (!cnt d.Now || !cnt d.Seq) ∧ w' = w1) ?_ ?_⟩
  · refine BIf.of (fun hc => ⟨?_, rfl⟩) (fun hc => ⟨_, hb.cell 1, c79.mono ?_⟩)
    · rw [show (!cnt d.Now) = true from hc]; rfl
    · rintro _ w1 ⟨rfl, rfl⟩
      refine ⟨_, rfl, ?_, rfl⟩
      rw [show (!cnt d.Now) = false from hc]; rfl
  rintro (b : Bool) w1 ⟨hbb, rfl⟩
  refine join_or_ex t (hb.cell 2) ?_
  refine join_or_ex l (hb.cell 3) ?_
  have hhead : ((b || decide (((t.len : Nat) : Int) > 32)) || decide (((l.len : Nat) : Int) > 16)) = headBad d := by
    unfold headBad; rw [hbb, htl, hll]
  rw [hhead]
  refine BIf.of (fun hbad => ⟨false, rfl, ⟨(fun h => nomatch h), fun h => by rw [h.head] at hbad; cases hbad⟩, e0⟩) (fun hgood => ?_)
  refine LoopW.m1 (fun (i : Int) w' => 0 ≤ i ∧ i ≤ l.len ∧ Ext w1 w' ∧ ∀ (j : Nat) y, (j : Int) < i → d.Locks[j]? = some y → LckOk d j y) (fun (i : Int) _ => (l.len - i).toNat) ⟨by omega, by omega, Only.refl _ _, fun j y hj => by omega⟩ ?_
  rintro (i : Int) w2 ⟨hi0, hi1, e2, hall⟩ J hJ
  obtain ⟨k, rfl⟩ := Int.eq_ofNat_of_zero_le hi0
  have hb2 := hb.ext e2
  have h2 := h1.ext e2
  rw [Int.toNat_natCast]
  refine ⟨l, hb2.cell 3, BIf.dec (fun hlt => ?_) (fun hge => ?_)⟩
  · have hk : k < d.Locks.length := by omega
    have hget : d.Locks[k]? = some d.Locks[k] := List.getElem?_eq_getElem hk
    obtain ⟨p, hp, hc⟩ := h2.lck hget
    generalize d.Locks[k] = y at *
    refine ⟨l, hb2.cell 3, hi0, hlt, p, hp, _, hc 0 _ rfl, _, hc 1 _ rfl, LetW_iff.2 ?_⟩
    have hz : Blk (w2.alloc (.cells #[.int .i64 0, .int .i64 0] 122)) w2.heap.size _ := blk_alloc w2 _ _
    have ez := ext_alloc w2 (.cells #[.int .i64 0, .int .i64 0] 122)
    refine lck_put hz rfl y (fun w3 o3 hy3 => ?_)
    have e3 := Only.trans e2 (Only.trans (Ext.own ez o3 (by rintro k rfl; exact Nat.le_refl _)) (ext_drew w3))
    have hy := hy3.ext (ext_drew w3)
    have hb3 := hb.ext e3
    have h3 := h1.ext e3
    generalize w3.drew = w4 at *
    have own : (LckOk d k y ↔ 0 ≤ idT d y.Owner) → ∀ (J26 : Bool → World → Prop), (∀ b w', (b = false ↔ LckOk d k y) → Ext w1 w' → J26 b w') → ∃ n34 : Int, w4.cell? ⟨w.heap.size, 0, none⟩ = some (.int .i64 n34) ∧ ∃ n35 : Int, w4.cell? ⟨w.heap.size, 1, none⟩ = some (.int .i64 n35) ∧ ∃ l36 : Sl, w4.cell? ⟨w.heap.size, 2, none⟩ = some (.slice l36.a l36.len l36.cap) ∧ ∃ l37 : Sl, w4.cell? ⟨w.heap.size, 3, none⟩ = some (.slice l37.a l37.len l37.cap) ∧ ∃ n38 : Int, w4.cell? ⟨w2.heap.size, 1, none⟩ = some (.int .i64 n38) ∧ CallW Try.prog 80 #[.agg #[.int .i64 n34, .int .i64 n35, .slice l36.a l36.len l36.cap, .slice l37.a l37.len l37.cap], .int .i64 n38] w4 fun v39 w40 => ∃ n41 : Int, v39 = .int .i64 n41 ∧ J26 (decide ((n41 : Int) < 0)) w40 := by
      intro hiff J26 hJ26
      refine ⟨_, hb3.cell 0, _, hb3.cell 1, t, hb3.cell 2, l, hb3.cell 3, _, hy.cell 1, (c80 h3).mono ?_⟩
      rintro _ w5 ⟨rfl, e5⟩
      refine ⟨_, rfl, hJ26 _ _ ?_ (Only.trans e3 e5)⟩
      rw [hiff, decide_eq_false_iff_not]; omega
    refine JoinW.cut1 (fun (b : Bool) w' => (b = false ↔ LckOk d k y) ∧ Ext w1 w') ?_ ?_
    · have no : ¬ LckOk d k y → (true = false ↔ LckOk d k y) ∧ Ext w1 w4 := fun hn => ⟨⟨(fun h => nomatch h), fun h => absurd h hn⟩, e3⟩
      refine ⟨_, hy.cell 0, BIf.dec (fun hc0 => no (fun h => by have := h.1; omega)) (fun hc0 => ⟨_, hy.cell 0, BIf.dec (fun hc1 => no (fun h => by have := h.2.1; omega)) (fun hc1 => BIf.dec (fun hk0 => ?_) (fun hk0 => ?_))⟩)⟩
      · rw [w64 (n := (k : Int) - 1) (by omega) (by omega), show ((k : Int) - 1).toNat = k - 1 by omega]
        have hk1 : k - 1 < d.Locks.length := by omega
        have hget1 : d.Locks[k - 1]? = some d.Locks[k - 1] := List.getElem?_eq_getElem hk1
        obtain ⟨q, hq, hcq⟩ := h3.lck hget1
        refine ⟨l, hb3.cell 3, by omega, by omega, q, hq, _, hcq 0 _ rfl, _, hy.cell 0, BIf.dec (fun hge => no (fun h => ?_)) (fun hlt1 => ?_)⟩
        · have := h.2.2.1 _ (by omega) hget1; omega
        · refine own ⟨fun h => h.2.2.2, fun h => ⟨by omega, by omega, fun z _ hz => ?_, h⟩⟩ (fun b w' => (b = false ↔ LckOk d k y) ∧ Ext w1 w') (fun b w' h1 h2 => ⟨h1, h2⟩)
          rw [hget1] at hz; cases hz; omega
      · exact own ⟨fun h => h.2.2.2, fun h => ⟨by omega, by omega, fun z hk _ => absurd hk (by omega), h⟩⟩ (fun b w' => (b = false ↔ LckOk d k y) ∧ Ext w1 w') (fun b w' h1 h2 => ⟨h1, h2⟩)
    · rintro (b : Bool) w5 ⟨hbl, e5⟩
      refine BIf.of (fun hbt => ⟨false, rfl, ⟨(fun h => nomatch h), fun h => ?_⟩, Only.trans e0 e5⟩) (fun hbf => ?_)
      · have := hbl.2 (h.lck k y hget); rw [this] at hbt; cases hbt
      · rw [w64 (by omega) (by omega)]
        refine hJ _ _ ⟨by omega, by omega, e5, fun j z hj hz => ?_⟩ (by omega)
        by_cases hjk : j = k
        · subst hjk; rw [hget] at hz; cases hz; exact hbl.1 hbf
        · exact hall j z (by omega) hz
  · have hlck : ∀ i y, d.Locks[i]? = some y → LckOk d i y := fun i y hy => hall i y (by have := (List.getElem?_eq_some_iff.1 hy).1; omega) hy
    clear hJ J
    refine LoopW.m1 (fun (i : Int) w' => 0 ≤ i ∧ i ≤ t.len ∧ Ext w1 w' ∧ ∀ (j : Nat) x, (j : Int) < i → d.Threads[j]? = some x → ThrOk d j x ∧ LineOk d j x) (fun (i : Int) _ => (t.len - i).toNat) ⟨by omega, by omega, e2, fun j y hj => by omega⟩ ?_
    rintro (i : Int) w2 ⟨hi0, hi1, e2, hthr⟩ J hJ
    obtain ⟨k, rfl⟩ := Int.eq_ofNat_of_zero_le hi0
    have hb2 := hb.ext e2
    have h2 := h1.ext e2
    rw [Int.toNat_natCast]
    refine ⟨t, hb2.cell 2, BIf.dec (fun hlt => ?_) (fun hge => ?_)⟩
    · have hk : k < d.Threads.length := by omega
      have hget : d.Threads[k]? = some d.Threads[k] := List.getElem?_eq_getElem hk
      obtain ⟨p, hp, hc⟩ := h2.thr hget
      generalize d.Threads[k] = x at *
      refine ⟨t, hb2.cell 2, hi0, hlt, p, hp, _, hc 0 _ rfl, _, hc 1 _ rfl, _, hc 2 _ rfl, _, hc 3 _ rfl, _, hc 4 _ rfl, _, hc 5 _ rfl, _, hc 6 _ rfl, _, hc 7 _ rfl, LetW_iff.2 ?_⟩
      have hz : Blk (w2.alloc (.cells #[.int .i64 0, .int .i64 0, .int .i64 0, .int .i64 0, .int .i64 0, .int .i64 0, .int .i64 0, .int .i64 0] 61)) w2.heap.size _ := blk_alloc w2 _ _
      have ez := ext_alloc w2 (.cells #[.int .i64 0, .int .i64 0, .int .i64 0, .int .i64 0, .int .i64 0, .int .i64 0, .int .i64 0, .int .i64 0] 61)
      refine thr_put hz rfl x (fun w3 o3 hx3 => ?_)
      have e23 : Ext w2 w3 := Ext.own ez o3 (by rintro k rfl; exact Nat.le_refl _)
      have e3 := Only.trans e2 (Only.trans e23 (ext_drew w3))
      have hx := hx3.ext (ext_drew w3)
      have hb3 := hb.ext e3
      have h3 := h1.ext e3
      have own : (ThrOk d k x ↔ thrOk d x = true ∧ waits d x.Id x.Id = false) → ∀ (J26 : Bool → World → Prop), (∀ b w', (b = false ↔ ThrOk d k x) → Ext w1 w' → Ext w3 w' → J26 b w') → ∃ n80 : Int, w3.drew.cell? ⟨w.heap.size, 0, none⟩ = some (.int .i64 n80) ∧ ∃ n81 : Int, w3.drew.cell? ⟨w.heap.size, 1, none⟩ = some (.int .i64 n81) ∧ ∃ l82 : Sl, w3.drew.cell? ⟨w.heap.size, 2, none⟩ = some (.slice l82.a l82.len l82.cap) ∧ ∃ l83 : Sl, w3.drew.cell? ⟨w.heap.size, 3, none⟩ = some (.slice l83.a l83.len l83.cap) ∧ ∃ n84 : Int, w3.drew.cell? ⟨w2.heap.size, 0, none⟩ = some (.int .i64 n84) ∧ ∃ n85 : Int, w3.drew.cell? ⟨w2.heap.size, 1, none⟩ = some (.int .i64 n85) ∧ ∃ n86 : Int, w3.drew.cell? ⟨w2.heap.size, 2, none⟩ = some (.int .i64 n86) ∧ ∃ n87 : Int, w3.drew.cell? ⟨w2.heap.size, 3, none⟩ = some (.int .i64 n87) ∧ ∃ n88 : Int, w3.drew.cell? ⟨w2.heap.size, 4, none⟩ = some (.int .i64 n88) ∧ ∃ n89 : Int, w3.drew.cell? ⟨w2.heap.size, 5, none⟩ = some (.int .i64 n89) ∧ ∃ n90 : Int, w3.drew.cell? ⟨w2.heap.size, 6, none⟩ = some (.int .i64 n90) ∧ ∃ n91 : Int, w3.drew.cell? ⟨w2.heap.size, 7, none⟩ = some (.int .i64 n91) ∧ CallW Try.prog 81 #[.agg #[.int .i64 n80, .int .i64 n81, .slice l82.a l82.len l82.cap, .slice l83.a l83.len l83.cap], .agg #[.int .i64 n84, .int .i64 n85, .int .i64 n86, .int .i64 n87, .int .i64 n88, .int .i64 n89, .int .i64 n90, .int .i64 n91]] w3.drew fun v92 w93 => ∃ b94 : Bool, v92 = .bool b94 ∧ BIf (!b94) (J26 true w93) (∃ n95 : Int, w93.cell? ⟨w.heap.size, 0, none⟩ = some (.int .i64 n95) ∧ ∃ n96 : Int, w93.cell? ⟨w.heap.size, 1, none⟩ = some (.int .i64 n96) ∧ ∃ l97 : Sl, w93.cell? ⟨w.heap.size, 2, none⟩ = some (.slice l97.a l97.len l97.cap) ∧ ∃ l98 : Sl, w93.cell? ⟨w.heap.size, 3, none⟩ = some (.slice l98.a l98.len l98.cap) ∧ ∃ n99 : Int, w93.cell? ⟨w2.heap.size, 0, none⟩ = some (.int .i64 n99) ∧ ∃ n100 : Int, w93.cell? ⟨w2.heap.size, 0, none⟩ = some (.int .i64 n100) ∧ CallW Try.prog 82 #[.agg #[.int .i64 n95, .int .i64 n96, .slice l97.a l97.len l97.cap, .slice l98.a l98.len l98.cap], .int .i64 n99, .int .i64 n100] w93 fun v101 w102 => ∃ b103 : Bool, v101 = .bool b103 ∧ J26 b103 w102) := by
        intro hiff J26 hJ26
        refine ⟨_, hb3.cell 0, _, hb3.cell 1, t, hb3.cell 2, l, hb3.cell 3, _, hx.cell 0, _, hx.cell 1, _, hx.cell 2, _, hx.cell 3, _, hx.cell 4, _, hx.cell 5, _, hx.cell 6, _, hx.cell 7, (c81 (x := x) h3).mono ?_⟩
        rintro _ w5 ⟨rfl, e5⟩
        have hb5 := hb3.ext e5
        have hx5 := hx.ext e5
        refine ⟨_, rfl, BIf.of (fun hn => ?_) (fun hy => ?_)⟩
        · refine hJ26 _ _ ?_ (Only.trans e3 e5) (Only.trans (ext_drew w3) e5)
          rw [hiff]
          exact ⟨(fun h => nomatch h), fun h => by rw [h.1] at hn; cases hn⟩
        · refine ⟨_, hb5.cell 0, _, hb5.cell 1, t, hb5.cell 2, l, hb5.cell 3, _, hx5.cell 0, _, hx5.cell 0, (c82 (h3.ext e5)).mono ?_⟩
          rintro _ w6 ⟨rfl, e6⟩
          refine ⟨_, rfl, hJ26 _ _ ?_ (Only.trans e3 (Only.trans e5 e6)) (Only.trans (ext_drew w3) (Only.trans e5 e6))⟩
          rw [hiff]
          exact ⟨fun h => ⟨by simpa using hy, h⟩, fun h => h.2⟩
      refine JoinW.cut1 (fun (b : Bool) w' => (b = false ↔ ThrOk d k x) ∧ Ext w1 w' ∧ Ext w3 w') ?_ ?_
      · refine BIf.dec (fun hk0 => ?_) (fun hk0 => ?_)
        · rw [w64 (n := (k : Int) - 1) (by omega) (by omega), show ((k : Int) - 1).toNat = k - 1 by omega]
          have hk1 : k - 1 < d.Threads.length := by omega
          have hget1 : d.Threads[k - 1]? = some d.Threads[k - 1] := List.getElem?_eq_getElem hk1
          obtain ⟨q, hq, hcq⟩ := h3.thr hget1
          refine ⟨t, hb3.cell 2, by omega, by omega, q, hq, _, hcq 0 _ rfl, _, hx.cell 0, BIf.dec (fun hge => ⟨⟨(fun h => nomatch h), fun h => ?_⟩, e3, ext_drew w3⟩) (fun hlt1 => ?_)⟩
          · have := h.1 _ (by omega) hget1; omega
          · refine own ⟨fun h => h.2, fun h => ⟨fun z _ hz => ?_, h⟩⟩ (fun b w' => (b = false ↔ ThrOk d k x) ∧ Ext w1 w' ∧ Ext w3 w') (fun b w' h1 h2 h3 => ⟨h1, h2, h3⟩)
            rw [hget1] at hz; cases hz; omega
        · exact own ⟨fun h => h.2, fun h => ⟨fun z hk _ => absurd hk (by omega), h⟩⟩ (fun b w' => (b = false ↔ ThrOk d k x) ∧ Ext w1 w' ∧ Ext w3 w') (fun b w' h1 h2 h3 => ⟨h1, h2, h3⟩)
      · rintro (b : Bool) w5 ⟨hbl, e5, e35⟩
        have hx5 := hx3.ext e35
        refine BIf.of (fun hbt => ⟨false, rfl, ⟨(fun h => nomatch h), fun h => ?_⟩, Only.trans e0 e5⟩) (fun hbf => ?_)
        · have := hbl.2 (h.thr k x hget).1; rw [this] at hbt; cases hbt
        · refine LoopW.m1 (fun (j : Int) w' => 0 ≤ j ∧ j ≤ k ∧ Ext w5 w' ∧ ∀ (i : Nat) z, (i : Int) < j → d.Threads[i]? = some z → z.Line ≠ x.Line) (fun (j : Int) _ => (k - j).toNat) ⟨by omega, by omega, Only.refl _ _, fun i z hi => by omega⟩ ?_
          rintro (j : Int) w6 ⟨hj0, hj1, e6, hlines⟩ J2 hJ2
          obtain ⟨m, rfl⟩ := Int.eq_ofNat_of_zero_le hj0
          rw [Int.toNat_natCast]
          refine BIf.dec (fun hlt2 => ?_) (fun hge2 => ?_)
          · have e7 := Only.trans e6 (ext_drew w6)
            have hx7 := hx5.ext e7
            have e17 := Only.trans e5 e7
            have hb7 := hb.ext e17
            have h7 := h1.ext e17
            have hm : m < d.Threads.length := by omega
            have hgetm : d.Threads[m]? = some d.Threads[m] := List.getElem?_eq_getElem hm
            obtain ⟨q, hq, hcq⟩ := h7.thr hgetm
            refine ⟨t, hb7.cell 2, by omega, by omega, q, hq, _, hcq 3 _ rfl, _, hx7.cell 3, BIf.eq (fun he => ⟨false, rfl, ⟨(fun h => nomatch h), fun h => ?_⟩, Only.trans e0 e17⟩) (fun hne => ?_)⟩
            · exact absurd he ((h.thr k x hget).2 m _ (by omega) hgetm)
            · rw [w64 (by omega) (by omega)]
              refine hJ2 _ _ ⟨by omega, by omega, e7, fun i z hi hz => ?_⟩ (by omega)
              by_cases him : i = m
              · subst him; rw [hgetm] at hz; cases hz; exact hne
              · exact hlines i z (by omega) hz
          · rw [w64 (by omega) (by omega)]
            refine hJ _ _ ⟨by omega, by omega, Only.trans e5 e6, fun i z hi hz => ?_⟩ (by omega)
            by_cases hik : i = k
            · subst hik; rw [hget] at hz; cases hz
              exact ⟨hbl.1 hbf, fun a y ha hy => hlines a y (by omega) hy⟩
            · exact hthr i z (by omega) hz
    · exact ⟨true, rfl, ⟨fun _ => ⟨hgood, hlck, fun i x hx => hthr i x (by have := (List.getElem?_eq_some_iff.1 hx).1; omega) hx⟩, fun _ => rfl⟩, Only.trans e0 e2⟩
end Go.Proofs.Yteigefjiifihpaa

/- FnExactPick: Pick, on the reference's side. Conditions: none. -/
set_option linter.unusedVariables false
set_option linter.unusedSimpArgs false
namespace Go.Proofs.Yteigefjiifihpaa
open Go Go.Den
theorem SOk.now {d : DSched} (h : SOk d) : 0 ≤ d.Now ∧ d.Now ≤ 1099511627776 ∧ 0 ≤ d.Seq ∧ d.Seq ≤ 1099511627776 ∧ d.Threads.length ≤ 32 ∧ d.Locks.length ≤ 16 := by
  have := h.head
  unfold headBad cnt at this
  simp only [Bool.or_eq_false_iff, Bool.not_eq_false', Bool.and_eq_true, decide_eq_true_eq, decide_eq_false_iff_not] at this
  omega
theorem thrOf_id {d : DSched} {id : Int} {x : DThread} (h : thrOf d id = some x) : x.Id = id ∧ x ∈ d.Threads := by
  unfold thrOf at h
  exact ⟨by simpa using List.find?_some h, List.mem_of_find?_eq_some h⟩
/-- What both Picks answer. -/
def KPick (d : DSched) (w : World) (v : Value) (w' : World) : Prop := ∃ n : Int, v = .int .i64 n ∧ (SOk d → n = pickS d) ∧ (¬ SOk d → n = -1) ∧ Ext w w'
end Go.Proofs.Yteigefjiifihpaa

/- FnExactPick: whom a thread waits for, on the program's side. Conditions: none. -/
set_option linter.unusedVariables false
set_option linter.unusedSimpArgs false
namespace Go.Proofs.Yteigefjiifihpaa
open Go Go.Den
def stepI (d : DSched) (id : Int) : Option Int := match thrOf d id with
  | none => none
  | some t => if t.State = 2 then (match lckOf d t.Wait with | none => none | some k => some k.Owner) else none
def waitsI (d : DSched) (to_ : Int) : Nat → Int → Bool
  | 0, _ => false
  | n + 1, at_ => match stepI d at_ with
    | none => false
    | some o => if o = to_ then true else waitsI d to_ n o
theorem ptr_none {a : Option Addr} {z : Nat} : ptrAt a z (-1) = none := rfl
theorem ptr_some {a : Option Addr} {z : Nat} {p : Addr} (h : a = some p) (i : Nat) : ptrAt a z (i : Int) = some (p.add (i * z)) := by
  unfold ptrAt; rw [if_neg (by omega), h, Int.toNat_natCast]; rfl
theorem c85 {s : Addr} {n q : Int} {t l : Sl} {d : DSched} {from_ to_ : Int} {w : World} (hs : PAt w s n q t l) (h : SAt w t l d) : CallW Try.prog 85 #[.pointer (some s), .int .i64 from_, .int .i64 to_] w (fun v w' => v = .bool (waitsI d to_ 34 from_) ∧ w' = w) := by
  refine go85 ?_
  unfold W85
  refine LoopW.m2 (fun (a i : Int) w' => 0 ≤ i ∧ i ≤ 34 ∧ waitsI d to_ (34 - i).toNat a = waitsI d to_ 34 from_ ∧ w' = w) (fun _ (i : Int) _ => (34 - i).toNat) ⟨by omega, by omega, rfl, rfl⟩ ?_
  rintro (a : Int) (i : Int) w ⟨hi0, hi1, hr, rfl⟩ J hJ
  refine BIf.dec (fun hlt => (c84 hs h).mono ?_) (fun hge => ?_)
  · rintro _ w ⟨rfl, rfl⟩
    rw [show (34 - i).toNat = (34 - (i + 1)).toNat + 1 by omega, waitsI] at hr
    refine ⟨_, rfl, ?_⟩
    rcases idT_find d a with ⟨hi, hf⟩ | ⟨k, x, hi, hx, hf⟩
    · rw [hi, ptr_none]
      have : stepI d a = none := by unfold stepI; rw [hf]
      rw [this] at hr
      exact JoinW.each (BIf.t rfl (BIf.t rfl ⟨by rw [← hr], rfl⟩))
    · obtain ⟨p, hp, hc⟩ := h.thr hx
      rw [hi, ptr_some hp]
      refine JoinW.each (BIf.f rfl ⟨_, rfl, _, hc 2 _ rfl, ?_⟩)
      refine BIf.ne (fun hst => ?_) (fun hst => ?_)
      · have : stepI d a = none := by unfold stepI; rw [hf]; simp [hst]
        rw [this] at hr
        exact ⟨by rw [← hr], rfl⟩
      · refine ⟨_, rfl, _, hc 7 _ rfl, (c83 hs h).mono ?_⟩
        rintro _ w ⟨rfl, rfl⟩
        have hstep : stepI d a = match lckOf d x.Wait with | none => none | some k => some k.Owner := by unfold stepI; rw [hf]; simp only [hst, if_true]
        refine ⟨_, rfl, ?_⟩
        rcases idL_find d x.Wait with ⟨hi, hf⟩ | ⟨j, y, hi, hy, hf⟩
        · rw [hi, ptr_none]
          rw [hstep, hf] at hr
          exact BIf.t rfl ⟨by rw [← hr], rfl⟩
        · obtain ⟨r, hr', hcr⟩ := h.lck hy
          rw [hi, ptr_some hr']
          rw [hstep, hf] at hr
          refine BIf.f rfl ⟨_, rfl, _, hcr 1 _ rfl, BIf.eq (fun he => ?_) (fun hne => ?_)⟩
          · simp only [he, if_true] at hr
            exact ⟨by rw [← hr], rfl⟩
          · simp only [hne, if_false] at hr
            rw [w64 (by omega) (by omega)]
            exact hJ _ _ _ ⟨by omega, by omega, hr, rfl⟩ (by omega)
  · rw [show (34 - i).toNat = 0 by omega] at hr
    exact ⟨by rw [← hr]; rfl, rfl⟩
end Go.Proofs.Yteigefjiifihpaa

/- FnExactPick, plain law: waiting comes to its end within as many steps as there are threads. Conditions: none. -/
set_option linter.unusedVariables false
set_option linter.unusedSimpArgs false
namespace Go.Proofs.Yteigefjiifihpaa
open Go Go.Den
theorem nodup_le : ∀ (l s : List Int), l.Nodup → (∀ x, x ∈ l → x ∈ s) → l.length ≤ s.length
  | [], s, _, _ => Nat.zero_le _
  | a :: r, s, hn, hs => by
    have ha := hs a (by simp)
    have hn' := List.nodup_cons.1 hn
    have := nodup_le r (s.erase a) hn'.2 (fun x hx => (List.mem_erase_of_ne (by rintro rfl; exact hn'.1 hx)).2 (hs x (by simp [hx])))
    rw [List.length_erase_of_mem ha] at this
    have := List.length_pos_of_mem ha
    simp; omega
def iter (d : DSched) : Nat → Int → Int
  | 0, a => a
  | n + 1, a => iter d n (nxt d a)
theorem iter_add (d : DSched) : ∀ (m n : Nat) (a : Int), iter d (m + n) a = iter d n (iter d m a)
  | 0, n, a => by rw [Nat.zero_add]; rfl
  | m + 1, n, a => by rw [Nat.succ_add]; exact iter_add d m n (nxt d a)
theorem waitsN_iff (d : DSched) (on : Int) : ∀ (n : Nat) (a : Int), waitsN d on n a = true ↔ ∃ m, m < n ∧ (∀ j, j ≤ m → 0 ≤ iter d j a) ∧ iter d m a = on
  | 0, a => by simp [waitsN]
  | n + 1, a => by
    unfold waitsN
    by_cases h0 : a < 0
    · rw [if_pos h0]
      refine ⟨(fun h => nomatch h), ?_⟩
      rintro ⟨m, _, h, _⟩
      have : 0 ≤ a := h 0 (Nat.zero_le _)
      omega
    · rw [if_neg h0]
      by_cases ho : a = on
      · rw [if_pos ho]
        exact ⟨fun _ => ⟨0, by omega, fun j hj => by rw [Nat.le_zero.1 hj]; show 0 ≤ a; omega, ho⟩, fun _ => rfl⟩
      · rw [if_neg ho, waitsN_iff d on n (nxt d a)]
        constructor
        · rintro ⟨m, h1, h2, h3⟩
          refine ⟨m + 1, by omega, fun j hj => ?_, h3⟩
          cases j with
          | zero => show 0 ≤ a; omega
          | succ j => exact h2 j (by omega)
        · rintro ⟨m, h1, h2, h3⟩
          cases m with
          | zero => exact absurd h3 ho
          | succ m => exact ⟨m, by omega, fun j hj => h2 (j + 1) (by omega), h3⟩
theorem nxt_thr {d : DSched} {a : Int} (h : 0 ≤ nxt d a) : a ∈ d.Threads.map (·.Id) := by
  unfold nxt at h
  rcases hf : thrOf d a with _ | x
  · rw [hf] at h; simp at h
  · obtain ⟨h1, h2⟩ := thrOf_id hf
    exact List.mem_map.2 ⟨x, h2, h1⟩
/-- The least number with a property. -/
theorem least {p : Nat → Prop} : ∀ (n : Nat), p n → ∃ m, p m ∧ m ≤ n ∧ ∀ k, k < m → ¬ p k := by
  intro n
  induction n using Nat.strongRecOn with
  | _ n ih =>
    intro hp
    by_cases h : ∃ k, k < n ∧ p k
    · obtain ⟨k, hk, hpk⟩ := h
      obtain ⟨m, h1, h2, h3⟩ := ih k hk hpk
      exact ⟨m, h1, by omega, h3⟩
    · exact ⟨n, hp, Nat.le_refl _, fun k hk hpk => h ⟨k, hk, hpk⟩⟩
theorem waitsN_short {d : DSched} {on a : Int} {n : Nat} (h : waitsN d on n a = true) : waitsN d on (d.Threads.length + 1) a = true := by
  obtain ⟨m0, _, h2, h3⟩ := (waitsN_iff d on n a).1 h
  obtain ⟨m, hm, hle, hmin⟩ := least (p := fun m => iter d m a = on) m0 h3
  have hpos : ∀ j, j ≤ m → 0 ≤ iter d j a := fun j hj => h2 j (by omega)
  refine (waitsN_iff d on _ a).2 ⟨m, ?_, hpos, hm⟩
  have hnd : ((List.range m).map (fun j => iter d j a)).Nodup := by
    rw [List.nodup_iff_pairwise_ne, List.pairwise_map]
    refine List.Pairwise.imp_of_mem ?_ List.pairwise_lt_range
    intro i j hi hj hij he
    have hi' := List.mem_range.1 hi
    have hj' := List.mem_range.1 hj
    refine hmin (i + (m - j)) (by omega) ?_
    rw [iter_add, he, ← iter_add, show j + (m - j) = m by omega, hm]
  have := nodup_le _ (d.Threads.map (·.Id)) hnd (fun x hx => by
    obtain ⟨j, hj, rfl⟩ := List.mem_map.1 hx
    have hj' := List.mem_range.1 hj
    refine nxt_thr ?_
    have := hpos (j + 1) (by omega)
    rw [iter_add] at this
    exact this)
  simp at this
  omega
theorem waitsN_mono {d : DSched} {on a : Int} {n k : Nat} (hk : n ≤ k) (h : waitsN d on n a = true) : waitsN d on k a = true := by
  obtain ⟨m, h1, h2⟩ := (waitsN_iff d on n a).1 h
  exact (waitsN_iff d on k a).2 ⟨m, by omega, h2⟩
/-- Every lock's owner is a thread. -/
def Owned (d : DSched) : Prop := ∀ y, y ∈ d.Locks → 0 ≤ y.Owner
theorem stepI_nxt {d : DSched} (ho : Owned d) (a : Int) : (stepI d a = none ∧ nxt d a = -1) ∨ ∃ o, stepI d a = some o ∧ nxt d a = o ∧ 0 ≤ o := by
  unfold stepI nxt
  rcases hf : thrOf d a with _ | x
  · exact .inl ⟨rfl, rfl⟩
  · simp only
    by_cases hs : x.State = 2
    · rw [if_pos hs, if_pos hs]
      rcases hl : lckOf d x.Wait with _ | y
      · exact .inl ⟨rfl, rfl⟩
      · exact .inr ⟨_, rfl, rfl, ho y (List.mem_of_find?_eq_some hl)⟩
    · rw [if_neg hs, if_neg hs]; exact .inl ⟨rfl, rfl⟩
theorem waitsI_N {d : DSched} (ho : Owned d) (on : Int) : ∀ (n : Nat) (a : Int), waitsI d on n a = waitsN d on n (nxt d a)
  | 0, a => rfl
  | n + 1, a => by
    unfold waitsI waitsN
    rcases stepI_nxt ho a with ⟨h1, h2⟩ | ⟨o, h1, h2, h3⟩
    · rw [h1, h2]; rfl
    · rw [h1, h2, if_neg (by omega)]
      simp only
      rw [waitsI_N ho on n o]
theorem waits_same {d : DSched} (ho : Owned d) (hl : d.Threads.length ≤ 32) (a on : Int) : waitsI d on 34 a = waits d a on := by
  rw [waitsI_N ho]
  unfold waits
  apply Bool.eq_iff_iff.2
  exact ⟨waitsN_short, waitsN_mono (by omega)⟩
end Go.Proofs.Yteigefjiifihpaa

/- FnExactPick: when a state can be, on the program's side. Conditions: none. -/
set_option linter.unusedVariables false
set_option linter.unusedSimpArgs false
namespace Go.Proofs.Yteigefjiifihpaa
open Go Go.Den
def ThrP (d : DSched) (i : Nat) (x : DThread) : Prop := (∀ z, 0 < i → d.Threads[i - 1]? = some z → z.Id < x.Id) ∧ thrOk d x = true ∧ LineOk d i x
def badI (d : DSched) (last : Int) (ks : List Int) (x : DThread) : Bool := ((((((((((decide (x.Id ≤ last) || decide (x.Id ≥ 32)) || decide (x.Base < 0)) || decide (x.Base > 7)) || decide (x.Line < 1)) || decide (x.Line > d.Seq)) || decide (x.Line ∈ ks)) || decide (x.Left < 1)) || decide (x.Left > 4)) || decide (x.Since < 0)) || decide (x.Since > d.Now))
def LastAt (d : DSched) (i : Nat) (last : Int) : Prop := (i = 0 ∧ last = -1) ∨ ∃ z, 0 < i ∧ d.Threads[i - 1]? = some z ∧ last = z.Id ∧ 0 ≤ z.Id
def LinesAt (d : DSched) (i : Nat) (ks : List Int) : Prop := ∀ n, n ∈ ks ↔ ∃ j z, j < i ∧ d.Threads[j]? = some z ∧ z.Line = n
theorem badI_iff {d : DSched} {i : Nat} {last : Int} {ks : List Int} {x : DThread} (hl : LastAt d i last) (hk : LinesAt d i ks) : badI d last ks x = false ↔ (∀ z, 0 < i → d.Threads[i - 1]? = some z → z.Id < x.Id) ∧ thrBad d x = false ∧ LineOk d i x := by
  unfold badI thrBad
  simp only [Bool.or_eq_false_iff, decide_eq_false_iff_not]
  constructor
  · rintro ⟨⟨⟨⟨⟨⟨⟨⟨⟨⟨h1, h2⟩, h3⟩, h4⟩, h5⟩, h6⟩, h7⟩, h8⟩, h9⟩, h10⟩, h11⟩
    refine ⟨fun z hi hz => ?_, ⟨⟨⟨⟨⟨⟨⟨⟨⟨?_, h2⟩, h3⟩, h4⟩, h5⟩, h6⟩, h8⟩, h9⟩, h10⟩, h11⟩, fun j z hj hz he => h7 ((hk _).2 ⟨j, z, hj, hz, he⟩)⟩
    · rcases hl with ⟨h, _⟩ | ⟨y, _, hy, he, _⟩
      · omega
      · rw [hy] at hz; cases hz; omega
    · rcases hl with ⟨_, h⟩ | ⟨y, _, hy, he, h0⟩ <;> omega
  · rintro ⟨ha, ⟨⟨⟨⟨⟨⟨⟨⟨⟨h1, h2⟩, h3⟩, h4⟩, h5⟩, h6⟩, h8⟩, h9⟩, h10⟩, h11⟩, hb⟩
    refine ⟨⟨⟨⟨⟨⟨⟨⟨⟨⟨?_, h2⟩, h3⟩, h4⟩, h5⟩, h6⟩, fun hm => ?_⟩, h8⟩, h9⟩, h10⟩, h11⟩
    · rcases hl with ⟨_, h⟩ | ⟨y, hi, hy, he, h0⟩
      · omega
      · have := ha y hi hy; omega
    · obtain ⟨j, z, hj, hz, he⟩ := (hk _).1 hm
      exact hb j z hj hz he
theorem join_or_get {c : Bool} {w : World} {q : Nat} {ks : List Int} {p : Addr} {n : Int} {k : Bool → World → Prop} (hn : w.cell? p = some (.int .i64 n)) (hq : SetAt w q ks) (h : k (c || decide (n ∈ ks)) w) :
    JoinW [.bool] (fun J => BIf c (J true w) (∃ n : Int, w.cell? p = some (.int .i64 n) ∧ MapGetW w (some q) (.int .i64 n) fun o => ∃ b : Bool, valOr o (.bool false) = (.bool b : Value) ∧ J b w)) k := by
  refine ⟨k, fun _ _ h => h, ?_⟩
  cases c
  · exact ⟨n, hn, hq.get n (fun o ho => ⟨_, ho, h⟩)⟩
  · exact h
end Go.Proofs.Yteigefjiifihpaa

/- FnExactPick: the threads of a state that can be, on the program's side. Conditions: none. -/
set_option linter.unusedVariables false
set_option linter.unusedSimpArgs false
namespace Go.Proofs.Yteigefjiifihpaa
open Go Go.Den
theorem pat_of {w : World} {b : Nat} {n q : Int} {t l : Sl} (hb : Blk w b (sCells n q t l)) : PAt w ⟨b, 0, none⟩ n q t l := fun j v hj => by rw [add_mk, hb.cell, Nat.zero_add]; exact hj
theorem ptr_isNone {w : World} {t l : Sl} {d : DSched} (h : SAt w t l d) (id : Int) : Option.isNone (ptrAt t.a 8 (idT d id)) = decide (idT d id < 0) := by
  rcases idT_find d id with ⟨hi, hf⟩ | ⟨k, x, hi, hx, hf⟩
  · rw [hi]; rfl
  · obtain ⟨p, hp, _⟩ := h.thr hx
    rw [hi, ptr_some hp, decide_eq_false (by omega)]; rfl
theorem ptr_isNoneL {w : World} {t l : Sl} {d : DSched} (h : SAt w t l d) (id : Int) : Option.isNone (ptrAt l.a 2 (idL d id)) = decide (idL d id < 0) := by
  rcases idL_find d id with ⟨hi, hf⟩ | ⟨k, x, hi, hx, hf⟩
  · rw [hi]; rfl
  · obtain ⟨p, hp, _⟩ := h.lck hx
    rw [hi, ptr_some hp, decide_eq_false (by omega)]; rfl
/-- A thread's state, in itself. -/
def stOk (d : DSched) (x : DThread) : Bool := if x.State = 1 then (x.Wait == -1 && x.Until == 0) else if x.State = 2 then (decide (idL d x.Wait ≥ 0) && x.Until == 0) else (x.State == 3 && x.Wait == -1 && decide (x.Until > 0))
theorem thrOk_iff (d : DSched) (x : DThread) : thrOk d x = true ↔ thrBad d x = false ∧ stOk d x = true := by
  unfold thrOk stOk
  cases hb : thrBad d x
  · simp
  · simp
theorem last_next {d : DSched} {k : Nat} {x : DThread} (hx : d.Threads[k]? = some x) (h : thrBad d x = false) : LastAt d (k + 1) x.Id := by
  refine .inr ⟨x, by omega, by simpa using hx, rfl, ?_⟩
  unfold thrBad at h
  simp only [Bool.or_eq_false_iff, decide_eq_false_iff_not] at h
  omega
theorem lines_next {d : DSched} {k : Nat} {x : DThread} {ks : List Int} (hx : d.Threads[k]? = some x) (h : LinesAt d k ks) : LinesAt d (k + 1) (ks ++ [x.Line]) := by
  intro n
  rw [List.mem_append, h n]
  constructor
  · rintro (⟨j, z, h1, h2⟩ | h1)
    · exact ⟨j, z, by omega, h2⟩
    · exact ⟨k, x, by omega, hx, (List.mem_singleton.1 h1).symm⟩
  · rintro ⟨j, z, h1, h2, h3⟩
    by_cases hj : j = k
    · subst hj; rw [hx] at h2; cases h2; exact .inr (by simp [h3])
    · exact .inl ⟨j, z, by omega, h2, h3⟩
theorem thrP_of {d : DSched} {k : Nat} {x : DThread} {last : Int} {ks : List Int} (hl : LastAt d k last) (hk : LinesAt d k ks) : ThrP d k x ↔ badI d last ks x = false ∧ stOk d x = true := by
  rw [badI_iff hl hk]
  unfold ThrP
  rw [thrOk_iff]
  constructor
  · rintro ⟨h1, ⟨h2, h3⟩, h4⟩; exact ⟨⟨h1, h2, h4⟩, h3⟩
  · rintro ⟨⟨h1, h2, h4⟩, h3⟩; exact ⟨h1, ⟨h2, h3⟩, h4⟩
theorem bad_thr {d : DSched} {k : Nat} {x : DThread} {last : Int} {ks : List Int} (hl : LastAt d k last) (hk : LinesAt d k ks) (h : badI d last ks x = false) : thrBad d x = false ∧ x.Line ∉ ks := by
  refine ⟨((badI_iff hl hk).1 h).2.1, ?_⟩
  unfold badI at h
  simp only [Bool.or_eq_false_iff, decide_eq_false_iff_not] at h
  exact h.1.1.1.1.2
theorem SOk.thrP {d : DSched} (h : SOk d) {k : Nat} {x : DThread} (hx : d.Threads[k]? = some x) : ThrP d k x := by
  have := h.thr k x hx
  exact ⟨this.1.1, this.1.2.1, this.2⟩
/-- All parts together. -/
theorem sok_of {d : DSched} (hh : headBad d = false) (ht : ∀ k x, d.Threads[k]? = some x → ThrP d k x) (hl : ∀ k y, d.Locks[k]? = some y → LckOk d k y) (hw : ∀ x, x ∈ d.Threads → waitsI d x.Id 34 x.Id = false) : SOk d := by
  have howned : Owned d := by
    intro y hy
    obtain ⟨k, hk, he⟩ := List.getElem_of_mem hy
    have hyk : d.Locks[k]? = some y := by rw [List.getElem?_eq_getElem hk, he]
    have h0 := (hl k y hyk).2.2.2
    rcases idT_find d y.Owner with ⟨hi, _⟩ | ⟨i, x, hi, hx, hf⟩
    · omega
    · have hid := (thrOf_id hf).1
      have := (thrOk_iff d x).1 (ht i x hx).2.1
      have := this.1
      unfold thrBad at this
      simp only [Bool.or_eq_false_iff, decide_eq_false_iff_not] at this
      omega
  have hlen : d.Threads.length ≤ 32 := by
    unfold headBad at hh
    simp only [Bool.or_eq_false_iff, decide_eq_false_iff_not] at hh
    omega
  refine ⟨hh, hl, fun k x hx => ⟨⟨(ht k x hx).1, (ht k x hx).2.1, ?_⟩, (ht k x hx).2.2⟩⟩
  rw [← waits_same howned hlen]
  exact hw x (List.mem_of_getElem? hx)
theorem SOk.owned {d : DSched} (h : SOk d) : Owned d := by
  intro y hy
  obtain ⟨k, hk, he⟩ := List.getElem_of_mem hy
  have hyk : d.Locks[k]? = some y := by rw [List.getElem?_eq_getElem hk, he]
  have h0 := (h.lck k y hyk).2.2.2
  rcases idT_find d y.Owner with ⟨hi, _⟩ | ⟨i, x, hi, hx, hf⟩
  · omega
  · have hid := (thrOf_id hf).1
    have := ((thrOk_iff d x).1 (h.thr i x hx).1.2.1).1
    unfold thrBad at this
    simp only [Bool.or_eq_false_iff, decide_eq_false_iff_not] at this
    omega
theorem SOk.waitsI {d : DSched} (h : SOk d) {x : DThread} (hx : x ∈ d.Threads) : waitsI d x.Id 34 x.Id = false := by
  obtain ⟨k, hk, he⟩ := List.getElem_of_mem hx
  rw [waits_same h.owned h.now.2.2.2.2.1]
  exact (h.thr k x (by rw [List.getElem?_eq_getElem hk, he])).1.2.2
end Go.Proofs.Yteigefjiifihpaa

/- FnExactPick: when a state can be, on the program's side: the walk. Conditions: none. -/
set_option linter.unusedVariables false
set_option linter.unusedSimpArgs false
namespace Go.Proofs.Yteigefjiifihpaa
open Go Go.Den
def LLast (d : DSched) (i : Nat) (last : Int) : Prop := (i = 0 ∧ last = -1) ∨ ∃ z, 0 < i ∧ d.Locks[i - 1]? = some z ∧ last = z.Id ∧ 0 ≤ z.Id
theorem head_same (d : DSched) : ((((decide (d.Now < 0) || decide (d.Now > 1099511627776)) || decide (d.Seq < 0)) || decide (d.Seq > 1099511627776)) || decide ((d.Threads.length : Int) > 32) || decide ((d.Locks.length : Int) > 16)) = headBad d := by
  apply Bool.eq_iff_iff.2
  unfold headBad cnt
  simp only [Bool.or_eq_true, Bool.not_eq_true', Bool.and_eq_false_iff, decide_eq_true_eq, decide_eq_false_iff_not]
  omega
theorem c34 {t l : Sl} {d : DSched} {w : World} (h : SAt w t l d) : CallW Try.prog 34 #[sAgg d.Now d.Seq t l] w (KOk d w) := by
  refine go34 ?_
  unfold W34
  refine LetW_iff.2 ?_
  have hb : Blk (w.alloc (.cells #[.int .i64 d.Now, .int .i64 d.Seq, .slice t.a t.len t.cap, .slice l.a l.len l.cap] 43)) w.heap.size (sCells d.Now d.Seq t l) := blk_alloc w _ _
  have e0 := ext_alloc w (.cells #[.int .i64 d.Now, .int .i64 d.Seq, .slice t.a t.len t.cap, .slice l.a l.len l.cap] 43)
  generalize w.alloc (.cells #[.int .i64 d.Now, .int .i64 d.Seq, .slice t.a t.len t.cap, .slice l.a l.len l.cap] 43) = w1 at *
  have h1 := h.ext e0
  have htl := h.tl
  have hll := h.ll
  have hfew := h.few
  have hbl := hb.lt
  refine ⟨_, hb.cell 0, ?_⟩
  refine join_or_ex _ (hb.cell 0) ?_
  refine join_or_ex _ (hb.cell 1) ?_
  refine join_or_ex _ (hb.cell 1) ?_
  refine join_or_ex t (hb.cell 2) ?_
  refine join_or_ex l (hb.cell 3) ?_
  rw [htl, hll, head_same]
  refine BIf.of (fun hbad => ⟨false, rfl, ⟨(fun h => nomatch h), fun h => by rw [h.head] at hbad; cases hbad⟩, e0⟩) (fun hgood => LetW_iff.2 ?_)
  have hq0 := setAt_new w1
  have eq0 := ext_alloc w1 (.map #[] 0)
  have hq1 : w1.heap.size < (w1.alloc (.map #[] 0)).heap.size := by rw [size_alloc]; omega
  generalize w1.alloc (.map #[] 0) = wm at *
  refine ⟨t, (hb.ext eq0).cell 2, ?_⟩
  refine LoopW.m2 (fun (last i : Int) w' => 0 ≤ i ∧ i ≤ t.len ∧ Ext w1 w' ∧ w1.heap.size < w'.heap.size ∧ (∀ (j : Nat) x, (j : Int) < i → d.Threads[j]? = some x → ThrP d j x) ∧ LastAt d i.toNat last ∧ ∃ ks, LinesAt d i.toNat ks ∧ SetAt w' w1.heap.size ks) (fun _ (i : Int) _ => (t.len - i).toNat)
    ⟨by omega, by omega, eq0, hq1, fun j y hj => by omega, .inl ⟨rfl, rfl⟩, [], fun n => ⟨fun h => (by cases h), fun ⟨j, _, hj, _⟩ => absurd hj (Nat.not_lt_zero _)⟩, hq0⟩ ?_
  rintro (last : Int) (i : Int) w2 ⟨hi0, hi1, e2, hsz2, hall, hlast, ks, hks, hset⟩ J hJ
  obtain ⟨k, rfl⟩ := Int.eq_ofNat_of_zero_le hi0
  have hb2 := hb.ext e2
  have h2 := h1.ext e2
  rw [Int.toNat_natCast] at *
  refine BIf.dec (fun hlt => ?_) (fun hge => ?_)
  · have hk : k < d.Threads.length := by omega
    have hget : d.Threads[k]? = some d.Threads[k] := List.getElem?_eq_getElem hk
    obtain ⟨p, hp, hc⟩ := h2.thr hget
    generalize d.Threads[k] = x at *
    refine ⟨hi0, hlt, p, hp, _, hc 0 _ rfl, _, hc 1 _ rfl, _, hc 2 _ rfl, _, hc 3 _ rfl, _, hc 4 _ rfl, _, hc 5 _ rfl, _, hc 6 _ rfl, _, hc 7 _ rfl, LetW_iff.2 ?_⟩
    have hz : Blk (w2.alloc (.cells #[.int .i64 0, .int .i64 0, .int .i64 0, .int .i64 0, .int .i64 0, .int .i64 0, .int .i64 0, .int .i64 0] 61)) w2.heap.size _ := blk_alloc w2 _ _
    have ez := ext_alloc w2 (.cells #[.int .i64 0, .int .i64 0, .int .i64 0, .int .i64 0, .int .i64 0, .int .i64 0, .int .i64 0, .int .i64 0] 61)
    refine thr_put hz rfl x (fun w3 o3 hx => ?_)
    have e23 : Ext w2 w3 := Ext.own ez o3 (by rintro k rfl; exact Nat.le_refl _)
    have e3 := Only.trans e2 e23
    have hb3 := hb.ext e3
    have hset3 := hset.ext e23
    refine ⟨_, hx.cell 0, ?_⟩
    refine join_or_ex _ (hx.cell 0) ?_
    refine join_or_ex _ (hx.cell 1) ?_
    refine join_or_ex _ (hx.cell 1) ?_
    refine join_or_ex _ (hx.cell 3) ?_
    refine join_or_ex2 _ _ (hx.cell 3) (hb3.cell 1) ?_
    refine join_or_get (hx.cell 3) hset3 ?_
    refine join_or_ex _ (hx.cell 4) ?_
    refine join_or_ex _ (hx.cell 4) ?_
    refine join_or_ex _ (hx.cell 5) ?_
    refine join_or_ex2 _ _ (hx.cell 5) (hb3.cell 0) ?_
    have no : ∀ w', Ext w1 w' → ¬ ThrP d k x → KOk d w (.bool false) w' := fun w' e' hn => ⟨false, rfl, ⟨(fun h => nomatch h), fun h => absurd (h.thrP hget) hn⟩, Only.trans e0 e'⟩
    refine BIf.of (fun hbad => no _ e3 (fun hp => ?_)) (fun hok => ?_)
    · have := ((thrP_of hlast hks).1 hp).1
      rw [show badI d last ks x = true from hbad] at this; cases this
    · have hok : badI d last ks x = false := hok
      obtain ⟨hbt, hfresh⟩ := bad_thr hlast hks hok
      refine ⟨_, hx.cell 0, _, hx.cell 3, hset3.put hfresh (fun w4 hset4 o4 => ?_)⟩
      have e4 : Ext w1 w4 := Ext.own e3 o4 (by rintro k rfl; exact Nat.le_refl _)
      have hx4 := hx.only o4 (by omega)
      have hb4 := hb.ext e4
      have h4 := h1.ext e4
      have hsz4 : w1.heap.size < w4.heap.size := hset4.lt
      have done : ∀ (bad : Bool), bad = !stOk d x → ∀ w', w' = w4 → BIf bad (KOk d w (.bool false) w') (J x.Id (IntKind.wrap .i64 ((k : Int) + 1)) w') := by
        rintro bad hbad w' rfl
        refine BIf.of (fun hb1 => no _ e4 (fun hp => ?_)) (fun hb1 => ?_)
        · rw [((thrP_of hlast hks).1 hp).2] at hbad; rw [hbad] at hb1; cases hb1
        · have hst : stOk d x = true := by rw [hb1] at hbad; simpa using hbad.symm
          rw [w64 (by omega) (by omega)]
          refine hJ _ _ _ ⟨by omega, by omega, e4, hsz4, fun j z hj hz => ?_, ?_, ks ++ [x.Line], ?_, hset4⟩ (by omega)
          · by_cases hjk : j = k
            · subst hjk; rw [hget] at hz; cases hz; exact (thrP_of hlast hks).2 ⟨hok, hst⟩
            · exact hall j z (by omega) hz
          · exact last_next hget hbt
          · exact lines_next hget hks
      have hst0 : stOk d x = if x.State = 1 then (x.Wait == -1 && x.Until == 0) else if x.State = 2 then (decide (idL d x.Wait ≥ 0) && x.Until == 0) else (x.State == 3 && x.Wait == -1 && decide (x.Until > 0)) := rfl
      refine ⟨_, hx4.cell 2, BIf.eq (fun hs => ?_) (fun hs => BIf.eq (fun hs2 => ?_) (fun hs2 => BIf.eq (fun hs3 => ?_) (fun hs3 => ?_)))⟩
      · rw [if_pos hs] at hst0
        refine ⟨_, hx4.cell 7, join_or_ex _ (hx4.cell 6) (done _ ?_ _ rfl)⟩
        rw [hst0]; simp [bne]
      · rw [if_neg hs, if_pos hs2] at hst0
        refine ⟨_, hx4.cell 6, JoinW.cut1 (fun (b : Bool) w' => b = (!stOk d x) ∧ w' = w4) ?_ ?_⟩
        · refine BIf.of (fun hu => ⟨?_, rfl⟩) (fun hu => ⟨_, hx4.cell 7, (c83 (pat_of hb4) h4).mono ?_⟩)
          · rw [hst0]; simp [bne] at hu; simp [hu]
          · rintro _ w5 ⟨rfl, rfl⟩
            refine ⟨_, rfl, ?_, rfl⟩
            rw [ptr_isNoneL h4, hst0]
            have hu : x.Until = 0 := by simpa [bne] using hu
            by_cases hl0 : idL d x.Wait < 0
            · rw [decide_eq_true hl0, decide_eq_false (by omega)]; rfl
            · rw [decide_eq_false hl0, decide_eq_true (by omega), hu]; rfl
        · rintro (b : Bool) w5 ⟨hbb, rfl⟩
          exact done _ hbb _ rfl
      · rw [if_neg hs, if_neg hs2] at hst0
        refine ⟨_, hx4.cell 7, join_or_ex _ (hx4.cell 6) (done _ ?_ _ rfl)⟩
        rw [hst0, hs3]
        apply Bool.eq_iff_iff.2
        simp [bne]
      · rw [if_neg hs, if_neg hs2] at hst0
        refine no _ e4 (fun hp => ?_)
        have := ((thrP_of hlast hks).1 hp).2
        rw [hst0] at this
        simp [hs3] at this
  · have hthr : ∀ j x, d.Threads[j]? = some x → ThrP d j x := fun j x hx => hall j x (by have := (List.getElem?_eq_some_iff.1 hx).1; omega) hx
    clear hJ J
    refine ⟨l, hb2.cell 3, ?_⟩
    refine LoopW.m2 (fun (last i : Int) w' => 0 ≤ i ∧ i ≤ l.len ∧ Ext w1 w' ∧ (∀ (j : Nat) y, (j : Int) < i → d.Locks[j]? = some y → LckOk d j y) ∧ LLast d i.toNat last) (fun _ (i : Int) _ => (l.len - i).toNat)
      ⟨by omega, by omega, e2, fun j y hj => by omega, .inl ⟨rfl, rfl⟩⟩ ?_
    clear hlast hall hks hset hi0 hi1 hge
    rintro (last : Int) (i : Int) w3 ⟨hi0, hi1, e3, hall, hlast⟩ J hJ
    obtain ⟨k, rfl⟩ := Int.eq_ofNat_of_zero_le hi0
    have hb3 := hb.ext e3
    have h3 := h1.ext e3
    rw [Int.toNat_natCast] at *
    refine BIf.dec (fun hlt => ?_) (fun hge => ?_)
    · have hk : k < d.Locks.length := by omega
      have hget : d.Locks[k]? = some d.Locks[k] := List.getElem?_eq_getElem hk
      obtain ⟨p, hp, hc⟩ := h3.lck hget
      generalize d.Locks[k] = y at *
      refine ⟨hi0, hlt, p, hp, _, hc 0 _ rfl, _, hc 1 _ rfl, LetW_iff.2 ?_⟩
      have hz : Blk (w3.alloc (.cells #[.int .i64 0, .int .i64 0] 122)) w3.heap.size _ := blk_alloc w3 _ _
      have ez := ext_alloc w3 (.cells #[.int .i64 0, .int .i64 0] 122)
      refine lck_put hz rfl y (fun w4 o4 hy => ?_)
      have e4 := Only.trans e3 (Ext.own ez o4 (by rintro k rfl; exact Nat.le_refl _))
      have hb4 := hb.ext e4
      have h4 := h1.ext e4
      refine ⟨_, hy.cell 0, ?_⟩
      refine join_or_ex _ (hy.cell 0) ?_
      refine JoinW.cut1 (fun (b : Bool) w' => b = ((decide (y.Id ≤ last) || decide (y.Id ≥ 16)) || decide (idT d y.Owner < 0)) ∧ w' = w4) ?_ ?_
      · refine BIf.of (fun hu => ⟨?_, rfl⟩) (fun hu => ⟨_, hy.cell 1, (c84 (pat_of hb4) h4).mono ?_⟩)
        · rw [hu]; rfl
        · rintro _ w5 ⟨rfl, rfl⟩
          refine ⟨_, rfl, ?_, rfl⟩
          rw [ptr_isNone h4, hu]; rfl
      · rintro (b : Bool) w5 ⟨hbb, rfl⟩
        have hiff : b = false ↔ LckOk d k y := by
          rw [hbb]
          simp only [Bool.or_eq_false_iff, decide_eq_false_iff_not]
          unfold LckOk
          constructor
          · rintro ⟨⟨h1, h2⟩, h3⟩
            refine ⟨?_, by omega, fun z hz1 hz => ?_, by omega⟩
            · rcases hlast with ⟨_, he⟩ | ⟨z, _, _, he, h0⟩ <;> omega
            · rcases hlast with ⟨h0, _⟩ | ⟨z', _, hz', he, _⟩
              · omega
              · rw [hz'] at hz; cases hz; omega
          · rintro ⟨h1, h2, h3, h4⟩
            refine ⟨⟨?_, by omega⟩, by omega⟩
            rcases hlast with ⟨_, he⟩ | ⟨z, hk0, hz, he, h0⟩
            · omega
            · have := h3 z hk0 hz; omega
        refine BIf.of (fun hbt => ⟨false, rfl, ⟨(fun h => nomatch h), fun h => ?_⟩, Only.trans e0 e4⟩) (fun hbf => ⟨_, hy.cell 0, ?_⟩)
        · rw [hiff.2 (h.lck k y hget)] at hbt; cases hbt
        · have hok := hiff.1 hbf
          rw [w64 (by omega) (by omega)]
          refine hJ _ _ _ ⟨by omega, by omega, e4, fun j z hj hz => ?_, .inr ⟨y, Nat.succ_pos k, by show d.Locks[k + 1 - 1]? = _; simpa using hget, rfl, hok.1⟩⟩ (by omega)
          by_cases hjk : j = k
          · subst hjk; rw [hget] at hz; cases hz; exact hok
          · exact hall j z (by omega) hz
    · have hlck : ∀ j y, d.Locks[j]? = some y → LckOk d j y := fun j y hy => hall j y (by have := (List.getElem?_eq_some_iff.1 hy).1; omega) hy
      clear hJ J hall hlast hi0 hi1 hge
      refine ⟨t, hb3.cell 2, ?_⟩
      refine LoopW.m1 (fun (i : Int) w' => 0 ≤ i ∧ i ≤ t.len ∧ Ext w1 w' ∧ ∀ (j : Nat) x, (j : Int) < i → d.Threads[j]? = some x → waitsI d x.Id 34 x.Id = false) (fun (i : Int) _ => (t.len - i).toNat) ⟨by omega, by omega, e3, fun j y hj => by omega⟩ ?_
      rintro (i : Int) w4 ⟨hi0, hi1, e4, hall⟩ J hJ
      obtain ⟨m, rfl⟩ := Int.eq_ofNat_of_zero_le hi0
      have h4 := h1.ext e4
      rw [Int.toNat_natCast] at *
      refine BIf.dec (fun hlt => ?_) (fun hge => ?_)
      · have hk : m < d.Threads.length := by omega
        have hget : d.Threads[m]? = some d.Threads[m] := List.getElem?_eq_getElem hk
        obtain ⟨p, hp, hc⟩ := h4.thr hget
        generalize d.Threads[m] = x at *
        refine ⟨hi0, hlt, p, hp, _, hc 0 _ rfl, _, hc 1 _ rfl, _, hc 2 _ rfl, _, hc 3 _ rfl, _, hc 4 _ rfl, _, hc 5 _ rfl, _, hc 6 _ rfl, _, hc 7 _ rfl, LetW_iff.2 ?_⟩
        have hz : Blk (w4.alloc (.cells #[.int .i64 0, .int .i64 0, .int .i64 0, .int .i64 0, .int .i64 0, .int .i64 0, .int .i64 0, .int .i64 0] 61)) w4.heap.size _ := blk_alloc w4 _ _
        have ez := ext_alloc w4 (.cells #[.int .i64 0, .int .i64 0, .int .i64 0, .int .i64 0, .int .i64 0, .int .i64 0, .int .i64 0, .int .i64 0] 61)
        refine thr_put hz rfl x (fun w5 o5 hx => ?_)
        have e5 := Only.trans e4 (Ext.own ez o5 (by rintro k rfl; exact Nat.le_refl _))
        refine ⟨_, hx.cell 0, _, hx.cell 0, (c85 (pat_of (hb.ext e5)) (h1.ext e5)).mono ?_⟩
        rintro _ w5 ⟨rfl, rfl⟩
        refine ⟨_, rfl, BIf.of (fun hw => ⟨false, rfl, ⟨(fun h => nomatch h), fun h => ?_⟩, Only.trans e0 e5⟩) (fun hw => ?_)⟩
        · rw [h.waitsI (List.mem_of_getElem? hget)] at hw; cases hw
        · rw [w64 (by omega) (by omega)]
          refine hJ _ _ ⟨by omega, by omega, e5, fun j z hj hz => ?_⟩ (by omega)
          by_cases hjk : j = m
          · subst hjk; rw [hget] at hz; cases hz; exact hw
          · exact hall j z (by omega) hz
      · refine ⟨true, rfl, ⟨fun _ => sok_of hgood hthr hlck (fun x hx => ?_), fun _ => rfl⟩, Only.trans e0 e4⟩
        obtain ⟨j, hj, he⟩ := List.getElem_of_mem hx
        exact hall j x (by omega) (by rw [List.getElem?_eq_getElem hj, he])
end Go.Proofs.Yteigefjiifihpaa

/- FnExactPick, plain law: a priority is the greatest of one's own and of those that wait. Conditions: none. -/
set_option linter.unusedVariables false
set_option linter.unusedSimpArgs false
namespace Go.Proofs.Yteigefjiifihpaa
open Go Go.Den
theorem prioL_char (d : DSched) (id : Int) : ∀ (l : List DThread) (p : Int), p ≤ prioL d id l p ∧ (∀ y, y ∈ l → waits d y.Id id = true → own d y ≤ prioL d id l p) ∧ (prioL d id l p = p ∨ ∃ y, y ∈ l ∧ waits d y.Id id = true ∧ prioL d id l p = own d y)
  | [], p => ⟨Int.le_refl _, (fun y hy => by cases hy), .inl rfl⟩
  | x :: r, p => by
    unfold prioL
    by_cases hw : waits d x.Id id = true
    · rw [if_pos hw]
      by_cases hg : own d x > p
      · rw [if_pos hg]
        obtain ⟨h1, h2, h3⟩ := prioL_char d id r (own d x)
        refine ⟨by omega, fun y hy hwy => ?_, ?_⟩
        · cases hy with
          | head => exact h1
          | tail _ hy => exact h2 y hy hwy
        · rcases h3 with h3 | ⟨y, hy, h4, h5⟩
          · exact .inr ⟨x, by simp, hw, h3⟩
          · exact .inr ⟨y, by simp [hy], h4, h5⟩
      · rw [if_neg hg]
        obtain ⟨h1, h2, h3⟩ := prioL_char d id r p
        refine ⟨h1, fun y hy hwy => ?_, ?_⟩
        · cases hy with
          | head => omega
          | tail _ hy => exact h2 y hy hwy
        · rcases h3 with h3 | ⟨y, hy, h4, h5⟩
          · exact .inl h3
          · exact .inr ⟨y, by simp [hy], h4, h5⟩
    · rw [if_neg hw]
      obtain ⟨h1, h2, h3⟩ := prioL_char d id r p
      refine ⟨h1, fun y hy hwy => ?_, ?_⟩
      · cases hy with
        | head => exact absurd hwy hw
        | tail _ hy => exact h2 y hy hwy
      · rcases h3 with h3 | ⟨y, hy, h4, h5⟩
        · exact .inl h3
        · exact .inr ⟨y, by simp [hy], h4, h5⟩
/-- Waiting, in steps. -/
theorem waits_iff (d : DSched) (a on : Int) : waits d a on = true ↔ ∃ m, (∀ j, j ≤ m → 0 ≤ iter d (j + 1) a) ∧ iter d (m + 1) a = on := by
  unfold waits
  constructor
  · intro h
    obtain ⟨m, _, h2, h3⟩ := (waitsN_iff d on _ _).1 h
    exact ⟨m, h2, h3⟩
  · rintro ⟨m, h2, h3⟩
    exact waitsN_short ((waitsN_iff d on (m + 1) _).2 ⟨m, by omega, h2, h3⟩)
theorem waits_last {d : DSched} {a on : Int} : waits d a on = true ↔ (0 ≤ on ∧ nxt d a = on) ∨ ∃ b, waits d a b = true ∧ 0 ≤ on ∧ nxt d b = on := by
  rw [waits_iff]
  constructor
  · rintro ⟨m, h1, h2⟩
    cases m with
    | zero => exact .inl ⟨h2 ▸ h1 0 (Nat.le_refl _), h2⟩
    | succ m =>
      refine .inr ⟨iter d (m + 1) a, (waits_iff d a _).2 ⟨m, fun j hj => h1 j (by omega), rfl⟩, h2 ▸ h1 (m + 1) (Nat.le_refl _), ?_⟩
      rw [iter_add d (m + 1) 1 a] at h2
      exact h2
  · rintro (⟨h0, h1⟩ | ⟨b, hb, h0, h1⟩)
    · exact ⟨0, fun j hj => by rw [Nat.le_zero.1 hj]; show 0 ≤ nxt d a; omega, h1⟩
    · obtain ⟨m, h2, h3⟩ := (waits_iff d a b).1 hb
      have he : iter d (m + 1 + 1) a = on := by rw [iter_add d (m + 1) 1 a, h3]; exact h1
      refine ⟨m + 1, fun j hj => ?_, he⟩
      by_cases hjm : j ≤ m
      · exact h2 j hjm
      · rw [show j = m + 1 by omega, he]; exact h0
/-- The greatest of one's own and of those that wait for oneself at once. -/
theorem prio_fold {d : DSched} {x : DThread} {r : Int} (h0 : 0 ≤ x.Id) (hA : own d x ≤ r) (hB : ∀ w, w ∈ d.Threads → nxt d w.Id = x.Id → prio d w ≤ r)
    (hC : r = own d x ∨ ∃ w, w ∈ d.Threads ∧ nxt d w.Id = x.Id ∧ r = prio d w) : r = prio d x := by
  obtain ⟨p1, p2, p3⟩ := prioL_char d x.Id d.Threads (own d x)
  have hle : r ≤ prio d x := by
    rcases hC with hC | ⟨w, hw, hn, hC⟩
    · rw [hC]; exact p1
    · obtain ⟨q1, q2, q3⟩ := prioL_char d w.Id d.Threads (own d w)
      rcases q3 with q3 | ⟨y, hy, hyw, q3⟩
      · rw [hC, show prio d w = own d w from q3]
        exact p2 w hw (waits_last.2 (.inl ⟨h0, hn⟩))
      · rw [hC, show prio d w = own d y from q3]
        exact p2 y hy (waits_last.2 (.inr ⟨w.Id, hyw, h0, hn⟩))
  have hge : prio d x ≤ r := by
    rcases p3 with p3 | ⟨y, hy, hyx, p3⟩
    · rw [show prio d x = own d x from p3]; exact hA
    · rw [show prio d x = own d y from p3]
      rcases waits_last.1 hyx with ⟨_, hn⟩ | ⟨b, hyb, _, hn⟩
      · exact Int.le_trans (prioL_ge _ _ _ _) (hB y hy hn)
      · obtain ⟨w, hw, hwb⟩ := List.mem_map.1 (nxt_thr (show 0 ≤ nxt d b by omega))
        have hwb : w.Id = b := hwb
        subst hwb
        exact Int.le_trans ((prioL_char d w.Id d.Threads (own d w)).2.1 y hy hyb) (hB w hw hn)
  omega
end Go.Proofs.Yteigefjiifihpaa

/- Sorted lists with a key, and the plain law of the scheduler: what a state keeps. Conditions: none. -/
set_option linter.unusedVariables false
set_option linter.unusedSimpArgs false
namespace Go.Proofs.Yteigefjiifihpaa
open Go Go.Den
/-! ## Sorted lists -/
section
variable {α : Type} {key : α → Int}
def Srt (key : α → Int) (l : List α) : Prop := l.Pairwise (fun x y => key x < key y)
theorem Srt.uniq : ∀ {l : List α}, Srt key l → ∀ {x y : α}, x ∈ l → y ∈ l → key x = key y → x = y
  | [], _, x, y, hx, _, _ => by cases hx
  | a :: r, h, x, y, hx, hy, he => by
    obtain ⟨h1, h2⟩ := List.pairwise_cons.1 h
    rcases List.mem_cons.1 hx with hx' | hx' <;> rcases List.mem_cons.1 hy with hy' | hy'
    · rw [hx', hy']
    · have := h1 y hy'; rw [hx'] at he; omega
    · have := h1 x hx'; rw [hy'] at he; omega
    · exact Srt.uniq h2 hx' hy' he
theorem Srt.find {l : List α} (h : Srt key l) {x : α} (hx : x ∈ l) : l.find? (fun y => key y == key x) = some x := by
  rcases hf : l.find? (fun y => key y == key x) with _ | y
  · have := List.find?_eq_none.1 hf x hx
    simp at this
  · have h1 := List.find?_some hf
    have h2 := List.mem_of_find?_eq_some hf
    rw [h.uniq h2 hx (by simpa using h1)]
theorem Srt.lt {l : List α} (h : Srt key l) {i j : Nat} {x y : α} (hx : l[i]? = some x) (hy : l[j]? = some y) (hij : i < j) : key x < key y := by
  obtain ⟨hi, rfl⟩ := List.getElem?_eq_some_iff.1 hx
  obtain ⟨hj, rfl⟩ := List.getElem?_eq_some_iff.1 hy
  exact List.pairwise_iff_getElem.1 h i j hi hj hij
theorem Srt.idx {l : List α} (h : Srt key l) {i : Nat} {x : α} (hx : l[i]? = some x) : idxFrom (fun y => key y == key x) l 0 = (i : Int) :=
  idx_at hx (by simp) (fun j y hj hy => by have := h.lt hy hx hj; simp; omega)
/-- One element turned, its key kept. -/
theorem Srt.set {l : List α} (h : Srt key l) {i : Nat} {x y : α} (hx : l[i]? = some x) (hk : key y = key x) : Srt key (l.set i y) := by
  unfold Srt
  rw [List.pairwise_iff_getElem]
  intro a b ha hb hab
  rw [List.length_set] at ha hb
  have hxe := (List.getElem?_eq_some_iff.1 hx).2
  have h0 := List.pairwise_iff_getElem.1 h a b ha hb hab
  rw [List.getElem_set, List.getElem_set]
  split
  · rename_i hia
    subst hia
    rw [if_neg (by omega), hk, ← hxe]
    exact h0
  · split
    · rename_i hib
      subst hib
      rw [hk, ← hxe]
      exact h0
    · exact h0
theorem Srt.mem_set {l : List α} (h : Srt key l) {i : Nat} {x y : α} (hx : l[i]? = some x) (z : α) : z ∈ l.set i y ↔ z = y ∨ (z ∈ l ∧ key z ≠ key x) := by
  have hi := (List.getElem?_eq_some_iff.1 hx).1
  constructor
  · intro hz
    obtain ⟨j, hj⟩ := List.getElem?_of_mem hz
    by_cases hij : i = j
    · subst hij
      rw [List.getElem?_set_self hi] at hj
      cases hj; exact .inl rfl
    · rw [List.getElem?_set_ne hij] at hj
      refine .inr ⟨List.mem_of_getElem? hj, fun he => ?_⟩
      rcases Nat.lt_trichotomy i j with hlt | heq | hgt
      · have := h.lt hx hj hlt; omega
      · exact hij heq
      · have := h.lt hj hx hgt; omega
  · rintro (rfl | ⟨hz, hne⟩)
    · exact List.mem_iff_getElem?.2 ⟨i, List.getElem?_set_self hi⟩
    · obtain ⟨j, hj⟩ := List.getElem?_of_mem hz
      have hij : i ≠ j := by rintro rfl; rw [hx] at hj; cases hj; exact hne rfl
      exact List.mem_iff_getElem?.2 ⟨j, by rw [List.getElem?_set_ne hij]; exact hj⟩
theorem Srt.filter {l : List α} (h : Srt key l) (p : α → Bool) : Srt key (l.filter p) := List.Pairwise.filter p h
/-- What is taken out by its place is taken out by its key. -/
theorem Srt.erase {l : List α} (h : Srt key l) {i : Nat} {x : α} (hx : l[i]? = some x) : l.take i ++ l.drop (i + 1) = l.filter (fun y => key y != key x) := by
  obtain ⟨hi, hv⟩ := List.getElem?_eq_some_iff.1 hx
  have hl : l = l.take i ++ x :: l.drop (i + 1) := by rw [← hv, ← List.drop_eq_getElem_cons hi, List.take_append_drop]
  have h1 : (l.take i).filter (fun y => key y != key x) = l.take i := by
    rw [List.filter_eq_self]
    intro a ha
    obtain ⟨j, hj⟩ := List.getElem?_of_mem ha
    have hji : j < i := by have := (List.getElem?_eq_some_iff.1 hj).1; rw [List.length_take] at this; omega
    rw [List.getElem?_take_of_lt hji] at hj
    have := h.lt hj hx hji
    simp; omega
  have h2 : (l.drop (i + 1)).filter (fun y => key y != key x) = l.drop (i + 1) := by
    rw [List.filter_eq_self]
    intro a ha
    obtain ⟨j, hj⟩ := List.getElem?_of_mem ha
    rw [List.getElem?_drop] at hj
    have := h.lt hx hj (by omega)
    simp; omega
  have h3 := congrArg (List.filter (fun y => key y != key x)) hl
  rw [h3, List.filter_append, List.filter_cons, h1, h2]
  simp
/-- A new element in its place. -/
theorem Srt.ins {l : List α} (h : Srt key l) {i : Nat} {x : α} (h1 : ∀ y, y ∈ l.take i → key y < key x) (h2 : ∀ y, y ∈ l.drop i → key x < key y) : Srt key (l.take i ++ x :: l.drop i) := by
  unfold Srt
  rw [List.pairwise_append]
  refine ⟨List.Pairwise.sublist (List.take_sublist _ _) h, List.pairwise_cons.2 ⟨h2, List.Pairwise.sublist (List.drop_sublist _ _) h⟩, fun a ha b hb => ?_⟩
  rcases List.mem_cons.1 hb with rfl | hb
  · exact h1 a ha
  · have := h1 a ha; have := h2 b hb; omega
theorem mem_ins {l : List α} {i : Nat} {x z : α} : z ∈ l.take i ++ x :: l.drop i ↔ z = x ∨ z ∈ l := by
  conv => rhs; rhs; rw [← List.take_append_drop i l]
  simp only [List.mem_append, List.mem_cons]
  exact ⟨fun h => by rcases h with h | h | h; exact .inr (.inl h); exact .inl h; exact .inr (.inr h), fun h => by rcases h with h | h | h; exact .inr (.inl h); exact .inl h; exact .inr (.inr h)⟩
theorem Srt.nodup {l : List α} (h : Srt key l) : (l.map key).Nodup := by
  rw [List.nodup_iff_pairwise_ne, List.pairwise_map]
  exact h.imp (fun h => by omega)
/-- Keys in a range: few elements. -/
theorem Srt.few {l : List α} (h : Srt key l) {n : Nat} (hr : ∀ x, x ∈ l → 0 ≤ key x ∧ key x < n) : l.length ≤ n := by
  have := nodup_le (l.map key) ((List.range n).map (fun (k : Nat) => (k : Int))) h.nodup (fun x hx => by
    obtain ⟨y, hy, rfl⟩ := List.mem_map.1 hx
    obtain ⟨h0, h1⟩ := hr y hy
    obtain ⟨m, hm⟩ := Int.eq_ofNat_of_zero_le h0
    exact List.mem_map.2 ⟨m, List.mem_range.2 (by omega), hm.symm⟩)
  simpa using this
/-- The keys fill a range from below. -/
theorem Srt.fill {l : List α} (h : Srt key l) (hr : ∀ x, x ∈ l → 0 ≤ key x) : ∀ (i : Nat) (x : α), l[i]? = some x → (i : Int) ≤ key x
  | 0, x, hx => hr x (List.mem_of_getElem? hx)
  | i + 1, x, hx => by
    have hi := (List.getElem?_eq_some_iff.1 hx).1
    have hg : l[i]? = some l[i] := List.getElem?_eq_getElem (by omega)
    have := Srt.fill h hr i _ hg
    have := h.lt hg hx (by omega)
    omega
end
/-! ## What a state keeps -/
/-- A thread, by itself. -/
structure TOk (d : DSched) (t : DThread) : Prop where
  id : 0 ≤ t.Id ∧ t.Id < 32
  base : 0 ≤ t.Base ∧ t.Base ≤ 7
  line : 1 ≤ t.Line ∧ t.Line ≤ d.Seq
  left : 1 ≤ t.Left ∧ t.Left ≤ 4
  since : 0 ≤ t.Since ∧ t.Since ≤ d.Now
  st : (t.State = 1 ∧ t.Wait = -1 ∧ t.Until = 0) ∨ (t.State = 2 ∧ t.Until = 0 ∧ ∃ k, k ∈ d.Locks ∧ k.Id = t.Wait) ∨ (t.State = 3 ∧ t.Wait = -1 ∧ 0 < t.Until)
/-- A state; g tells which threads may be missing though they own a lock. -/
structure Inv (g : Int → Prop) (d : DSched) : Prop where
  now : 0 ≤ d.Now ∧ 0 ≤ d.Seq
  ts : Srt DThread.Id d.Threads
  ls : Srt DLock.Id d.Locks
  tok : ∀ t, t ∈ d.Threads → TOk d t
  lok : ∀ k, k ∈ d.Locks → 0 ≤ k.Id ∧ k.Id < 16
  own : ∀ k, k ∈ d.Locks → g k.Owner ∨ ∃ t, t ∈ d.Threads ∧ t.Id = k.Owner
  own0 : ∀ k, k ∈ d.Locks → 0 ≤ k.Owner
  lines : d.Threads.Pairwise (fun x y => x.Line ≠ y.Line)
  rank : ∃ r : Int → Nat, ∀ t, t ∈ d.Threads → t.State = 2 → ∀ k, k ∈ d.Locks → k.Id = t.Wait → r k.Owner < r t.Id
theorem Inv.few {g : Int → Prop} {d : DSched} (h : Inv g d) : d.Threads.length ≤ 32 ∧ d.Locks.length ≤ 16 :=
  ⟨h.ts.few (fun x hx => (h.tok x hx).id), h.ls.few h.lok⟩
theorem Inv.find {g : Int → Prop} {d : DSched} (h : Inv g d) {x : DThread} (hx : x ∈ d.Threads) : thrOf d x.Id = some x := h.ts.find hx
theorem Inv.findL {g : Int → Prop} {d : DSched} (h : Inv g d) {x : DLock} (hx : x ∈ d.Locks) : lckOf d x.Id = some x := h.ls.find hx
/-- The next one in a way of waiting. -/
theorem nxt_mem {d : DSched} {a o : Int} (h0 : 0 ≤ o) (h : nxt d a = o) : ∃ t k, t ∈ d.Threads ∧ t.Id = a ∧ t.State = 2 ∧ k ∈ d.Locks ∧ k.Id = t.Wait ∧ k.Owner = o := by
  unfold nxt at h
  rcases hf : thrOf d a with _ | x
  · rw [hf] at h; simp only at h; omega
  · rw [hf] at h
    simp only at h
    obtain ⟨h1, h2⟩ : x.Id = a ∧ x ∈ d.Threads := by
      unfold thrOf at hf
      exact ⟨by simpa using List.find?_some hf, List.mem_of_find?_eq_some hf⟩
    by_cases hs : x.State = 2
    · rw [if_pos hs] at h
      rcases hl : lckOf d x.Wait with _ | k
      · rw [hl] at h; simp only at h; omega
      · rw [hl] at h
        refine ⟨x, k, h2, h1, hs, ?_, ?_, h⟩
        · unfold lckOf at hl; exact List.mem_of_find?_eq_some hl
        · unfold lckOf at hl; simpa using List.find?_some hl
    · rw [if_neg hs] at h; omega
theorem Inv.nxt {g : Int → Prop} {d : DSched} (h : Inv g d) {t : DThread} {k : DLock} (ht : t ∈ d.Threads) (hs : t.State = 2) (hk : k ∈ d.Locks) (hw : k.Id = t.Wait) : nxt d t.Id = k.Owner := by
  unfold Proofs.Yteigefjiifihpaa.nxt
  rw [h.find ht]
  simp only
  rw [if_pos hs, ← hw, h.findL hk]
theorem acyc_of_rank {d : DSched} {r : Int → Nat} (hr : ∀ t, t ∈ d.Threads → t.State = 2 → ∀ k, k ∈ d.Locks → k.Id = t.Wait → r k.Owner < r t.Id) (a : Int) : waits d a a = false := by
  rcases hw : waits d a a with _ | _
  · rfl
  · obtain ⟨m, h1, h2⟩ := (waits_iff d a a).1 hw
    have hstep : ∀ b, 0 ≤ nxt d b → r (nxt d b) < r b := fun b hb => by
      obtain ⟨t, k, ht, he, hs, hk, hkw, hko⟩ := nxt_mem hb rfl
      have := hr t ht hs k hk hkw
      rw [hko, he] at this
      exact this
    have hall : ∀ j, j ≤ m → r (iter d (j + 1) a) < r a := by
      intro j
      induction j with
      | zero => intro hj; exact hstep a (h1 0 hj)
      | succ j ih =>
        intro hj
        have h3 := ih (by omega)
        have h4 := h1 (j + 1) hj
        rw [iter_add d (j + 1) 1 a] at h4 ⊢
        have h5 := hstep _ h4
        show r (nxt d (iter d (j + 1) a)) < r a
        omega
    have := hall m (Nat.le_refl _)
    rw [h2] at this
    omega
theorem waits_step {d : DSched} {a c : Int} (h0 : 0 ≤ nxt d a) (h : waits d (nxt d a) c = true) : waits d a c = true := by
  obtain ⟨m, h1, h2⟩ := (waits_iff d _ c).1 h
  refine (waits_iff d a c).2 ⟨m + 1, fun j hj => ?_, h2⟩
  cases j with
  | zero => exact h0
  | succ j => exact h1 j (by omega)
theorem filter_lt {α : Type} {p q : α → Bool} : ∀ (l : List α), (∀ x, x ∈ l → p x = true → q x = true) → (∃ x, x ∈ l ∧ p x = false ∧ q x = true) → (l.filter p).length < (l.filter q).length
  | [], _, ⟨x, hx, _⟩ => by cases hx
  | a :: r, h, hex => by
    have hle : (r.filter p).length ≤ (r.filter q).length := by
      clear hex
      induction r with
      | nil => exact Nat.le_refl _
      | cons b r ih =>
        have ih := ih (fun x hx => h x (by rcases List.mem_cons.1 hx with hx | hx <;> simp [hx]))
        have hb := h b (by simp)
        by_cases hp : p b = true
        · rw [List.filter_cons_of_pos hp, List.filter_cons_of_pos (hb hp)]; simp; exact ih
        · rw [List.filter_cons_of_neg hp]
          by_cases hq : q b = true
          · rw [List.filter_cons_of_pos hq]; simp; omega
          · rw [List.filter_cons_of_neg hq]; exact ih
    have ha := h a (by simp)
    by_cases hp : p a = true
    · rw [List.filter_cons_of_pos hp, List.filter_cons_of_pos (ha hp)]
      obtain ⟨x, hx, h1, h2⟩ := hex
      cases hx with
      | head => rw [h1] at hp; cases hp
      | tail _ hx =>
        have := filter_lt r (fun x hx => h x (by simp [hx])) ⟨x, hx, h1, h2⟩
        simp; exact this
    · rw [List.filter_cons_of_neg hp]
      by_cases hq : q a = true
      · rw [List.filter_cons_of_pos hq]; simp; omega
      · obtain ⟨x, hx, h1, h2⟩ := hex
        cases hx with
        | head => exact absurd h2 hq
        | tail _ hx =>
          rw [List.filter_cons_of_neg hq]
          exact filter_lt r (fun x hx => h x (by simp [hx])) ⟨x, hx, h1, h2⟩
theorem rank_of_acyc {d : DSched} (ha : ∀ x, x ∈ d.Threads → waits d x.Id x.Id = false) : ∃ r : Int → Nat, ∀ a, 0 ≤ nxt d a → r (nxt d a) < r a := by
  refine ⟨fun a => (d.Threads.filter (fun y => waits d a y.Id)).length + (if 0 ≤ nxt d a then 1 else 0), fun a h0 => ?_⟩
  simp only [if_pos h0]
  have hle : (d.Threads.filter (fun y => waits d (nxt d a) y.Id)).length ≤ (d.Threads.filter (fun y => waits d a y.Id)).length :=
    by rw [← List.countP_eq_length_filter, ← List.countP_eq_length_filter]; exact List.countP_mono_left (fun y _ hy => waits_step h0 hy)
  split
  · rename_i h1
    have hmem := nxt_thr h1
    obtain ⟨t, ht, hte⟩ := List.mem_map.1 hmem
    have hlt : (d.Threads.filter (fun y => waits d (nxt d a) y.Id)).length < (d.Threads.filter (fun y => waits d a y.Id)).length := by
      refine filter_lt _ (fun y hy hw => waits_step h0 hw) ⟨t, ht, ?_, ?_⟩
      · have := ha t ht; rw [hte] at this; rw [hte]; exact this
      · rw [hte]; exact waits_last.2 (.inl ⟨h0, rfl⟩)
    omega
  · omega
end Go.Proofs.Yteigefjiifihpaa

/- The scheduler: what the walks need of a state; a state can be, in two words. Conditions: none. -/
set_option linter.unusedVariables false
set_option linter.unusedSimpArgs false
namespace Go.Proofs.Yteigefjiifihpaa
open Go Go.Den
/-- What the walks need of a state. -/
structure Mid (d : DSched) : Prop where
  num : ∀ y, y ∈ d.Threads → thrNum d y
  find : ∀ x, x ∈ d.Threads → thrOf d x.Id = some x
  findL : ∀ k, k ∈ d.Locks → lckOf d k.Id = some k
  id0 : ∀ x, x ∈ d.Threads → 0 ≤ x.Id
  owned : Owned d
  acyc : ∀ x, x ∈ d.Threads → waits d x.Id x.Id = false
  few : d.Threads.length ≤ 32
theorem Inv.mid {g : Int → Prop} {d : DSched} (h : Inv g d) (hn : d.Now ≤ 1099511627776) : Mid d := by
  refine ⟨fun y hy => ?_, fun x hx => h.find hx, fun k hk => h.findL hk, fun x hx => (h.tok x hx).id.1, fun k hk => h.own0 k hk, fun x hx => ?_, h.few.1⟩
  · have := h.tok y hy
    exact ⟨this.base.1, this.base.2, this.since.1, this.since.2, hn⟩
  · obtain ⟨r, hr⟩ := h.rank
    exact acyc_of_rank hr x.Id
theorem srt_of {α : Type} {key : α → Int} {l : List α} (h : ∀ i y, l[i]? = some y → ∀ z, 0 < i → l[i - 1]? = some z → key z < key y) : Srt key l := by
  have hh : ∀ n i x y, l[i]? = some x → l[i + n + 1]? = some y → key x < key y := by
    intro n
    induction n with
    | zero => intro i x y hx hy; exact h (i + 0 + 1) y hy x (by omega) hx
    | succ n ih =>
      intro i x y hx hy
      have hl := (List.getElem?_eq_some_iff.1 hy).1
      have hz : l[i + n + 1]? = some l[i + n + 1] := List.getElem?_eq_getElem (by omega)
      have h1 := ih i x _ hx hz
      have h2 := h (i + (n + 1) + 1) y hy _ (by omega) (by rw [show i + (n + 1) + 1 - 1 = i + n + 1 by omega]; exact hz)
      omega
  unfold Srt
  rw [List.pairwise_iff_getElem]
  intro i j hi hj hij
  exact hh (j - i - 1) i _ _ (List.getElem?_eq_getElem hi) (by rw [show i + (j - i - 1) + 1 = j by omega]; exact List.getElem?_eq_getElem hj)
theorem idT_mem {d : DSched} {a : Int} : 0 ≤ idT d a ↔ ∃ t, t ∈ d.Threads ∧ t.Id = a := by
  rcases idT_find d a with ⟨h1, h2⟩ | ⟨i, x, h1, h2, h3⟩
  · rw [h1]
    refine ⟨fun h => absurd h (by omega), fun ⟨t, ht, he⟩ => ?_⟩
    unfold thrOf at h2
    have := List.find?_eq_none.1 h2 t ht
    simp [he] at this
  · refine ⟨fun _ => ⟨x, List.mem_of_getElem? h2, (thrOf_id h3).1⟩, fun _ => by omega⟩
theorem idL_mem {d : DSched} {a : Int} : 0 ≤ idL d a ↔ ∃ t, t ∈ d.Locks ∧ t.Id = a := by
  rcases idL_find d a with ⟨h1, h2⟩ | ⟨i, x, h1, h2, h3⟩
  · rw [h1]
    refine ⟨fun h => absurd h (by omega), fun ⟨t, ht, he⟩ => ?_⟩
    unfold lckOf at h2
    have := List.find?_eq_none.1 h2 t ht
    simp [he] at this
  · refine ⟨fun _ => ⟨x, List.mem_of_getElem? h2, ?_⟩, fun _ => by omega⟩
    unfold lckOf at h3; simpa using List.find?_some h3
theorem stOk_iff {d : DSched} {x : DThread} : stOk d x = true ↔ (x.State = 1 ∧ x.Wait = -1 ∧ x.Until = 0) ∨ (x.State = 2 ∧ x.Until = 0 ∧ ∃ k, k ∈ d.Locks ∧ k.Id = x.Wait) ∨ (x.State = 3 ∧ x.Wait = -1 ∧ 0 < x.Until) := by
  unfold stOk
  rw [← idL_mem]
  by_cases h1 : x.State = 1
  · rw [if_pos h1, h1]; simp
  · rw [if_neg h1]
    by_cases h2 : x.State = 2
    · rw [if_pos h2, h2]; simp
      constructor
      · rintro ⟨h3, h4⟩; exact ⟨h4, h3⟩
      · rintro ⟨h3, h4⟩; exact ⟨h4, h3⟩
    · rw [if_neg h2]; simp [h1, h2, and_assoc]
theorem thrBad_iff {d : DSched} {x : DThread} : thrBad d x = false ↔ (0 ≤ x.Id ∧ x.Id < 32) ∧ (0 ≤ x.Base ∧ x.Base ≤ 7) ∧ (1 ≤ x.Line ∧ x.Line ≤ d.Seq) ∧ (1 ≤ x.Left ∧ x.Left ≤ 4) ∧ (0 ≤ x.Since ∧ x.Since ≤ d.Now) := by
  unfold thrBad
  simp only [Bool.or_eq_false_iff, decide_eq_false_iff_not]
  omega
theorem headBad_iff {d : DSched} : headBad d = false ↔ 0 ≤ d.Now ∧ d.Now ≤ 1099511627776 ∧ 0 ≤ d.Seq ∧ d.Seq ≤ 1099511627776 ∧ d.Threads.length ≤ 32 ∧ d.Locks.length ≤ 16 := by
  unfold headBad cnt
  simp only [Bool.or_eq_false_iff, Bool.not_eq_false', Bool.and_eq_true, decide_eq_true_eq, decide_eq_false_iff_not]
  omega
abbrev Inv0 (d : DSched) : Prop := Inv (fun _ => False) d
theorem sok_iff {d : DSched} : SOk d ↔ Inv0 d ∧ d.Now ≤ 1099511627776 ∧ d.Seq ≤ 1099511627776 := by
  constructor
  · intro h
    have hh := headBad_iff.1 h.head
    have hts : Srt DThread.Id d.Threads := srt_of (fun i y hy => (h.thr i y hy).1.1)
    have hls : Srt DLock.Id d.Locks := srt_of (fun i y hy => (h.lck i y hy).2.2.1)
    have htok : ∀ t, t ∈ d.Threads → TOk d t := fun t ht => by
      obtain ⟨i, hi⟩ := List.getElem?_of_mem ht
      obtain ⟨h1, h2⟩ := (thrOk_iff d t).1 (h.thr i t hi).1.2.1
      obtain ⟨a, b, c, e, f⟩ := thrBad_iff.1 h1
      exact ⟨a, b, c, e, f, stOk_iff.1 h2⟩
    have hlk : ∀ k, k ∈ d.Locks → (0 ≤ k.Id ∧ k.Id < 16) ∧ ∃ t, t ∈ d.Threads ∧ t.Id = k.Owner := fun k hk => by
      obtain ⟨i, hi⟩ := List.getElem?_of_mem hk
      obtain ⟨h1, h2, _, h3⟩ := h.lck i k hi
      exact ⟨⟨h1, h2⟩, idT_mem.1 h3⟩
    refine ⟨⟨⟨hh.1, hh.2.2.1⟩, hts, hls, htok, fun k hk => (hlk k hk).1, fun k hk => .inr (hlk k hk).2, fun k hk => ?_, ?_, ?_⟩, hh.2.1, hh.2.2.2.1⟩
    · obtain ⟨t, ht, he⟩ := (hlk k hk).2
      have := (htok t ht).id.1
      omega
    · rw [List.pairwise_iff_getElem]
      intro i j hi hj hij
      exact (h.thr j _ (List.getElem?_eq_getElem hj)).2 i _ hij (List.getElem?_eq_getElem hi)
    · obtain ⟨r, hr⟩ := rank_of_acyc (d := d) (fun x hx => by
        obtain ⟨i, hi⟩ := List.getElem?_of_mem hx
        exact (h.thr i x hi).1.2.2)
      refine ⟨r, fun t ht hs k hk hw => ?_⟩
      have h1 : nxt d t.Id = k.Owner := by
        unfold nxt
        have : thrOf d t.Id = some t := hts.find ht
        have h2 : lckOf d k.Id = some k := hls.find hk
        rw [this]
        simp only
        rw [if_pos hs, ← hw, h2]
      obtain ⟨u, hu, he⟩ := (hlk k hk).2
      have := hr t.Id (by rw [h1, ← he]; exact (htok u hu).id.1)
      rwa [h1] at this
  · rintro ⟨h, hn, hq⟩
    have hf := h.few
    refine ⟨headBad_iff.2 ⟨h.now.1, hn, h.now.2, hq, hf⟩, fun i y hy => ?_, fun i x hx => ⟨⟨fun z hi hz => h.ts.lt hz hx (by omega), ?_, ?_⟩, fun j z hj hz => ?_⟩⟩
    · have hm := List.mem_of_getElem? hy
      refine ⟨(h.lok y hm).1, (h.lok y hm).2, fun z hi hz => h.ls.lt hz hy (by omega), idT_mem.2 ?_⟩
      rcases h.own y hm with h1 | h1
      · exact h1.elim
      · exact h1
    · have := h.tok x (List.mem_of_getElem? hx)
      exact (thrOk_iff d x).2 ⟨thrBad_iff.2 ⟨this.id, this.base, this.line, this.left, this.since⟩, stOk_iff.2 this.st⟩
    · obtain ⟨r, hr⟩ := h.rank
      exact acyc_of_rank hr x.Id
    · obtain ⟨hi, rfl⟩ := List.getElem?_eq_some_iff.1 hx
      obtain ⟨hj', rfl⟩ := List.getElem?_eq_some_iff.1 hz
      exact List.pairwise_iff_getElem.1 h.lines j i hj' hi hj
end Go.Proofs.Yteigefjiifihpaa

/- The scheduler, plain law: what an operation does, and that a state stays one that can be. Conditions: none. -/
set_option linter.unusedVariables false
set_option linter.unusedSimpArgs false
namespace Go.Proofs.Yteigefjiifihpaa
open Go Go.Den
/-! ## What an operation does -/
def standT (d : DSched) (since : Int) (t : DThread) : DThread := ⟨t.Id, t.Base, 1, d.Seq + 1, 4, since, 0, -1⟩
def standF (d : DSched) (i : Nat) (since : Int) : DSched := match d.Threads[i]? with
  | some t => ⟨d.Now, d.Seq + 1, d.Threads.set i (standT d since t), d.Locks⟩
  | none => d
/-- Of those that are asked for: the greatest priority, then the least line. -/
def firstL (d : DSched) (ok : DThread → Bool) : List DThread → Nat → Int → Int → Int
  | [], _, b, _ => b
  | x :: r, i, b, m => if ok x = true then (if prio d x > m ∨ (prio d x = m ∧ x.Line < lineAt d b) then firstL d ok r (i + 1) i (prio d x) else firstL d ok r (i + 1) b m) else firstL d ok r (i + 1) b m
def bestF (d : DSched) (ok : DThread → Bool) : Int := firstL d ok d.Threads 0 (-1) (-1)
def isReady (x : DThread) : Bool := x.State == 1
def waitsFor (id : Int) (x : DThread) : Bool := x.State == 2 && x.Wait == id
def handF (d : DSched) (id : Int) : DSched :=
  if bestF d (waitsFor id) < 0 then ⟨d.Now, d.Seq, d.Threads, d.Locks.filter (fun k => k.Id != id)⟩
  else match d.Threads[(bestF d (waitsFor id)).toNat]? with
    | some w => standF ⟨d.Now, d.Seq, d.Threads, d.Locks.set (idL d id).toNat ⟨id, w.Id⟩⟩ (bestF d (waitsFor id)).toNat d.Now
    | none => d
def gapL : List DThread → Nat → Nat
  | [], i => i
  | x :: r, i => if x.Id = (i : Int) then gapL r (i + 1) else i
def spawnF (d : DSched) (base : Int) : DSched := ⟨d.Now, d.Seq + 1, d.Threads.take (gapL d.Threads 0) ++ ⟨(gapL d.Threads 0 : Nat), base, 1, d.Seq + 1, 4, d.Now, 0, -1⟩ :: d.Threads.drop (gapL d.Threads 0), d.Locks⟩
def wakeF : DSched → Nat → Nat → DSched
  | d, _, 0 => d
  | d, i, n + 1 => wakeF (match d.Threads[i]? with | some t => if t.State = 3 ∧ t.Until ≤ d.Now then standF d i d.Now else d | none => d) (i + 1) n
def tickF (d : DSched) : DSched × Int :=
  let d1 := wakeF d 0 d.Threads.length
  let b := bestF d1 isReady
  let d2 : DSched := ⟨d1.Now + 1, d1.Seq, d1.Threads, d1.Locks⟩
  if b < 0 then (d2, -1) else match d1.Threads[b.toNat]? with
    | none => (d2, -1)
    | some t => (if t.Left - 1 = 0 then standF d2 b.toNat (d1.Now + 1) else ⟨d1.Now + 1, d1.Seq, d1.Threads.set b.toNat ⟨t.Id, t.Base, t.State, t.Line, t.Left - 1, d1.Now + 1, t.Until, t.Wait⟩, d1.Locks⟩, t.Id)
def exitL (id : Int) : List DLock → DSched → DSched
  | [], d => d
  | k :: r, d => exitL id r (if k.Owner = id then handF d k.Id else d)
def exitF (d : DSched) (id : Int) : DSched := exitL id d.Locks ⟨d.Now, d.Seq, d.Threads.filter (fun t => t.Id != id), d.Locks⟩
def lockPl : List DLock → Int → Nat → Nat
  | [], _, i => i
  | k :: r, n, i => if k.Id < n then lockPl r n (i + 1) else i
def lockF (d : DSched) (i : Nat) (t : DThread) (n : Int) : DSched × Int × Int := match lckOf d n with
  | none => (⟨d.Now, d.Seq, d.Threads, d.Locks.take (lockPl d.Locks n 0) ++ ⟨n, t.Id⟩ :: d.Locks.drop (lockPl d.Locks n 0)⟩, 0, 0)
  | some k => if k.Owner = t.Id then (d, 4, 0) else if waits d k.Owner t.Id = true then (d, 17, 0) else (⟨d.Now, d.Seq, d.Threads.set i ⟨t.Id, t.Base, 2, t.Line, t.Left, t.Since, t.Until, n⟩, d.Locks⟩, 0, 1)
def thrF (d : DSched) (i : Nat) (t : DThread) (kind id n : Int) : DSched × Int × Int :=
  if kind = 2 then (exitF d id, 0, 0)
  else if kind = 4 ∨ kind = 5 then
    if n < 0 ∨ n ≥ 16 then (d, 1, 0) else if t.State ≠ 1 then (d, 21, 0)
    else if kind = 4 then lockF d i t n
    else match lckOf d n with
      | none => (d, 2, 0)
      | some k => if k.Owner ≠ id then (d, 2, 0) else (handF d n, 0, 0)
  else if kind = 6 then
    if n < 1 ∨ n > 1000 then (d, 1, 0) else if t.State ≠ 1 then (d, 21, 0)
    else (⟨d.Now, d.Seq, d.Threads.set i ⟨t.Id, t.Base, 3, t.Line, t.Left, t.Since, d.Now + n, t.Wait⟩, d.Locks⟩, 0, 0)
  else if kind = 7 then (if t.State ≠ 3 then (d, 21, 0) else (standF d i d.Now, 0, 0))
  else if n < 0 ∨ n > 7 then (d, 1, 0) else (⟨d.Now, d.Seq, d.Threads.set i ⟨t.Id, n, t.State, t.Line, t.Left, t.Since, t.Until, t.Wait⟩, d.Locks⟩, 0, 0)
def stepF (d : DSched) (kind id n : Int) : DSched × Int × Int :=
  if kind = 1 then (if n < 0 ∨ n > 7 then (d, 1, 0) else if d.Threads.length = 32 then (d, 18, 0) else (spawnF d n, 0, (gapL d.Threads 0 : Nat)))
  else if kind = 3 then ((tickF d).1, 0, (tickF d).2)
  else if kind < 1 ∨ kind > 8 then (d, 1, 0)
  else match d.Threads[(idT d id).toNat]? with
    | none => (d, 3, 0)
    | some t => if idT d id < 0 then (d, 3, 0) else thrF d (idT d id).toNat t kind id n
/-! ## A state stays one that can be -/
theorem lines_set {l : List DThread} (h : l.Pairwise (fun x y => x.Line ≠ y.Line)) {y : DThread} (hy : ∀ x, x ∈ l → x.Line ≠ y.Line) (i : Nat) : (l.set i y).Pairwise (fun x y => x.Line ≠ y.Line) := by
  rw [List.pairwise_iff_getElem]
  intro a b ha hb hab
  rw [List.length_set] at ha hb
  rw [List.getElem_set, List.getElem_set]
  split
  · rw [if_neg (by omega)]
    exact fun h => hy _ (List.getElem_mem hb) h.symm
  · split
    · exact hy _ (List.getElem_mem ha)
    · exact List.pairwise_iff_getElem.1 h a b ha hb hab
theorem lines_same {l : List DThread} (h : l.Pairwise (fun x y => x.Line ≠ y.Line)) {i : Nat} {x y : DThread} (hx : l[i]? = some x) (he : y.Line = x.Line) : (l.set i y).Pairwise (fun x y => x.Line ≠ y.Line) := by
  obtain ⟨hi, rfl⟩ := List.getElem?_eq_some_iff.1 hx
  rw [List.pairwise_iff_getElem]
  intro a b ha hb hab
  rw [List.length_set] at ha hb
  have h0 := List.pairwise_iff_getElem.1 h a b ha hb hab
  rw [List.getElem_set, List.getElem_set]
  split
  · rename_i hia
    subst hia
    rw [if_neg (by omega), he]; exact h0
  · split
    · rename_i hib
      subst hib
      rw [he]; exact h0
    · exact h0
/-- One thread turned, its number kept. -/
theorem Inv.setT {g : Int → Prop} {d : DSched} (h : Inv g d) {i : Nat} {t u : DThread} {now seq : Int} {ls : List DLock} (ht : d.Threads[i]? = some t) (hid : u.Id = t.Id) (hn : d.Now ≤ now) (hq : d.Seq ≤ seq) (hu : TOk ⟨now, seq, d.Threads.set i u, ls⟩ u)
    (hls : Srt DLock.Id ls) (hlok : ∀ k, k ∈ ls → 0 ≤ k.Id ∧ k.Id < 16) (hids : ∀ k, k ∈ d.Locks → ∃ k', k' ∈ ls ∧ k'.Id = k.Id) (hown : ∀ k, k ∈ ls → g k.Owner ∨ ∃ t, t ∈ d.Threads ∧ t.Id = k.Owner) (hown0 : ∀ k, k ∈ ls → 0 ≤ k.Owner)
    (hline : u.Line = t.Line ∨ ∀ x, x ∈ d.Threads → x.Line ≠ u.Line)
    (hrank : ∃ r : Int → Nat, (u.State = 2 → ∀ k, k ∈ ls → k.Id = u.Wait → r k.Owner < r u.Id) ∧ ∀ z, z ∈ d.Threads → z.Id ≠ t.Id → z.State = 2 → ∀ k, k ∈ ls → k.Id = z.Wait → r k.Owner < r z.Id) :
    Inv g ⟨now, seq, d.Threads.set i u, ls⟩ := by
  have hm := fun z => Srt.mem_set h.ts (y := u) ht z
  have hmt := List.mem_of_getElem? ht
  have h0 := h.now
  refine ⟨⟨by show 0 ≤ now; omega, by show 0 ≤ seq; omega⟩, h.ts.set ht hid, hls, fun z hz => ?_, hlok, fun k hk => ?_, hown0, ?_, ?_⟩
  · rcases (hm z).1 hz with rfl | ⟨hz, hne⟩
    · exact hu
    · have := h.tok z hz
      have hl := this.line
      have hs := this.since
      refine ⟨this.id, this.base, ⟨hl.1, by show z.Line ≤ seq; omega⟩, this.left, ⟨hs.1, by show z.Since ≤ now; omega⟩, ?_⟩
      rcases this.st with h1 | ⟨h1, h2, k, hk, he⟩ | h1
      · exact .inl h1
      · obtain ⟨k', hk', he'⟩ := hids k hk
        exact .inr (.inl ⟨h1, h2, k', hk', by omega⟩)
      · exact .inr (.inr h1)
  · rcases hown k hk with h1 | ⟨z, hz, he⟩
    · exact .inl h1
    · right
      by_cases hzt : z.Id = t.Id
      · exact ⟨u, (hm u).2 (.inl rfl), by omega⟩
      · exact ⟨z, (hm z).2 (.inr ⟨hz, hzt⟩), he⟩
  · rcases hline with h1 | h1
    · exact lines_same h.lines ht h1
    · exact lines_set h.lines h1 i
  · obtain ⟨r, h1, h2⟩ := hrank
    refine ⟨r, fun z hz hs k hk hw => ?_⟩
    rcases (hm z).1 hz with rfl | ⟨hz, hne⟩
    · exact h1 hs k hk hw
    · exact h2 z hz hne hs k hk hw
theorem Inv.fresh {g : Int → Prop} {d : DSched} (h : Inv g d) {x : DThread} (hx : x ∈ d.Threads) : x.Line ≠ d.Seq + 1 := by
  have := (h.tok x hx).line
  omega
theorem Inv.rankOld {g : Int → Prop} {d : DSched} (h : Inv g d) {u t : DThread} (hs : u.State ≠ 2) : ∃ r : Int → Nat, (u.State = 2 → ∀ k, k ∈ d.Locks → k.Id = u.Wait → r k.Owner < r u.Id) ∧ ∀ z, z ∈ d.Threads → z.Id ≠ t.Id → z.State = 2 → ∀ k, k ∈ d.Locks → k.Id = z.Wait → r k.Owner < r z.Id := by
  obtain ⟨r, hr⟩ := h.rank
  exact ⟨r, fun h => absurd h hs, fun z hz _ => hr z hz⟩
theorem Inv.standN {g : Int → Prop} {d : DSched} (h : Inv g d) {i : Nat} {t : DThread} {since now : Int} (ht : d.Threads[i]? = some t) (hn : d.Now ≤ now) (h0 : 0 ≤ since) (h1 : since ≤ now) : Inv g (standF ⟨now, d.Seq, d.Threads, d.Locks⟩ i since) := by
  unfold standF
  simp only [ht]
  have htk := h.tok t (List.mem_of_getElem? ht)
  have hq := h.now.2
  refine h.setT ht rfl hn (by omega) ⟨htk.id, htk.base, ⟨by show 1 ≤ d.Seq + 1; omega, Int.le_refl _⟩, ⟨by show (1 : Int) ≤ 4; omega, by show (4 : Int) ≤ 4; omega⟩, ⟨h0, h1⟩, .inl ⟨rfl, rfl, rfl⟩⟩ h.ls h.lok (fun k hk => ⟨k, hk, rfl⟩) h.own h.own0 (.inr (fun x hx => h.fresh hx)) (h.rankOld (by show (1 : Int) ≠ 2; omega))
theorem Inv.stand {g : Int → Prop} {d : DSched} (h : Inv g d) {i : Nat} {t : DThread} (ht : d.Threads[i]? = some t) : Inv g (standF d i d.Now) :=
  h.standN ht (Int.le_refl _) h.now.1 (Int.le_refl _)
theorem firstL_cases {d : DSched} (ok : DThread → Bool) : ∀ (l : List DThread) (i : Nat) (b m : Int), (∀ x, x ∈ l → 0 ≤ prio d x) → (firstL d ok l i b m = b ∧ (m < 0 → ∀ x, x ∈ l → ok x = false)) ∨ ∃ j x, l[j]? = some x ∧ ok x = true ∧ firstL d ok l i b m = ((i + j : Nat) : Int)
  | [], i, b, m, _ => .inl ⟨rfl, fun _ x hx => by cases hx⟩
  | x :: r, i, b, m, hp => by
    have hpx := hp x (by simp)
    have hpr : ∀ y, y ∈ r → 0 ≤ prio d y := fun y hy => hp y (by simp [hy])
    unfold firstL
    by_cases ho : ok x = true
    · rw [if_pos ho]
      split
      · rcases firstL_cases ok r (i + 1) (i : Nat) (prio d x) hpr with ⟨h1, _⟩ | ⟨j, y, h1, h2, h3⟩
        · exact .inr ⟨0, x, rfl, ho, by rw [h1]; rfl⟩
        · exact .inr ⟨j + 1, y, by simpa using h1, h2, by rw [h3]; congr 1; omega⟩
      · rename_i hc
        rcases firstL_cases ok r (i + 1) b m hpr with ⟨h1, _⟩ | ⟨j, y, h1, h2, h3⟩
        · exact .inl ⟨h1, fun hm => absurd (.inl (by omega)) hc⟩
        · exact .inr ⟨j + 1, y, by simpa using h1, h2, by rw [h3]; congr 1; omega⟩
    · rw [if_neg ho]
      rcases firstL_cases ok r (i + 1) b m hpr with ⟨h1, h2⟩ | ⟨j, y, h1, h2, h3⟩
      · refine .inl ⟨h1, fun hm y hy => ?_⟩
        rcases List.mem_cons.1 hy with rfl | hy
        · simpa using ho
        · exact h2 hm y hy
      · exact .inr ⟨j + 1, y, by simpa using h1, h2, by rw [h3]; congr 1; omega⟩
theorem bestF_cases {d : DSched} (hm : Mid d) (ok : DThread → Bool) : (bestF d ok = -1 ∧ ∀ x, x ∈ d.Threads → ok x = false) ∨ ∃ (j : Nat) (x : DThread), d.Threads[j]? = some x ∧ ok x = true ∧ bestF d ok = (j : Int) := by
  rcases firstL_cases (d := d) ok d.Threads 0 (-1) (-1) (fun x hx => prio_ge (hm.num x hx)) with ⟨h1, h2⟩ | ⟨j, x, h1, h2, h3⟩
  · exact .inl ⟨h1, h2 (by omega)⟩
  · exact .inr ⟨j, x, h1, h2, by unfold bestF; rw [h3]; congr 1; omega⟩
/-- A lock handed on. -/
theorem Inv.hand {g : Int → Prop} {d : DSched} (h : Inv g d) (hn : d.Now ≤ 1099511627776) {k : DLock} (hk : k ∈ d.Locks) : Inv g (handF d k.Id) := by
  unfold handF
  rcases bestF_cases (h.mid hn) (waitsFor k.Id) with ⟨h1, h2⟩ | ⟨j, w, h1, h2, h3⟩
  · rw [h1, if_pos (by omega)]
    refine ⟨h.now, h.ts, h.ls.filter _, fun t ht => ?_, fun x hx => h.lok x (List.mem_filter.1 hx).1, fun x hx => h.own x (List.mem_filter.1 hx).1, fun x hx => h.own0 x (List.mem_filter.1 hx).1, h.lines, ?_⟩
    · have := h.tok t ht
      refine ⟨this.id, this.base, this.line, this.left, this.since, ?_⟩
      rcases this.st with h4 | ⟨h4, h5, x, hx, he⟩ | h4
      · exact .inl h4
      · refine .inr (.inl ⟨h4, h5, x, List.mem_filter.2 ⟨hx, ?_⟩, he⟩)
        have := h2 t ht
        unfold waitsFor at this
        simp [h4] at this
        simp; omega
      · exact .inr (.inr h4)
    · obtain ⟨r, hr⟩ := h.rank
      exact ⟨r, fun t ht hs x hx => hr t ht hs x (List.mem_filter.1 hx).1⟩
  · rw [h3, if_neg (by omega), Int.toNat_natCast]
    simp only [h1]
    obtain ⟨i, hi⟩ := List.getElem?_of_mem hk
    have hidx : idL d k.Id = (i : Int) := h.ls.idx hi
    rw [hidx, Int.toNat_natCast]
    have hwm := List.mem_of_getElem? h1
    have hw := h.tok w hwm
    have hq := h.now
    have hlm := fun z => Srt.mem_set h.ls (y := (⟨k.Id, w.Id⟩ : DLock)) hi z
    have hst : w.State = 2 ∧ w.Wait = k.Id := by unfold waitsFor at h2; simpa using h2
    have hB : Srt DLock.Id (d.Locks.set i ⟨k.Id, w.Id⟩) := h.ls.set hi rfl
    unfold standF
    simp only [h1]
    refine h.setT (u := standT ⟨d.Now, d.Seq, d.Threads, d.Locks.set i ⟨k.Id, w.Id⟩⟩ d.Now w) h1 rfl (Int.le_refl _) (by omega) ⟨hw.id, hw.base, ⟨by show 1 ≤ d.Seq + 1; omega, Int.le_refl _⟩, ⟨by show (1 : Int) ≤ 4; omega, by show (4 : Int) ≤ 4; omega⟩, ⟨hq.1, Int.le_refl _⟩, .inl ⟨rfl, rfl, rfl⟩⟩ hB ?_ ?_ ?_ ?_ (.inr (fun x hx => h.fresh hx)) ?_
    · intro z hz
      rcases (hlm z).1 hz with rfl | ⟨hz, _⟩
      · exact h.lok k hk
      · exact h.lok z hz
    · intro z hz
      by_cases hzk : z.Id = k.Id
      · exact ⟨_, (hlm _).2 (.inl rfl), hzk.symm⟩
      · exact ⟨z, (hlm z).2 (.inr ⟨hz, hzk⟩), rfl⟩
    · intro z hz
      rcases (hlm z).1 hz with rfl | ⟨hz, _⟩
      · exact .inr ⟨w, hwm, rfl⟩
      · exact h.own z hz
    · intro z hz
      rcases (hlm z).1 hz with rfl | ⟨hz, _⟩
      · exact hw.id.1
      · exact h.own0 z hz
    · obtain ⟨r, hr⟩ := h.rank
      refine ⟨fun a => if a = w.Id then 0 else r a + 1, fun hs => absurd hs (by show ¬ (1 : Int) = 2; omega), fun z hz hne hs x hx hxw => ?_⟩
      show (if x.Owner = w.Id then 0 else r x.Owner + 1) < (if z.Id = w.Id then 0 else r z.Id + 1)
      rw [if_neg hne]
      rcases (hlm x).1 hx with rfl | ⟨hx, _⟩
      · simp
      · have := hr z hz hs x hx hxw
        split <;> omega
end Go.Proofs.Yteigefjiifihpaa
