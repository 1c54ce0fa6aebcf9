/- Part 3 of 4: plain readings of code, rules for them, and a proof over them, joined by a program. Conditions: none. -/
import Derived.Test.YtenhcpjlkmbedaaImg2
import Derived.Test.YtenhcpjlkmbedaaProg
/- The plainer reading of functions of the program, each held against its code. Conditions: none. -/
set_option linter.unusedVariables false
set_option maxRecDepth 100000
namespace Go.Proofs.Ytenhcpjlkmbedaa
open Go Go.Den
/- loop.example/g00008/laws.FnImageBack -/
def an5 : Ann := (.seq .leaf (.seq (.seq (.reg [(3, none), (3, some (3, [(25, .bool)]))]) (.cond (.seq .leaf .leaf) .leaf)) (.seq .leaf (.seq .leaf (.seq (.seq (.reg [(5, none), (8, some (227, [(45, .bool)]))]) (.cond (.seq .leaf .leaf) .leaf)) (.seq .leaf (.seq (.seq (.reg [(2, none), (9, some (195, [(61, .bool)]))]) (.cond (.seq .leaf .leaf) .leaf)) (.join 1 [] (.seq (.reg [(2, none), (4, some (67, [(67, .bool)])), (1, none), (5, some (67, [(73, .bool)]))]) (.cond (.seq .leaf (.seq (.draw [0, 0, 0, 0, 12, 28, 0, 64, 192, 508, 1023, 2047] [0, 1, 2, 3, 4, 5, 6, 7, 8, 9, 10, 11]) (.seq .leaf (.seq .leaf (.cond (.seq .leaf .leaf) .leaf))))) .leaf)) (.seq .leaf (.seq .leaf (.seq (.seq .leaf (.seq .leaf (.cond (.seq .leaf .leaf) .leaf))) (.seq (.seq .leaf (.cond (.seq .leaf (.seq (.reg [(2, none), (4, some (0, [(127, .bool)])), (1, none)]) .leaf)) .leaf)) (.seq (.reg [(5, none), (4, some (40960, [(136, .bool)])), (1, none), (8, some (0, [(145, .bool)])), (1, none)]) .leaf)))))))))))))
def W5 (a0 : Sl) (a1 : Sl) (w : World) (K : Value → World → Prop) : Prop :=
  CallW Try.prog 19 #[.slice a0.a a0.len a0.cap] w fun v1 w2 => ∃ b3 : Bool, v1 = .bool b3 ∧ JoinW [.bool] (fun J5 => BIf b3 (J5 true w2) (CallW Try.prog 19 #[.slice a1.a a1.len a1.cap] w2 fun v105 w106 => ∃ b107 : Bool, v105 = .bool b107 ∧ J5 b107 w106)) (fun (b4 : Bool) w6 => BIf b4 (K (.bool true) w6) (CallW Try.prog 20 #[.slice a0.a a0.len a0.cap] w6 fun v7 w8 => ∃ n9 : Int, ∃ l10 : Sl, v7 = .agg #[.int .i64 n9, .slice l10.a l10.len l10.cap] ∧ LetW (w8.alloc (.cells #[.int .i64 0, .slice none 0 0] 45)) fun w11 => MayN w11 ⟨w8.heap.size, 0, none⟩ 2 ∧ LetW (puts w11 ⟨w8.heap.size, 0, none⟩ 0 [.int .i64 n9, .slice l10.a l10.len l10.cap]) fun w12 => ∃ n13 : Int, w12.cell? ⟨w8.heap.size, 0, none⟩ = some (.int .i64 n13) ∧ ∃ l14 : Sl, w12.cell? ⟨w8.heap.size, 1, none⟩ = some (.slice l14.a l14.len l14.cap) ∧ CallW Try.prog 21 #[.agg #[.int .i64 n13, .slice l14.a l14.len l14.cap]] w12 fun v15 w16 => ∃ l17 : Sl, ∃ b18 : Bool, v15 = .tuple #[.slice l17.a l17.len l17.cap, .bool b18] ∧ ∃ n19 : Int, w16.cell? ⟨w8.heap.size, 0, none⟩ = some (.int .i64 n19) ∧ ∃ l20 : Sl, w16.cell? ⟨w8.heap.size, 1, none⟩ = some (.slice l20.a l20.len l20.cap) ∧ CallW Try.prog 22 #[.agg #[.int .i64 n19, .slice l20.a l20.len l20.cap]] w16 fun v21 w22 => ∃ b23 : Bool, v21 = .bool b23 ∧ JoinW [.bool] (fun J25 => BIf (!(b18 == b23)) (J25 true w22) (BIf (!b18) (J25 (decide ((((l17.len : Nat) : Int) : Int) > 0)) w22) (J25 false w22))) (fun (b24 : Bool) w26 => BIf b24 (K (.bool false) w26) (CallW Try.prog 23 #[.slice l17.a l17.len l17.cap] w26 fun v27 w28 => ∃ n29 : Int, ∃ l30 : Sl, ∃ n31 : Int, v27 = .tuple #[.agg #[.int .i64 n29, .slice l30.a l30.len l30.cap], .int .i64 n31] ∧ LetW (w28.alloc (.cells #[.int .i64 0, .slice none 0 0] 45)) fun w32 => MayN w32 ⟨w28.heap.size, 0, none⟩ 2 ∧ LetW (puts w32 ⟨w28.heap.size, 0, none⟩ 0 [.int .i64 n29, .slice l30.a l30.len l30.cap]) fun w33 => JoinW [.bool] (fun J35 => BIf b18 (BIf ((n31 : Int) != 0) (J35 true w33) (∃ n98 : Int, w33.cell? ⟨w8.heap.size, 0, none⟩ = some (.int .i64 n98) ∧ ∃ l99 : Sl, w33.cell? ⟨w8.heap.size, 1, none⟩ = some (.slice l99.a l99.len l99.cap) ∧ ∃ n100 : Int, w33.cell? ⟨w28.heap.size, 0, none⟩ = some (.int .i64 n100) ∧ ∃ l101 : Sl, w33.cell? ⟨w28.heap.size, 1, none⟩ = some (.slice l101.a l101.len l101.cap) ∧ CallW Try.prog 24 #[.agg #[.int .i64 n98, .slice l99.a l99.len l99.cap], .agg #[.int .i64 n100, .slice l101.a l101.len l101.cap]] w33 fun v102 w103 => ∃ b104 : Bool, v102 = .bool b104 ∧ J35 (!b104) w103)) (J35 false w33)) (fun (b34 : Bool) w36 => BIf b34 (K (.bool false) w36) (JoinW [] (fun J37 => JoinW [.bool] (fun J76 => BIf b18 (J76 (decide ((((a1.len : Nat) : Int) : Int) > 1)) w36) (J76 false w36)) (fun (b75 : Bool) w77 => JoinW [.bool] (fun J79 => BIf b75 (0 ≤ (1 : Int) ∧ (1 : Int) < ((a1.len : Nat) : Int) ∧ ∃ q96 : Addr, (a1.a : Option Addr) = some q96 ∧ ∃ n97 : Int, w77.cell? (q96.add (Int.toNat 1 * 1)) = some (.int .u8 n97) ∧ J79 (decide ((n97 : Int) > 0)) w77) (J79 false w77)) (fun (b78 : Bool) w80 => BIf b78 (0 ≤ (0 : Int) ∧ (0 : Int) < ((a1.len : Nat) : Int) ∧ ∃ q81 : Addr, (a1.a : Option Addr) = some q81 ∧ ∃ n82 : Int, w80.cell? (q81.add (Int.toNat 0 * 1)) = some (.int .u8 n82) ∧ ((l17.len : Nat) : Int) ≠ 0 ∧ 0 ≤ (Int.tmod (IntKind.wrap .i64 ((IntKind.wrap .i64 n82) * 97)) ((l17.len : Nat) : Int) : Int) ∧ (Int.tmod (IntKind.wrap .i64 ((IntKind.wrap .i64 n82) * 97)) ((l17.len : Nat) : Int) : Int) < ((l17.len : Nat) : Int) ∧ ∃ q83 : Addr, (l17.a : Option Addr) = some q83 ∧ ∃ n84 : Int, w80.drew.cell? (q83.add (Int.toNat (Int.tmod (IntKind.wrap .i64 ((IntKind.wrap .i64 n82) * 97)) ((l17.len : Nat) : Int)) * 1)) = some (.int .u8 n84) ∧ 0 ≤ (1 : Int) ∧ (1 : Int) < ((a1.len : Nat) : Int) ∧ ∃ q85 : Addr, (a1.a : Option Addr) = some q85 ∧ ∃ n86 : Int, w80.drew.cell? (q85.add (Int.toNat 1 * 1)) = some (.int .u8 n86) ∧ 0 ≤ (Int.tmod (IntKind.wrap .i64 ((IntKind.wrap .i64 n82) * 97)) ((l17.len : Nat) : Int) : Int) ∧ (Int.tmod (IntKind.wrap .i64 ((IntKind.wrap .i64 n82) * 97)) ((l17.len : Nat) : Int) : Int) < ((l17.len : Nat) : Int) ∧ ∃ q87 : Addr, (l17.a : Option Addr) = some q87 ∧ May w80.drew (q87.add (Int.toNat (Int.tmod (IntKind.wrap .i64 ((IntKind.wrap .i64 n82) * 97)) ((l17.len : Nat) : Int)) * 1)) ∧ LetW (w80.drew.setCell (q87.add (Int.toNat (Int.tmod (IntKind.wrap .i64 ((IntKind.wrap .i64 n82) * 97)) ((l17.len : Nat) : Int)) * 1)) (.int .u8 (IntKind.wrap .u8 (n84 + n86)))) fun w88 => CallW Try.prog 23 #[.slice l17.a l17.len l17.cap] w88 fun v89 w90 => ∃ n91 : Int, ∃ l92 : Sl, ∃ n93 : Int, v89 = .tuple #[.agg #[.int .i64 n91, .slice l92.a l92.len l92.cap], .int .i64 n93] ∧ LetW (w90.alloc (.cells #[.int .i64 0, .slice none 0 0] 45)) fun w94 => MayN w94 ⟨w90.heap.size, 0, none⟩ 2 ∧ LetW (puts w94 ⟨w90.heap.size, 0, none⟩ 0 [.int .i64 n91, .slice l92.a l92.len l92.cap]) fun w95 => BIf ((n93 : Int) == 0) (K (.bool false) w95) (J37 w95)) (J37 w80)))) (fun w38 => CallW Try.prog 25 #[.slice a0.a a0.len a0.cap] w38 fun v39 w40 => ∃ l41 : Sl, v39 = .slice l41.a l41.len l41.cap ∧ CallW Try.prog 23 #[.slice l41.a l41.len l41.cap] w40 fun v42 w43 => ∃ n44 : Int, ∃ l45 : Sl, ∃ n46 : Int, v42 = .tuple #[.agg #[.int .i64 n44, .slice l45.a l45.len l45.cap], .int .i64 n46] ∧ LetW (w43.alloc (.cells #[.int .i64 0, .slice none 0 0] 45)) fun w47 => MayN w47 ⟨w43.heap.size, 0, none⟩ 2 ∧ LetW (puts w47 ⟨w43.heap.size, 0, none⟩ 0 [.int .i64 n44, .slice l45.a l45.len l45.cap]) fun w48 => CallW Try.prog 26 #[.slice l41.a l41.len l41.cap] w48 fun v49 w50 => ∃ n51 : Int, ∃ l52 : Sl, ∃ n53 : Int, v49 = .tuple #[.agg #[.int .i64 n51, .slice l52.a l52.len l52.cap], .int .i64 n53] ∧ LetW (w50.alloc (.cells #[.int .i64 0, .slice none 0 0] 45)) fun w54 => MayN w54 ⟨w50.heap.size, 0, none⟩ 2 ∧ LetW (puts w54 ⟨w50.heap.size, 0, none⟩ 0 [.int .i64 n51, .slice l52.a l52.len l52.cap]) fun w55 => BIf ((n46 : Int) != n53) (K (.bool false) w55) (BIf ((n46 : Int) == 0) (∃ n56 : Int, w55.cell? ⟨w43.heap.size, 0, none⟩ = some (.int .i64 n56) ∧ ∃ l57 : Sl, w55.cell? ⟨w43.heap.size, 1, none⟩ = some (.slice l57.a l57.len l57.cap) ∧ CallW Try.prog 21 #[.agg #[.int .i64 n56, .slice l57.a l57.len l57.cap]] w55 fun v58 w59 => ∃ l60 : Sl, ∃ b61 : Bool, v58 = .tuple #[.slice l60.a l60.len l60.cap, .bool b61] ∧ JoinW [.bool] (fun J63 => BIf b61 (CallW Try.prog 27 #[.slice l41.a l41.len l41.cap, .slice l60.a l60.len l60.cap] w59 fun v65 w66 => ∃ b67 : Bool, v65 = .bool b67 ∧ J63 b67 w66) (J63 false w59)) (fun (b62 : Bool) w64 => K (.bool b62) w64)) (∃ l68 : Sl, w55.cell? ⟨w43.heap.size, 1, none⟩ = some (.slice l68.a l68.len l68.cap) ∧ JoinW [.bool] (fun J70 => BIf ((((l68.len : Nat) : Int) : Int) == 0) (J70 (decide ((((l41.len : Nat) : Int) : Int) > 0)) w55) (J70 false w55)) (fun (b69 : Bool) w71 => JoinW [.bool] (fun J73 => BIf b69 (J73 true w71) (BIf ((((l41.len : Nat) : Int) : Int) == 0) (J73 ((n46 : Int) == 1) w71) (J73 false w71))) (fun (b72 : Bool) w74 => K (.bool b72) w74)))))))))))
theorem eq5 (a0 : Sl) (a1 : Sl) (w : World) (K : Value → World → Prop) : denFn Try.prog tt Try.f5 an5 [.slice a0.a a0.len a0.cap, .slice a1.a a1.len a1.cap] w K = W5 a0 a1 w K := by kernel_rfl
/- loop.example/g00008/laws.big -/
def an19 : Ann := (.seq .leaf (.seq .leaf .leaf))
def W19 (a0 : Sl) (w : World) (K : Value → World → Prop) : Prop :=
  K (.bool (decide ((((a0.len : Nat) : Int) : Int) > 1048576))) w
theorem eq19 (a0 : Sl) (w : World) (K : Value → World → Prop) : denFn Try.prog tt Try.f19 an19 [.slice a0.a a0.len a0.cap] w K = W19 a0 w K := by kernel_rfl
theorem ok19 : OkFn Try.prog 19 := ⟨Try.f19, Try.func19, by kernel_rfl, by kernel_rfl⟩
theorem go19 {a0 : Sl} {w : World} {K : Value → World → Prop} (h : W19 a0 w K) : CallW Try.prog 19 #[.slice a0.a a0.len a0.cap] w K :=
  .inl ⟨ok19, denFn_sound tt_ok mix Try.func19 (by kernel_rfl) (eq19 a0 w K ▸ h)⟩

/- loop.example/g00008/spec.DrawPackImage -/
def an20 : Ann := (.seq .leaf (.seq .leaf (.seq .leaf .leaf)))
def W20 (a0 : Sl) (w : World) (K : Value → World → Prop) : Prop :=
  LetW (w.alloc (.cells #[.int .i64 0, .slice none 0 0] 45)) fun w1 => CallW Try.prog 66 #[.slice a0.a a0.len a0.cap] w1 fun v2 w3 => ∃ p4 : Option Addr, v2 = .pointer p4 ∧ CallW Try.prog 67 #[.pointer p4] w3 fun v5 w6 => ∃ n7 : Int, ∃ l8 : Sl, v5 = .agg #[.int .i64 n7, .slice l8.a l8.len l8.cap] ∧ MayN w6 ⟨w.heap.size, 0, none⟩ 2 ∧ LetW (puts w6 ⟨w.heap.size, 0, none⟩ 0 [.int .i64 n7, .slice l8.a l8.len l8.cap]) fun w9 => ∃ n10 : Int, w9.cell? ⟨w.heap.size, 0, none⟩ = some (.int .i64 n10) ∧ ∃ l11 : Sl, w9.cell? ⟨w.heap.size, 1, none⟩ = some (.slice l11.a l11.len l11.cap) ∧ K (.agg #[.int .i64 n10, .slice l11.a l11.len l11.cap]) w9
theorem eq20 (a0 : Sl) (w : World) (K : Value → World → Prop) : denFn Try.prog tt Try.f20 an20 [.slice a0.a a0.len a0.cap] w K = W20 a0 w K := by kernel_rfl
theorem ok20 : OkFn Try.prog 20 := ⟨Try.f20, Try.func20, by kernel_rfl, by kernel_rfl⟩
theorem go20 {a0 : Sl} {w : World} {K : Value → World → Prop} (h : W20 a0 w K) : CallW Try.prog 20 #[.slice a0.a a0.len a0.cap] w K :=
  .inl ⟨ok20, denFn_sound tt_ok mix Try.func20 (by kernel_rfl) (eq20 a0 w K ▸ h)⟩

/- loop.example/g00008/impl.PackImage -/
def an21 : Ann := (.seq .leaf (.seq (.seq .leaf (.cond (.seq .leaf .leaf) .leaf)) (.seq .leaf (.seq .leaf (.seq (.seq .leaf (.in_ (.loop 201326594 [(4, .slice), (28, .int .i64)] (.seq .leaf (.seq (.cond .leaf .leaf) (.seq (.in_ (.seq .leaf (.seq .leaf (.seq .leaf (.seq .leaf .leaf))))) .leaf)))))) (.seq (.seq .leaf (.in_ (.loop 216172782113783808 [(4, .slice), (58, .int .i64)] (.seq .leaf (.seq (.cond .leaf .leaf) (.seq (.in_ (.seq .leaf .leaf)) .leaf)))))) (.seq .leaf .leaf)))))))
def W21 (a0_0 : Int) (a0_1 : Sl) (w : World) (K : Value → World → Prop) : Prop :=
  LetW (w.alloc (.cells #[.int .i64 a0_0, .slice a0_1.a a0_1.len a0_1.cap] 45)) fun w1 => ∃ n2 : Int, w1.cell? ⟨w.heap.size, 0, none⟩ = some (.int .i64 n2) ∧ ∃ l3 : Sl, w1.cell? ⟨w.heap.size, 1, none⟩ = some (.slice l3.a l3.len l3.cap) ∧ CallW Try.prog 68 #[.agg #[.int .i64 n2, .slice l3.a l3.len l3.cap]] w1 fun v4 w5 => ∃ b6 : Bool, v4 = .bool b6 ∧ BIf (!b6) (K (.tuple #[.slice none 0 0, .bool false]) w5) (LetW (w5.alloc (.cells #[.int .u8 75, .int .u8 73, .int .u8 77, .int .u8 71] 5)) fun w7 => ∃ p8 : Addr, (some ⟨w5.heap.size, 0, none⟩ : Option Addr) = some p8 ∧ MarkW p8 w7 fun w9 => ∃ l10 : Sl, w9.cell? ⟨w.heap.size, 1, none⟩ = some (.slice l10.a l10.len l10.cap) ∧ LetW (w9.alloc (.cells #[.int .u8 1, .int .u8 (IntKind.wrap .u8 ((l10.len : Nat) : Int)), .int .u8 0, .int .u8 0] 5)) fun w11 => AppendW 5 ti5 ⟨some p8, 4, 4⟩ ⟨some ⟨w9.heap.size, 0, none⟩, 4, 4⟩ w11 fun l12 w13 => ∃ n14 : Int, w13.cell? ⟨w.heap.size, 0, none⟩ = some (.int .i64 n14) ∧ CallW Try.prog 69 #[.int .i64 n14, .int .i64 8] w13 fun v15 w16 => ∃ l17 : Sl, v15 = .slice l17.a l17.len l17.cap ∧ AppendW 5 ti5 l12 l17 w16 fun l18 w19 => ∃ l20 : Sl, w19.cell? ⟨w.heap.size, 1, none⟩ = some (.slice l20.a l20.len l20.cap) ∧ LoopW [.slice, .int .i64] (fun J23 => fun (l21 : Sl) (n22 : Int) w24 => BIf (decide ((n22 : Int) < ((l20.len : Nat) : Int))) (0 ≤ (n22 : Int) ∧ (n22 : Int) < ((l20.len : Nat) : Int) ∧ ∃ q25 : Addr, (l20.a : Option Addr) = some q25 ∧ ∃ n26 : Int, w24.cell? ((q25.add (Int.toNat n22 * 4)).add 0) = some (.int .i64 n26) ∧ ∃ n27 : Int, w24.cell? ((q25.add (Int.toNat n22 * 4)).add 1) = some (.int .i64 n27) ∧ ∃ n28 : Int, w24.cell? ((q25.add (Int.toNat n22 * 4)).add 2) = some (.int .i64 n28) ∧ ∃ l29 : Sl, w24.cell? ((q25.add (Int.toNat n22 * 4)).add 3) = some (.slice l29.a l29.len l29.cap) ∧ LetW (w24.alloc (.cells #[.int .i64 0, .int .i64 0, .int .i64 0, .slice none 0 0] 107)) fun w30 => MayN w30 ⟨w24.heap.size, 0, none⟩ 4 ∧ LetW (puts w30 ⟨w24.heap.size, 0, none⟩ 0 [.int .i64 n26, .int .i64 n27, .int .i64 n28, .slice l29.a l29.len l29.cap]) fun w31 => ∃ n32 : Int, w31.cell? ⟨w24.heap.size, 0, none⟩ = some (.int .i64 n32) ∧ CallW Try.prog 69 #[.int .i64 n32, .int .i64 4] w31 fun v33 w34 => ∃ l35 : Sl, v33 = .slice l35.a l35.len l35.cap ∧ AppendW 5 ti5 l21 l35 w34 fun l36 w37 => ∃ n38 : Int, w37.cell? ⟨w24.heap.size, 2, none⟩ = some (.int .i64 n38) ∧ CallW Try.prog 69 #[.int .i64 n38, .int .i64 4] w37 fun v39 w40 => ∃ l41 : Sl, v39 = .slice l41.a l41.len l41.cap ∧ AppendW 5 ti5 l36 l41 w40 fun l42 w43 => ∃ l44 : Sl, w43.cell? ⟨w24.heap.size, 3, none⟩ = some (.slice l44.a l44.len l44.cap) ∧ CallW Try.prog 69 #[.int .i64 ((l44.len : Nat) : Int), .int .i64 4] w43 fun v45 w46 => ∃ l47 : Sl, v45 = .slice l47.a l47.len l47.cap ∧ AppendW 5 ti5 l42 l47 w46 fun l48 w49 => ∃ n50 : Int, w49.cell? ⟨w24.heap.size, 1, none⟩ = some (.int .i64 n50) ∧ LetW (w49.alloc (.cells #[.int .u8 (IntKind.wrap .u8 n50), .int .u8 0, .int .u8 0, .int .u8 0] 5)) fun w51 => AppendW 5 ti5 l48 ⟨some ⟨w49.heap.size, 0, none⟩, 4, 4⟩ w51 fun l52 w53 => J23 l52 (IntKind.wrap .i64 (n22 + 1)) w53) (∃ l54 : Sl, w24.cell? ⟨w.heap.size, 1, none⟩ = some (.slice l54.a l54.len l54.cap) ∧ LoopW [.slice, .int .i64] (fun J57 => fun (l55 : Sl) (n56 : Int) w58 => BIf (decide ((n56 : Int) < ((l54.len : Nat) : Int))) (0 ≤ (n56 : Int) ∧ (n56 : Int) < ((l54.len : Nat) : Int) ∧ ∃ q59 : Addr, (l54.a : Option Addr) = some q59 ∧ ∃ n60 : Int, w58.cell? ((q59.add (Int.toNat n56 * 4)).add 0) = some (.int .i64 n60) ∧ ∃ n61 : Int, w58.cell? ((q59.add (Int.toNat n56 * 4)).add 1) = some (.int .i64 n61) ∧ ∃ n62 : Int, w58.cell? ((q59.add (Int.toNat n56 * 4)).add 2) = some (.int .i64 n62) ∧ ∃ l63 : Sl, w58.cell? ((q59.add (Int.toNat n56 * 4)).add 3) = some (.slice l63.a l63.len l63.cap) ∧ LetW (w58.alloc (.cells #[.int .i64 0, .int .i64 0, .int .i64 0, .slice none 0 0] 107)) fun w64 => MayN w64 ⟨w58.heap.size, 0, none⟩ 4 ∧ LetW (puts w64 ⟨w58.heap.size, 0, none⟩ 0 [.int .i64 n60, .int .i64 n61, .int .i64 n62, .slice l63.a l63.len l63.cap]) fun w65 => ∃ l66 : Sl, w65.cell? ⟨w58.heap.size, 3, none⟩ = some (.slice l66.a l66.len l66.cap) ∧ AppendW 5 ti5 l55 l66 w65 fun l67 w68 => J57 l67 (IntKind.wrap .i64 (n56 + 1)) w68) (CallW Try.prog 70 #[.slice l55.a l55.len l55.cap] w58 fun v69 w70 => ∃ n71 : Int, v69 = .int .u64 n71 ∧ CallW Try.prog 69 #[.int .i64 (IntKind.wrap .i64 n71), .int .i64 4] w70 fun v72 w73 => ∃ l74 : Sl, v72 = .slice l74.a l74.len l74.cap ∧ AppendW 5 ti5 l55 l74 w73 fun l75 w76 => K (.tuple #[.slice l75.a l75.len l75.cap, .bool true]) w76)) ((l21 : Sl), ((0 : Int), ())) w24)) ((l18 : Sl), ((0 : Int), ())) w19)
theorem eq21 (a0_0 : Int) (a0_1 : Sl) (w : World) (K : Value → World → Prop) : denFn Try.prog tt Try.f21 an21 [.agg #[.int .i64 a0_0, .slice a0_1.a a0_1.len a0_1.cap]] w K = W21 a0_0 a0_1 w K := by kernel_rfl
theorem ok21 : OkFn Try.prog 21 := ⟨Try.f21, Try.func21, by kernel_rfl, by kernel_rfl⟩
theorem go21 {a0_0 : Int} {a0_1 : Sl} {w : World} {K : Value → World → Prop} (h : W21 a0_0 a0_1 w K) : CallW Try.prog 21 #[.agg #[.int .i64 a0_0, .slice a0_1.a a0_1.len a0_1.cap]] w K :=
  .inl ⟨ok21, denFn_sound tt_ok mix Try.func21 (by kernel_rfl) (eq21 a0_0 a0_1 w K ▸ h)⟩

/- loop.example/g00008/spec.ImageOk -/
def an22 : Ann := (.seq .leaf (.seq .leaf (.seq (.seq (.reg [(3, none), (3, some (10, [(15, .bool)])), (1, none), (5, some (10, [(21, .bool)]))]) (.cond (.seq .leaf .leaf) .leaf)) (.seq .leaf (.seq (.seq .leaf (.in_ (.loop 10 [(4, .bool), (5, .int .i64)] (.seq (.seq .leaf (.cond .leaf .leaf)) (.seq (.in_ (.seq .leaf (.seq (.seq (.reg [(4, none), (4, some (122, [(39, .bool)])), (1, none), (5, some (122, [(45, .bool)])), (1, none), (4, some (122, [(50, .bool)])), (1, none), (4, some (122, [(55, .bool)])), (1, none), (7, some (122, [(63, .bool)])), (1, none), (7, some (122, [(71, .bool)])), (1, none), (5, some (122, [(77, .bool)]))]) (.cond (.seq .leaf .leaf) .leaf)) (.seq (.join 122 [(100, .bool)] (.draw [0, 1, 3, 7, 15, 7, 39, 7, 135, 487, 999, 2023, 7, 4103, 7, 16391, 61447, 126983, 258055, 524263, 1048551, 2097151, 4194303] [0, 1, 2, 3, 4, 5, 6, 7, 8, 9, 10, 11, 12, 13, 14, 15, 16, 17, 18, 19, 20, 21, 22]) (.cond (.seq .leaf .leaf) .leaf)) (.seq (.reg [(4, none), (6, some (122, [(110, .bool)])), (1, none), (9, some (58, [(120, .bool)]))]) (.cond .leaf .leaf)))))) .leaf))))) (.seq .leaf .leaf))))))
def W22 (a0_0 : Int) (a0_1 : Sl) (w : World) (K : Value → World → Prop) : Prop :=
  LetW (w.alloc (.cells #[.int .i64 a0_0, .slice a0_1.a a0_1.len a0_1.cap] 45)) fun w1 => ∃ l2 : Sl, w1.cell? ⟨w.heap.size, 1, none⟩ = some (.slice l2.a l2.len l2.cap) ∧ JoinW [.bool] (fun J4 => BIf (decide ((((l2.len : Nat) : Int) : Int) < 1)) (J4 true w1) (J4 (decide ((((l2.len : Nat) : Int) : Int) > 8)) w1)) (fun (b3 : Bool) w5 => JoinW [.bool] (fun J7 => BIf b3 (J7 true w5) (∃ n81 : Int, w5.cell? ⟨w.heap.size, 0, none⟩ = some (.int .i64 n81) ∧ (4 : Int) ≠ 0 ∧ J7 ((Int.tmod n81 4 : Int) != 0) w5)) (fun (b6 : Bool) w8 => BIf b6 (K (.bool false) w8) (LoopW [.bool, .int .i64] (fun J11 => fun (b9 : Bool) (n10 : Int) w12 => BIf (decide ((n10 : Int) < ((l2.len : Nat) : Int))) (∃ l13 : Sl, w12.cell? ⟨w.heap.size, 1, none⟩ = some (.slice l13.a l13.len l13.cap) ∧ 0 ≤ (n10 : Int) ∧ (n10 : Int) < ((l13.len : Nat) : Int) ∧ ∃ q14 : Addr, (l13.a : Option Addr) = some q14 ∧ ∃ n15 : Int, w12.cell? ((q14.add (Int.toNat n10 * 4)).add 0) = some (.int .i64 n15) ∧ ∃ n16 : Int, w12.cell? ((q14.add (Int.toNat n10 * 4)).add 1) = some (.int .i64 n16) ∧ ∃ n17 : Int, w12.cell? ((q14.add (Int.toNat n10 * 4)).add 2) = some (.int .i64 n17) ∧ ∃ l18 : Sl, w12.cell? ((q14.add (Int.toNat n10 * 4)).add 3) = some (.slice l18.a l18.len l18.cap) ∧ LetW (w12.alloc (.cells #[.int .i64 0, .int .i64 0, .int .i64 0, .slice none 0 0] 107)) fun w19 => MayN w19 ⟨w12.heap.size, 0, none⟩ 4 ∧ LetW (puts w19 ⟨w12.heap.size, 0, none⟩ 0 [.int .i64 n15, .int .i64 n16, .int .i64 n17, .slice l18.a l18.len l18.cap]) fun w20 => ∃ n21 : Int, w20.cell? ⟨w12.heap.size, 0, none⟩ = some (.int .i64 n21) ∧ JoinW [.bool] (fun J23 => BIf (decide ((n21 : Int) < 256)) (J23 true w20) (∃ n80 : Int, w20.cell? ⟨w12.heap.size, 0, none⟩ = some (.int .i64 n80) ∧ J23 (decide ((n80 : Int) > 4194304)) w20)) (fun (b22 : Bool) w24 => JoinW [.bool] (fun J26 => BIf b22 (J26 true w24) (∃ n79 : Int, w24.cell? ⟨w12.heap.size, 0, none⟩ = some (.int .i64 n79) ∧ (256 : Int) ≠ 0 ∧ J26 ((Int.tmod n79 256 : Int) != 0) w24)) (fun (b25 : Bool) w27 => JoinW [.bool] (fun J29 => BIf b25 (J29 true w27) (∃ n78 : Int, w27.cell? ⟨w12.heap.size, 2, none⟩ = some (.int .i64 n78) ∧ J29 (decide ((n78 : Int) < 1)) w27)) (fun (b28 : Bool) w30 => JoinW [.bool] (fun J32 => BIf b28 (J32 true w30) (∃ n77 : Int, w30.cell? ⟨w12.heap.size, 2, none⟩ = some (.int .i64 n77) ∧ J32 (decide ((n77 : Int) > 65536)) w30)) (fun (b31 : Bool) w33 => JoinW [.bool] (fun J35 => BIf b31 (J35 true w33) (∃ n75 : Int, w33.cell? ⟨w12.heap.size, 0, none⟩ = some (.int .i64 n75) ∧ ∃ n76 : Int, w33.cell? ⟨w12.heap.size, 2, none⟩ = some (.int .i64 n76) ∧ J35 (decide ((IntKind.wrap .i64 (n75 + n76) : Int) > 4194304)) w33)) (fun (b34 : Bool) w36 => JoinW [.bool] (fun J38 => BIf b34 (J38 true w36) (∃ l73 : Sl, w36.cell? ⟨w12.heap.size, 3, none⟩ = some (.slice l73.a l73.len l73.cap) ∧ ∃ n74 : Int, w36.cell? ⟨w12.heap.size, 2, none⟩ = some (.int .i64 n74) ∧ J38 (decide ((((l73.len : Nat) : Int) : Int) > n74)) w36)) (fun (b37 : Bool) w39 => JoinW [.bool] (fun J41 => BIf b37 (J41 true w39) (∃ n69 : Int, w39.cell? ⟨w12.heap.size, 1, none⟩ = some (.int .i64 n69) ∧ CallW Try.prog 71 #[.int .i64 n69] w39 fun v70 w71 => ∃ b72 : Bool, v70 = .bool b72 ∧ J41 (!b72) w71)) (fun (b40 : Bool) w42 => BIf b40 (K (.bool false) w42) (JoinW [.bool] (fun J44 => BIf (decide ((n10 : Int) > 0)) (∃ n58 : Int, w42.drew.cell? ⟨w12.heap.size, 0, none⟩ = some (.int .i64 n58) ∧ ∃ l59 : Sl, w42.drew.cell? ⟨w.heap.size, 1, none⟩ = some (.slice l59.a l59.len l59.cap) ∧ 0 ≤ (IntKind.wrap .i64 (n10 - 1) : Int) ∧ (IntKind.wrap .i64 (n10 - 1) : Int) < ((l59.len : Nat) : Int) ∧ ∃ q60 : Addr, (l59.a : Option Addr) = some q60 ∧ ∃ n61 : Int, w42.drew.cell? ((q60.add (Int.toNat (IntKind.wrap .i64 (n10 - 1)) * 4)).add 0) = some (.int .i64 n61) ∧ ∃ l62 : Sl, w42.drew.cell? ⟨w.heap.size, 1, none⟩ = some (.slice l62.a l62.len l62.cap) ∧ 0 ≤ (IntKind.wrap .i64 (n10 - 1) : Int) ∧ (IntKind.wrap .i64 (n10 - 1) : Int) < ((l62.len : Nat) : Int) ∧ ∃ q63 : Addr, (l62.a : Option Addr) = some q63 ∧ ∃ n64 : Int, w42.drew.cell? ((q63.add (Int.toNat (IntKind.wrap .i64 (n10 - 1)) * 4)).add 2) = some (.int .i64 n64) ∧ CallW Try.prog 72 #[.int .i64 (IntKind.wrap .i64 (n61 + n64))] w42.drew fun v65 w66 => ∃ n67 : Int, v65 = .int .i64 n67 ∧ (∃ n68 : Int, w66.cell? ⟨w12.heap.size, 0, none⟩ = some (.int .i64 n68) ∧ (.int .i64 n68 : Value) = (.int .i64 n58 : Value)) ∧ J44 (decide ((n58 : Int) < n67)) w66) (J44 false w42.drew)) (fun (b43 : Bool) w45 => BIf b43 (K (.bool false) w45) (∃ n46 : Int, w45.cell? ⟨w12.heap.size, 1, none⟩ = some (.int .i64 n46) ∧ JoinW [.bool] (fun J48 => BIf ((n46 : Int) == 5) (∃ n56 : Int, w45.cell? ⟨w.heap.size, 0, none⟩ = some (.int .i64 n56) ∧ ∃ n57 : Int, w45.cell? ⟨w12.heap.size, 0, none⟩ = some (.int .i64 n57) ∧ J48 (decide ((n56 : Int) ≥ n57)) w45) (J48 false w45)) (fun (b47 : Bool) w49 => JoinW [.bool] (fun J51 => BIf b47 (∃ n53 : Int, w49.cell? ⟨w.heap.size, 0, none⟩ = some (.int .i64 n53) ∧ ∃ n54 : Int, w49.cell? ⟨w12.heap.size, 0, none⟩ = some (.int .i64 n54) ∧ ∃ n55 : Int, w49.cell? ⟨w12.heap.size, 2, none⟩ = some (.int .i64 n55) ∧ J51 (decide ((n53 : Int) < (IntKind.wrap .i64 (n54 + n55)))) w49) (J51 false w49)) (fun (b50 : Bool) w52 => BIf b50 (J11 true (IntKind.wrap .i64 (n10 + 1)) w52) (J11 b9 (IntKind.wrap .i64 (n10 + 1)) w52)))))))))))))) (K (.bool b9) w12)) ((false : Bool), ((0 : Int), ())) w8)))
theorem eq22 (a0_0 : Int) (a0_1 : Sl) (w : World) (K : Value → World → Prop) : denFn Try.prog tt Try.f22 an22 [.agg #[.int .i64 a0_0, .slice a0_1.a a0_1.len a0_1.cap]] w K = W22 a0_0 a0_1 w K := by kernel_rfl
theorem ok22 : OkFn Try.prog 22 := ⟨Try.f22, Try.func22, by kernel_rfl, by kernel_rfl⟩
theorem go22 {a0_0 : Int} {a0_1 : Sl} {w : World} {K : Value → World → Prop} (h : W22 a0_0 a0_1 w K) : CallW Try.prog 22 #[.agg #[.int .i64 a0_0, .slice a0_1.a a0_1.len a0_1.cap]] w K :=
  .inl ⟨ok22, denFn_sound tt_ok mix Try.func22 (by kernel_rfl) (eq22 a0_0 a0_1 w K ▸ h)⟩

/- loop.example/g00008/impl.ReadImage -/
def an23 : Ann := (.seq .leaf (.seq (.seq .leaf (.cond (.seq .leaf .leaf) .leaf)) (.seq (.seq .leaf (.cond (.seq .leaf .leaf) .leaf)) (.seq (.seq .leaf (.cond (.seq .leaf .leaf) .leaf)) (.seq .leaf (.seq (.seq .leaf (.seq .leaf (.cond (.seq .leaf .leaf) .leaf))) (.seq .leaf (.seq .leaf (.seq .leaf (.seq .leaf (.seq (.seq .leaf (.cond (.seq .leaf .leaf) .leaf)) (.seq (.seq .leaf (.in_ (.loop 18446744073709552277 [(10, .int .i64), (65, .int .i64)] (.seq .leaf (.seq (.cond .leaf .leaf) (.seq (.in_ (.seq .leaf (.seq .leaf (.join 55340232221128660629 [(13, .ptr)] (.drawT [0, 0, 3, 0, 0, 16, 63, 0, 0, 256, 896, 1920, 3968, 8191, 0, 32767] [0, 1, 3, 4, 5, 7, 8, 9, 10, 11, 12] (.alt [2] (.alt [6, 13] (.alt [14] (.alt [15] .leaf .stop) .stop) (.alt [14] (.alt [6, 13] (.alt [15] .leaf .stop) .stop) .stop)) (.alt [14] (.alt [2] (.alt [6, 13] (.alt [15] .leaf .stop) .stop) .stop) .stop))) (.seq .leaf (.seq (.seq .leaf (.cond (.seq .leaf .leaf) .leaf)) (.seq .leaf (.seq .leaf .leaf)))))))) .leaf)))))) (.seq (.seq .leaf (.seq (.reg [(3, none), (6, some (516, [(127, .bool)]))]) (.cond (.seq .leaf .leaf) .leaf))) (.seq .leaf .leaf))))))))))))))
def W23 (a0 : Sl) (w : World) (K : Value → World → Prop) : Prop :=
  LetW (w.alloc (.cells #[.int .i64 0, .slice none 0 0] 45)) fun w1 => BIf (decide ((((a0.len : Nat) : Int) : Int) < 20)) (MayN w1 ⟨w.heap.size, 0, none⟩ 2 ∧ LetW (puts w1 ⟨w.heap.size, 0, none⟩ 0 [.int .i64 0, .slice none 0 0]) fun w2 => ∃ n3 : Int, w2.cell? ⟨w.heap.size, 0, none⟩ = some (.int .i64 n3) ∧ ∃ l4 : Sl, w2.cell? ⟨w.heap.size, 1, none⟩ = some (.slice l4.a l4.len l4.cap) ∧ K (.tuple #[.agg #[.int .i64 n3, .slice l4.a l4.len l4.cap], .int .i64 1]) w2) (0 ≤ (4 : Int) ∧ (4 : Int) ≤ ((a0.cap : Nat) : Int) ∧ ∃ xs5 : List Int, RowAt w1 (cutA a0.a a0.cap (Int.toNat 0) 1) (Int.toNat 4 - Int.toNat 0) (xs5.map (Value.int .u8)) ∧ BIf (!strEq (strOfNums xs5) (⟨#[75, 73, 77, 71]⟩ : ByteArray)) (MayN w1 ⟨w.heap.size, 0, none⟩ 2 ∧ LetW (puts w1 ⟨w.heap.size, 0, none⟩ 0 [.int .i64 0, .slice none 0 0]) fun w6 => ∃ n7 : Int, w6.cell? ⟨w.heap.size, 0, none⟩ = some (.int .i64 n7) ∧ ∃ l8 : Sl, w6.cell? ⟨w.heap.size, 1, none⟩ = some (.slice l8.a l8.len l8.cap) ∧ K (.tuple #[.agg #[.int .i64 n7, .slice l8.a l8.len l8.cap], .int .i64 2]) w6) (0 ≤ (4 : Int) ∧ (4 : Int) < ((a0.len : Nat) : Int) ∧ ∃ q9 : Addr, (a0.a : Option Addr) = some q9 ∧ ∃ n10 : Int, w1.cell? (q9.add (Int.toNat 4 * 1)) = some (.int .u8 n10) ∧ BIf ((n10 : Int) != 1) (MayN w1 ⟨w.heap.size, 0, none⟩ 2 ∧ LetW (puts w1 ⟨w.heap.size, 0, none⟩ 0 [.int .i64 0, .slice none 0 0]) fun w11 => ∃ n12 : Int, w11.cell? ⟨w.heap.size, 0, none⟩ = some (.int .i64 n12) ∧ ∃ l13 : Sl, w11.cell? ⟨w.heap.size, 1, none⟩ = some (.slice l13.a l13.len l13.cap) ∧ K (.tuple #[.agg #[.int .i64 n12, .slice l13.a l13.len l13.cap], .int .i64 3]) w11) (0 ≤ (IntKind.wrap .i64 (((a0.len : Nat) : Int) - 4) : Int) ∧ (IntKind.wrap .i64 (((a0.len : Nat) : Int) - 4) : Int) ≤ ((a0.cap : Nat) : Int) ∧ LetW (w1.alloc (.cells #[.slice none 0 0] 41)) fun w14 => May w14 ⟨w1.heap.size, 0, none⟩ ∧ LetW (w14.setCell ⟨w1.heap.size, 0, none⟩ (.slice (cutA a0.a a0.cap (Int.toNat 0) 1) (Int.toNat (IntKind.wrap .i64 (((a0.len : Nat) : Int) - 4)) - Int.toNat 0) (a0.cap - Int.toNat 0))) fun w15 => ∃ l16 : Sl, w15.cell? ⟨w1.heap.size, 0, none⟩ = some (.slice l16.a l16.len l16.cap) ∧ CallW Try.prog 73 #[.slice a0.a a0.len a0.cap, .int .i64 ((l16.len : Nat) : Int), .int .i64 4, .bool false] w15 fun v17 w18 => ∃ n19 : Int, ∃ b20 : Bool, v17 = .tuple #[.int .u64 n19, .bool b20] ∧ ∃ l21 : Sl, w18.cell? ⟨w1.heap.size, 0, none⟩ = some (.slice l21.a l21.len l21.cap) ∧ CallW Try.prog 70 #[.slice l21.a l21.len l21.cap] w18 fun v22 w23 => ∃ n24 : Int, v22 = .int .u64 n24 ∧ BIf ((n19 : Int) != n24) (MayN w23 ⟨w.heap.size, 0, none⟩ 2 ∧ LetW (puts w23 ⟨w.heap.size, 0, none⟩ 0 [.int .i64 0, .slice none 0 0]) fun w25 => ∃ n26 : Int, w25.cell? ⟨w.heap.size, 0, none⟩ = some (.int .i64 n26) ∧ ∃ l27 : Sl, w25.cell? ⟨w.heap.size, 1, none⟩ = some (.slice l27.a l27.len l27.cap) ∧ K (.tuple #[.agg #[.int .i64 n26, .slice l27.a l27.len l27.cap], .int .i64 4]) w25) (0 ≤ (5 : Int) ∧ (5 : Int) < ((a0.len : Nat) : Int) ∧ ∃ q28 : Addr, (a0.a : Option Addr) = some q28 ∧ ∃ n29 : Int, w23.cell? (q28.add (Int.toNat 5 * 1)) = some (.int .u8 n29) ∧ CallW Try.prog 74 #[.int .i64 8, .int .i64 8, .pointer (some ⟨w1.heap.size, 0, none⟩)] w23 fun v30 w31 => ∃ n32 : Int, v30 = .int .i64 n32 ∧ LetW (w31.alloc (.cells #[.int .i64 0, .slice none 0 0] 45)) fun w33 => MayN w33 ⟨w31.heap.size, 0, none⟩ 2 ∧ LetW (puts w33 ⟨w31.heap.size, 0, none⟩ 0 [.int .i64 n32, .slice none 0 0]) fun w34 => ∃ l35 : Sl, w34.cell? ⟨w1.heap.size, 0, none⟩ = some (.slice l35.a l35.len l35.cap) ∧ BIf (decide ((((l35.len : Nat) : Int) : Int) < (IntKind.wrap .i64 (16 + (IntKind.wrap .i64 (16 * (IntKind.wrap .i64 n29))))))) (MayN w34 ⟨w.heap.size, 0, none⟩ 2 ∧ LetW (puts w34 ⟨w.heap.size, 0, none⟩ 0 [.int .i64 0, .slice none 0 0]) fun w36 => ∃ n37 : Int, w36.cell? ⟨w.heap.size, 0, none⟩ = some (.int .i64 n37) ∧ ∃ l38 : Sl, w36.cell? ⟨w.heap.size, 1, none⟩ = some (.slice l38.a l38.len l38.cap) ∧ K (.tuple #[.agg #[.int .i64 n37, .slice l38.a l38.len l38.cap], .int .i64 5]) w36) (LoopW [.int .i64, .int .i64] (fun J41 => fun (n39 : Int) (n40 : Int) w42 => BIf (decide ((n40 : Int) < (IntKind.wrap .i64 n29))) (JoinW [.ptr] (fun J44 => ∃ l72 : Sl, w42.drew.cell? ⟨w1.heap.size, 0, none⟩ = some (.slice l72.a l72.len l72.cap) ∧ 0 ≤ (IntKind.wrap .i64 ((IntKind.wrap .i64 (16 + (IntKind.wrap .i64 (16 * n40)))) + 12) : Int) ∧ (IntKind.wrap .i64 ((IntKind.wrap .i64 (16 + (IntKind.wrap .i64 (16 * n40)))) + 12) : Int) < ((l72.len : Nat) : Int) ∧ ∃ q73 : Addr, (l72.a : Option Addr) = some q73 ∧ ∃ n74 : Int, w42.drew.cell? (q73.add (Int.toNat (IntKind.wrap .i64 ((IntKind.wrap .i64 (16 + (IntKind.wrap .i64 (16 * n40)))) + 12)) * 1)) = some (.int .u8 n74) ∧ (CallW Try.prog 74 #[.int .i64 (IntKind.wrap .i64 (16 + (IntKind.wrap .i64 (16 * n40)))), .int .i64 4, .pointer (some ⟨w1.heap.size, 0, none⟩)] w42.drew fun v89 w90 => ∃ n91 : Int, v89 = .int .i64 n91 ∧ ((.int .i64 (IntKind.wrap .i64 n74) : Value) = (.int .i64 (IntKind.wrap .i64 n74) : Value)) ∧ (∃ n92 : Int, w90.cell? (q73.add (Int.toNat (IntKind.wrap .i64 ((IntKind.wrap .i64 (16 + (IntKind.wrap .i64 (16 * n40)))) + 12)) * 1)) = some (.int .u8 n92) ∧ (.int .u8 n92 : Value) = (.int .u8 n74 : Value)) ∧ (∃ l93 : Sl, w90.cell? ⟨w1.heap.size, 0, none⟩ = some (.slice l93.a l93.len l93.cap) ∧ (.slice l93.a l93.len l93.cap : Value) = (.slice l72.a l72.len l72.cap : Value)) ∧ (CallW Try.prog 74 #[.int .i64 (IntKind.wrap .i64 ((IntKind.wrap .i64 (16 + (IntKind.wrap .i64 (16 * n40)))) + 4)), .int .i64 4, .pointer (some ⟨w1.heap.size, 0, none⟩)] w90 fun v103 w104 => ∃ n105 : Int, v103 = .int .i64 n105 ∧ ((.int .i64 (IntKind.wrap .i64 n74) : Value) = (.int .i64 (IntKind.wrap .i64 n74) : Value)) ∧ (∃ n106 : Int, w104.cell? (q73.add (Int.toNat (IntKind.wrap .i64 ((IntKind.wrap .i64 (16 + (IntKind.wrap .i64 (16 * n40)))) + 12)) * 1)) = some (.int .u8 n106) ∧ (.int .u8 n106 : Value) = (.int .u8 n74 : Value)) ∧ (∃ l107 : Sl, w104.cell? ⟨w1.heap.size, 0, none⟩ = some (.slice l107.a l107.len l107.cap) ∧ (.slice l107.a l107.len l107.cap : Value) = (.slice l72.a l72.len l72.cap : Value)) ∧ (LetW (w104.alloc (.cells #[.int .i64 0, .int .i64 0, .int .i64 0, .slice none 0 0] 107)) fun w108 => ((.int .i64 (IntKind.wrap .i64 n74) : Value) = (.int .i64 (IntKind.wrap .i64 n74) : Value)) ∧ (∃ n109 : Int, w108.cell? (q73.add (Int.toNat (IntKind.wrap .i64 ((IntKind.wrap .i64 (16 + (IntKind.wrap .i64 (16 * n40)))) + 12)) * 1)) = some (.int .u8 n109) ∧ (.int .u8 n109 : Value) = (.int .u8 n74 : Value)) ∧ (∃ l110 : Sl, w108.cell? ⟨w1.heap.size, 0, none⟩ = some (.slice l110.a l110.len l110.cap) ∧ (.slice l110.a l110.len l110.cap : Value) = (.slice l72.a l72.len l72.cap : Value)) ∧ (MayN w108 ⟨w104.heap.size, 0, none⟩ 4 ∧ LetW (puts w108 ⟨w104.heap.size, 0, none⟩ 0 [.int .i64 n91, .int .i64 (IntKind.wrap .i64 n74), .int .i64 n105, .slice none 0 0]) fun w111 => J44 (some ⟨w104.heap.size, 0, none⟩) w111) ∧ (True)) ∧ (True)) ∧ ((LetW (w90.alloc (.cells #[.int .i64 0, .int .i64 0, .int .i64 0, .slice none 0 0] 107)) fun w94 => ((.int .i64 (IntKind.wrap .i64 n74) : Value) = (.int .i64 (IntKind.wrap .i64 n74) : Value)) ∧ (∃ n95 : Int, w94.cell? (q73.add (Int.toNat (IntKind.wrap .i64 ((IntKind.wrap .i64 (16 + (IntKind.wrap .i64 (16 * n40)))) + 12)) * 1)) = some (.int .u8 n95) ∧ (.int .u8 n95 : Value) = (.int .u8 n74 : Value)) ∧ (∃ l96 : Sl, w94.cell? ⟨w1.heap.size, 0, none⟩ = some (.slice l96.a l96.len l96.cap) ∧ (.slice l96.a l96.len l96.cap : Value) = (.slice l72.a l72.len l72.cap : Value)) ∧ (CallW Try.prog 74 #[.int .i64 (IntKind.wrap .i64 ((IntKind.wrap .i64 (16 + (IntKind.wrap .i64 (16 * n40)))) + 4)), .int .i64 4, .pointer (some ⟨w1.heap.size, 0, none⟩)] w94 fun v97 w98 => ∃ n99 : Int, v97 = .int .i64 n99 ∧ ((.int .i64 (IntKind.wrap .i64 n74) : Value) = (.int .i64 (IntKind.wrap .i64 n74) : Value)) ∧ (∃ n100 : Int, w98.cell? (q73.add (Int.toNat (IntKind.wrap .i64 ((IntKind.wrap .i64 (16 + (IntKind.wrap .i64 (16 * n40)))) + 12)) * 1)) = some (.int .u8 n100) ∧ (.int .u8 n100 : Value) = (.int .u8 n74 : Value)) ∧ (∃ l101 : Sl, w98.cell? ⟨w1.heap.size, 0, none⟩ = some (.slice l101.a l101.len l101.cap) ∧ (.slice l101.a l101.len l101.cap : Value) = (.slice l72.a l72.len l72.cap : Value)) ∧ (MayN w98 ⟨w90.heap.size, 0, none⟩ 4 ∧ LetW (puts w98 ⟨w90.heap.size, 0, none⟩ 0 [.int .i64 n91, .int .i64 (IntKind.wrap .i64 n74), .int .i64 n99, .slice none 0 0]) fun w102 => J44 (some ⟨w90.heap.size, 0, none⟩) w102) ∧ (True)) ∧ (True)) ∧ (True))) ∧ ((LetW (w42.drew.alloc (.cells #[.int .i64 0, .int .i64 0, .int .i64 0, .slice none 0 0] 107)) fun w75 => ((.int .i64 (IntKind.wrap .i64 n74) : Value) = (.int .i64 (IntKind.wrap .i64 n74) : Value)) ∧ (∃ n76 : Int, w75.cell? (q73.add (Int.toNat (IntKind.wrap .i64 ((IntKind.wrap .i64 (16 + (IntKind.wrap .i64 (16 * n40)))) + 12)) * 1)) = some (.int .u8 n76) ∧ (.int .u8 n76 : Value) = (.int .u8 n74 : Value)) ∧ (∃ l77 : Sl, w75.cell? ⟨w1.heap.size, 0, none⟩ = some (.slice l77.a l77.len l77.cap) ∧ (.slice l77.a l77.len l77.cap : Value) = (.slice l72.a l72.len l72.cap : Value)) ∧ (CallW Try.prog 74 #[.int .i64 (IntKind.wrap .i64 (16 + (IntKind.wrap .i64 (16 * n40)))), .int .i64 4, .pointer (some ⟨w1.heap.size, 0, none⟩)] w75 fun v78 w79 => ∃ n80 : Int, v78 = .int .i64 n80 ∧ ((.int .i64 (IntKind.wrap .i64 n74) : Value) = (.int .i64 (IntKind.wrap .i64 n74) : Value)) ∧ (∃ n81 : Int, w79.cell? (q73.add (Int.toNat (IntKind.wrap .i64 ((IntKind.wrap .i64 (16 + (IntKind.wrap .i64 (16 * n40)))) + 12)) * 1)) = some (.int .u8 n81) ∧ (.int .u8 n81 : Value) = (.int .u8 n74 : Value)) ∧ (∃ l82 : Sl, w79.cell? ⟨w1.heap.size, 0, none⟩ = some (.slice l82.a l82.len l82.cap) ∧ (.slice l82.a l82.len l82.cap : Value) = (.slice l72.a l72.len l72.cap : Value)) ∧ (CallW Try.prog 74 #[.int .i64 (IntKind.wrap .i64 ((IntKind.wrap .i64 (16 + (IntKind.wrap .i64 (16 * n40)))) + 4)), .int .i64 4, .pointer (some ⟨w1.heap.size, 0, none⟩)] w79 fun v83 w84 => ∃ n85 : Int, v83 = .int .i64 n85 ∧ ((.int .i64 (IntKind.wrap .i64 n74) : Value) = (.int .i64 (IntKind.wrap .i64 n74) : Value)) ∧ (∃ n86 : Int, w84.cell? (q73.add (Int.toNat (IntKind.wrap .i64 ((IntKind.wrap .i64 (16 + (IntKind.wrap .i64 (16 * n40)))) + 12)) * 1)) = some (.int .u8 n86) ∧ (.int .u8 n86 : Value) = (.int .u8 n74 : Value)) ∧ (∃ l87 : Sl, w84.cell? ⟨w1.heap.size, 0, none⟩ = some (.slice l87.a l87.len l87.cap) ∧ (.slice l87.a l87.len l87.cap : Value) = (.slice l72.a l72.len l72.cap : Value)) ∧ (MayN w84 ⟨w42.drew.heap.size, 0, none⟩ 4 ∧ LetW (puts w84 ⟨w42.drew.heap.size, 0, none⟩ 0 [.int .i64 n80, .int .i64 (IntKind.wrap .i64 n74), .int .i64 n85, .slice none 0 0]) fun w88 => J44 (some ⟨w42.drew.heap.size, 0, none⟩) w88) ∧ (True)) ∧ (True)) ∧ (True)) ∧ (True))) (fun (p43 : Option Addr) w45 => CallW Try.prog 74 #[.int .i64 (IntKind.wrap .i64 ((IntKind.wrap .i64 (16 + (IntKind.wrap .i64 (16 * n40)))) + 8)), .int .i64 4, .pointer (some ⟨w1.heap.size, 0, none⟩)] w45 fun v46 w47 => ∃ n48 : Int, v46 = .int .i64 n48 ∧ ∃ l49 : Sl, w47.cell? ⟨w1.heap.size, 0, none⟩ = some (.slice l49.a l49.len l49.cap) ∧ CallW Try.prog 75 #[.int .i64 ((l49.len : Nat) : Int), .int .i64 n39, .int .i64 n48] w47 fun v50 w51 => ∃ b52 : Bool, v50 = .bool b52 ∧ BIf (!b52) (MayN w51 ⟨w.heap.size, 0, none⟩ 2 ∧ LetW (puts w51 ⟨w.heap.size, 0, none⟩ 0 [.int .i64 0, .slice none 0 0]) fun w53 => ∃ n54 : Int, w53.cell? ⟨w.heap.size, 0, none⟩ = some (.int .i64 n54) ∧ ∃ l55 : Sl, w53.cell? ⟨w.heap.size, 1, none⟩ = some (.slice l55.a l55.len l55.cap) ∧ K (.tuple #[.agg #[.int .i64 n54, .slice l55.a l55.len l55.cap], .int .i64 5]) w53) (∃ l56 : Sl, w51.cell? ⟨w1.heap.size, 0, none⟩ = some (.slice l56.a l56.len l56.cap) ∧ 0 ≤ (IntKind.wrap .i64 (n39 + n48) : Int) ∧ (IntKind.wrap .i64 (n39 + n48) : Int) ≤ ((l56.cap : Nat) : Int) ∧ 0 ≤ (n39 : Int) ∧ (n39 : Int) ≤ (IntKind.wrap .i64 (n39 + n48) : Int) ∧ CallW Try.prog 76 #[.slice (cutA l56.a l56.cap (Int.toNat n39) 1) (Int.toNat (IntKind.wrap .i64 (n39 + n48)) - Int.toNat n39) (l56.cap - Int.toNat n39)] w51 fun v57 w58 => ∃ l59 : Sl, v57 = .slice l59.a l59.len l59.cap ∧ addrOf (some (.pointer p43)) fun p60 => May w58 (p60.add 3) ∧ LetW (w58.setCell (p60.add 3) (.slice l59.a l59.len l59.cap)) fun w61 => ∃ l62 : Sl, w61.cell? ⟨w31.heap.size, 1, none⟩ = some (.slice l62.a l62.len l62.cap) ∧ addrOf (some (.pointer p43)) fun p63 => ∃ n64 : Int, w61.cell? (p63.add 0) = some (.int .i64 n64) ∧ ∃ n65 : Int, w61.cell? (p63.add 1) = some (.int .i64 n65) ∧ ∃ n66 : Int, w61.cell? (p63.add 2) = some (.int .i64 n66) ∧ ∃ l67 : Sl, w61.cell? (p63.add 3) = some (.slice l67.a l67.len l67.cap) ∧ LetW (w61.alloc (.cells #[.int .i64 n64, .int .i64 n65, .int .i64 n66, .slice l67.a l67.len l67.cap] 107)) fun w68 => AppendW 107 ti107 l62 ⟨some ⟨w61.heap.size, 0, none⟩, 1, 1⟩ w68 fun l69 w70 => May w70 ⟨w31.heap.size, 1, none⟩ ∧ LetW (w70.setCell ⟨w31.heap.size, 1, none⟩ (.slice l69.a l69.len l69.cap)) fun w71 => J41 (IntKind.wrap .i64 (n39 + n48)) (IntKind.wrap .i64 (n40 + 1)) w71))) (∃ n112 : Int, w42.cell? ⟨w31.heap.size, 0, none⟩ = some (.int .i64 n112) ∧ ∃ l113 : Sl, w42.cell? ⟨w31.heap.size, 1, none⟩ = some (.slice l113.a l113.len l113.cap) ∧ CallW Try.prog 21 #[.agg #[.int .i64 n112, .slice l113.a l113.len l113.cap]] w42 fun v114 w115 => ∃ l116 : Sl, ∃ b117 : Bool, v114 = .tuple #[.slice l116.a l116.len l116.cap, .bool b117] ∧ JoinW [.bool] (fun J119 => BIf (!b117) (J119 true w115) (∃ xs129 : List Int, RowAt w115 l116.a l116.len (xs129.map (Value.int .u8)) ∧ ∃ xs130 : List Int, RowAt w115 a0.a a0.len (xs130.map (Value.int .u8)) ∧ J119 (!strEq (strOfNums xs129) (strOfNums xs130)) w115)) (fun (b118 : Bool) w120 => BIf b118 (MayN w120 ⟨w.heap.size, 0, none⟩ 2 ∧ LetW (puts w120 ⟨w.heap.size, 0, none⟩ 0 [.int .i64 0, .slice none 0 0]) fun w121 => ∃ n122 : Int, w121.cell? ⟨w.heap.size, 0, none⟩ = some (.int .i64 n122) ∧ ∃ l123 : Sl, w121.cell? ⟨w.heap.size, 1, none⟩ = some (.slice l123.a l123.len l123.cap) ∧ K (.tuple #[.agg #[.int .i64 n122, .slice l123.a l123.len l123.cap], .int .i64 5]) w121) (∃ n124 : Int, w120.cell? ⟨w31.heap.size, 0, none⟩ = some (.int .i64 n124) ∧ ∃ l125 : Sl, w120.cell? ⟨w31.heap.size, 1, none⟩ = some (.slice l125.a l125.len l125.cap) ∧ MayN w120 ⟨w.heap.size, 0, none⟩ 2 ∧ LetW (puts w120 ⟨w.heap.size, 0, none⟩ 0 [.int .i64 n124, .slice l125.a l125.len l125.cap]) fun w126 => ∃ n127 : Int, w126.cell? ⟨w.heap.size, 0, none⟩ = some (.int .i64 n127) ∧ ∃ l128 : Sl, w126.cell? ⟨w.heap.size, 1, none⟩ = some (.slice l128.a l128.len l128.cap) ∧ K (.tuple #[.agg #[.int .i64 n127, .slice l128.a l128.len l128.cap], .int .i64 0]) w126)))) ((IntKind.wrap .i64 (16 + (IntKind.wrap .i64 (16 * (IntKind.wrap .i64 n29)))) : Int), ((0 : Int), ())) w34)))))
theorem eq23 (a0 : Sl) (w : World) (K : Value → World → Prop) : denFn Try.prog tt Try.f23 an23 [.slice a0.a a0.len a0.cap] w K = W23 a0 w K := by kernel_rfl
theorem ok23 : OkFn Try.prog 23 := ⟨Try.f23, Try.func23, by kernel_rfl, by kernel_rfl⟩
theorem go23 {a0 : Sl} {w : World} {K : Value → World → Prop} (h : W23 a0 w K) : CallW Try.prog 23 #[.slice a0.a a0.len a0.cap] w K :=
  .inl ⟨ok23, denFn_sound tt_ok mix Try.func23 (by kernel_rfl) (eq23 a0 w K ▸ h)⟩

/- loop.example/g00008/laws.sameImage -/
def an24 : Ann := (.seq .leaf (.seq (.seq (.reg [(6, none), (8, some (12, [(21, .bool)]))]) (.cond (.seq .leaf .leaf) .leaf)) (.seq (.seq .leaf (.in_ (.loop 12 [(5, .int .i64)] (.seq (.seq .leaf (.cond .leaf .leaf)) (.seq (.in_ (.seq .leaf (.seq .leaf (.seq (.reg [(6, none), (6, some (236, [(50, .bool)])), (1, none), (6, some (236, [(57, .bool)])), (1, none), (7, some (44, [(65, .bool)]))]) (.cond (.seq .leaf .leaf) .leaf))))) .leaf))))) (.seq .leaf .leaf))))
def W24 (a0_0 : Int) (a0_1 : Sl) (a1_0 : Int) (a1_1 : Sl) (w : World) (K : Value → World → Prop) : Prop :=
  LetW (w.alloc (.cells #[.int .i64 a0_0, .slice a0_1.a a0_1.len a0_1.cap] 45)) fun w1 => LetW (w1.alloc (.cells #[.int .i64 a1_0, .slice a1_1.a a1_1.len a1_1.cap] 45)) fun w2 => ∃ n3 : Int, w2.cell? ⟨w.heap.size, 0, none⟩ = some (.int .i64 n3) ∧ ∃ n4 : Int, w2.cell? ⟨w1.heap.size, 0, none⟩ = some (.int .i64 n4) ∧ JoinW [.bool] (fun J6 => BIf ((n3 : Int) != n4) (J6 true w2) (∃ l48 : Sl, w2.cell? ⟨w.heap.size, 1, none⟩ = some (.slice l48.a l48.len l48.cap) ∧ ∃ l49 : Sl, w2.cell? ⟨w1.heap.size, 1, none⟩ = some (.slice l49.a l49.len l49.cap) ∧ J6 ((((l48.len : Nat) : Int) : Int) != ((l49.len : Nat) : Int)) w2)) (fun (b5 : Bool) w7 => BIf b5 (K (.bool false) w7) (LoopW [.int .i64] (fun J9 => fun (n8 : Int) w10 => ∃ l11 : Sl, w10.cell? ⟨w.heap.size, 1, none⟩ = some (.slice l11.a l11.len l11.cap) ∧ BIf (decide ((n8 : Int) < ((l11.len : Nat) : Int))) (∃ l12 : Sl, w10.cell? ⟨w.heap.size, 1, none⟩ = some (.slice l12.a l12.len l12.cap) ∧ 0 ≤ (n8 : Int) ∧ (n8 : Int) < ((l12.len : Nat) : Int) ∧ ∃ q13 : Addr, (l12.a : Option Addr) = some q13 ∧ ∃ n14 : Int, w10.cell? ((q13.add (Int.toNat n8 * 4)).add 0) = some (.int .i64 n14) ∧ ∃ n15 : Int, w10.cell? ((q13.add (Int.toNat n8 * 4)).add 1) = some (.int .i64 n15) ∧ ∃ n16 : Int, w10.cell? ((q13.add (Int.toNat n8 * 4)).add 2) = some (.int .i64 n16) ∧ ∃ l17 : Sl, w10.cell? ((q13.add (Int.toNat n8 * 4)).add 3) = some (.slice l17.a l17.len l17.cap) ∧ LetW (w10.alloc (.cells #[.int .i64 0, .int .i64 0, .int .i64 0, .slice none 0 0] 107)) fun w18 => MayN w18 ⟨w10.heap.size, 0, none⟩ 4 ∧ LetW (puts w18 ⟨w10.heap.size, 0, none⟩ 0 [.int .i64 n14, .int .i64 n15, .int .i64 n16, .slice l17.a l17.len l17.cap]) fun w19 => ∃ l20 : Sl, w19.cell? ⟨w1.heap.size, 1, none⟩ = some (.slice l20.a l20.len l20.cap) ∧ 0 ≤ (n8 : Int) ∧ (n8 : Int) < ((l20.len : Nat) : Int) ∧ ∃ q21 : Addr, (l20.a : Option Addr) = some q21 ∧ ∃ n22 : Int, w19.cell? ((q21.add (Int.toNat n8 * 4)).add 0) = some (.int .i64 n22) ∧ ∃ n23 : Int, w19.cell? ((q21.add (Int.toNat n8 * 4)).add 1) = some (.int .i64 n23) ∧ ∃ n24 : Int, w19.cell? ((q21.add (Int.toNat n8 * 4)).add 2) = some (.int .i64 n24) ∧ ∃ l25 : Sl, w19.cell? ((q21.add (Int.toNat n8 * 4)).add 3) = some (.slice l25.a l25.len l25.cap) ∧ LetW (w19.alloc (.cells #[.int .i64 0, .int .i64 0, .int .i64 0, .slice none 0 0] 107)) fun w26 => MayN w26 ⟨w19.heap.size, 0, none⟩ 4 ∧ LetW (puts w26 ⟨w19.heap.size, 0, none⟩ 0 [.int .i64 n22, .int .i64 n23, .int .i64 n24, .slice l25.a l25.len l25.cap]) fun w27 => ∃ n28 : Int, w27.cell? ⟨w10.heap.size, 0, none⟩ = some (.int .i64 n28) ∧ ∃ n29 : Int, w27.cell? ⟨w19.heap.size, 0, none⟩ = some (.int .i64 n29) ∧ JoinW [.bool] (fun J31 => BIf ((n28 : Int) != n29) (J31 true w27) (∃ n46 : Int, w27.cell? ⟨w10.heap.size, 1, none⟩ = some (.int .i64 n46) ∧ ∃ n47 : Int, w27.cell? ⟨w19.heap.size, 1, none⟩ = some (.int .i64 n47) ∧ J31 ((n46 : Int) != n47) w27)) (fun (b30 : Bool) w32 => JoinW [.bool] (fun J34 => BIf b30 (J34 true w32) (∃ n44 : Int, w32.cell? ⟨w10.heap.size, 2, none⟩ = some (.int .i64 n44) ∧ ∃ n45 : Int, w32.cell? ⟨w19.heap.size, 2, none⟩ = some (.int .i64 n45) ∧ J34 ((n44 : Int) != n45) w32)) (fun (b33 : Bool) w35 => JoinW [.bool] (fun J37 => BIf b33 (J37 true w35) (∃ l39 : Sl, w35.cell? ⟨w10.heap.size, 3, none⟩ = some (.slice l39.a l39.len l39.cap) ∧ ∃ l40 : Sl, w35.cell? ⟨w19.heap.size, 3, none⟩ = some (.slice l40.a l40.len l40.cap) ∧ CallW Try.prog 27 #[.slice l39.a l39.len l39.cap, .slice l40.a l40.len l40.cap] w35 fun v41 w42 => ∃ b43 : Bool, v41 = .bool b43 ∧ J37 (!b43) w42)) (fun (b36 : Bool) w38 => BIf b36 (K (.bool false) w38) (J9 (IntKind.wrap .i64 (n8 + 1)) w38))))) (K (.bool true) w10)) ((0 : Int), ()) w7))
theorem eq24 (a0_0 : Int) (a0_1 : Sl) (a1_0 : Int) (a1_1 : Sl) (w : World) (K : Value → World → Prop) : denFn Try.prog tt Try.f24 an24 [.agg #[.int .i64 a0_0, .slice a0_1.a a0_1.len a0_1.cap], .agg #[.int .i64 a1_0, .slice a1_1.a a1_1.len a1_1.cap]] w K = W24 a0_0 a0_1 a1_0 a1_1 w K := by kernel_rfl
theorem ok24 : OkFn Try.prog 24 := ⟨Try.f24, Try.func24, by kernel_rfl, by kernel_rfl⟩
theorem go24 {a0_0 : Int} {a0_1 : Sl} {a1_0 : Int} {a1_1 : Sl} {w : World} {K : Value → World → Prop} (h : W24 a0_0 a0_1 a1_0 a1_1 w K) : CallW Try.prog 24 #[.agg #[.int .i64 a0_0, .slice a0_1.a a0_1.len a0_1.cap], .agg #[.int .i64 a1_0, .slice a1_1.a a1_1.len a1_1.cap]] w K :=
  .inl ⟨ok24, denFn_sound tt_ok mix Try.func24 (by kernel_rfl) (eq24 a0_0 a0_1 a1_0 a1_1 w K ▸ h)⟩

/- loop.example/g00008/spec.DrawReadImage -/
def an25 : Ann := (.seq .leaf (.seq .leaf (.seq .leaf (.seq (.seq .leaf (.cond (.seq .leaf .leaf) .leaf)) (.seq .leaf (.seq .leaf (.join 88 [(7, .int .i64)] (.seq .leaf (.cond .leaf .leaf)) (.seq .leaf (.seq .leaf (.join 512 [(4, .slice)] (.seq .leaf (.in_ (.join 1099511628696 [(42, .bool)] (.seq .leaf (.cond .leaf .leaf)) (.cond .leaf (.seq .leaf (.cond .leaf (.seq .leaf (.cond .leaf (.seq .leaf (.cond .leaf (.seq .leaf .leaf))))))))))) (.seq .leaf (.seq (.seq (.reg [(2, none), (3, some (1040, [(73, .bool)]))]) (.cond (.draw [0, 0, 2, 7, 0, 0, 32, 112, 240, 496, 1008, 2047, 4095] [0, 1, 2, 3, 4, 5, 6, 7, 8, 9, 10, 11, 12]) .leaf)) (.seq .leaf .leaf)))))))))))))
def W25 (a0 : Sl) (w : World) (K : Value → World → Prop) : Prop :=
  CallW Try.prog 66 #[.slice a0.a a0.len a0.cap] w fun v1 w2 => ∃ p3 : Option Addr, v1 = .pointer p3 ∧ CallW Try.prog 78 #[.pointer p3] w2 fun v4 w5 => ∃ n6 : Int, ∃ l7 : Sl, v4 = .agg #[.int .i64 n6, .slice l7.a l7.len l7.cap] ∧ CallW Try.prog 77 #[.agg #[.int .i64 n6, .slice l7.a l7.len l7.cap]] w5 fun v8 w9 => ∃ l10 : Sl, ∃ b11 : Bool, v8 = .tuple #[.slice l10.a l10.len l10.cap, .bool b11] ∧ BIf (!b11) (K (.slice l10.a l10.len l10.cap) w9) (CallW Try.prog 79 #[.pointer p3, .int .i64 8] w9 fun v12 w13 => ∃ n14 : Int, v12 = .int .i64 n14 ∧ CallW Try.prog 79 #[.pointer p3, .int .i64 ((l10.len : Nat) : Int)] w13 fun v15 w16 => ∃ n17 : Int, v15 = .int .i64 n17 ∧ JoinW [.int .i64] (fun J19 => CallW Try.prog 80 #[.pointer p3, .int .i64 2] w16 fun v54 w55 => ∃ b56 : Bool, v54 = .bool b56 ∧ BIf b56 (CallW Try.prog 79 #[.pointer p3, .int .i64 40] w55 fun v57 w58 => ∃ n59 : Int, v57 = .int .i64 n59 ∧ ((l10.len : Nat) : Int) ≠ 0 ∧ J19 (Int.tmod n59 ((l10.len : Nat) : Int)) w58) (J19 n17 w55)) (fun (n18 : Int) w20 => CallW Try.prog 79 #[.pointer p3, .int .i64 256] w20 fun v21 w22 => ∃ n23 : Int, v21 = .int .i64 n23 ∧ CallW Try.prog 80 #[.pointer p3, .int .i64 2] w22 fun v24 w25 => ∃ b26 : Bool, v24 = .bool b26 ∧ JoinW [.slice] (fun J28 => JoinW [.bool] (fun J42 => BIf ((n14 : Int) == 0) (J42 ((n14 : Int) == 0) w25) (J42 ((n14 : Int) == 1) w25)) (fun (b41 : Bool) w43 => BIf b41 (0 ≤ (n18 : Int) ∧ (n18 : Int) < ((l10.len : Nat) : Int) ∧ ∃ q44 : Addr, (l10.a : Option Addr) = some q44 ∧ May w43 (q44.add (Int.toNat n18 * 1)) ∧ LetW (w43.setCell (q44.add (Int.toNat n18 * 1)) (.int .u8 (IntKind.wrap .u8 n23))) fun w45 => J28 l10 w45) (BIf ((n14 : Int) == 2) (0 ≤ (n18 : Int) ∧ (n18 : Int) ≤ ((l10.cap : Nat) : Int) ∧ J28 ⟨cutA l10.a l10.cap (Int.toNat 0) 1, Int.toNat n18 - Int.toNat 0, l10.cap - Int.toNat 0⟩ w43) (BIf ((n14 : Int) == 3) (LetW (w43.alloc (.cells #[.int .u8 (IntKind.wrap .u8 n23)] 5)) fun w46 => AppendW 5 ti5 l10 ⟨some ⟨w43.heap.size, 0, none⟩, 1, 1⟩ w46 fun l47 w48 => J28 l47 w48) (BIf ((n14 : Int) == 4) (CallW Try.prog 79 #[.pointer p3, .int .i64 12] w43 fun v49 w50 => ∃ n51 : Int, v49 = .int .i64 n51 ∧ 0 ≤ (5 : Int) ∧ (5 : Int) < ((l10.len : Nat) : Int) ∧ ∃ q52 : Addr, (l10.a : Option Addr) = some q52 ∧ May w50 (q52.add (Int.toNat 5 * 1)) ∧ LetW (w50.setCell (q52.add (Int.toNat 5 * 1)) (.int .u8 (IntKind.wrap .u8 n51))) fun w53 => J28 l10 w53) (K (.slice l10.a l10.len l10.cap) w43)))))) (fun (l27 : Sl) w29 => JoinW [.bool] (fun J31 => BIf b26 (J31 (decide ((((l27.len : Nat) : Int) : Int) ≥ 4)) w29) (J31 false w29)) (fun (b30 : Bool) w32 => BIf b30 (0 ≤ (IntKind.wrap .i64 (((l27.len : Nat) : Int) - 4) : Int) ∧ (IntKind.wrap .i64 (((l27.len : Nat) : Int) - 4) : Int) ≤ ((l27.cap : Nat) : Int) ∧ 0 ≤ (IntKind.wrap .i64 (((l27.len : Nat) : Int) - 4) : Int) ∧ (IntKind.wrap .i64 (((l27.len : Nat) : Int) - 4) : Int) ≤ ((l27.cap : Nat) : Int) ∧ CallW Try.prog 82 #[.slice (cutA l27.a l27.cap (Int.toNat 0) 1) (Int.toNat (IntKind.wrap .i64 (((l27.len : Nat) : Int) - 4)) - Int.toNat 0) (l27.cap - Int.toNat 0)] w32.drew fun v33 w34 => ∃ n35 : Int, v33 = .int .u64 n35 ∧ CallW Try.prog 81 #[.int .i64 (IntKind.wrap .i64 n35), .int .i64 4] w34 fun v36 w37 => ∃ l38 : Sl, v36 = .slice l38.a l38.len l38.cap ∧ AppendW 5 ti5 ⟨cutA l27.a l27.cap (Int.toNat 0) 1, Int.toNat (IntKind.wrap .i64 (((l27.len : Nat) : Int) - 4)) - Int.toNat 0, l27.cap - Int.toNat 0⟩ l38 w37 fun l39 w40 => K (.slice l39.a l39.len l39.cap) w40) (K (.slice l27.a l27.len l27.cap) w32)))))
theorem eq25 (a0 : Sl) (w : World) (K : Value → World → Prop) : denFn Try.prog tt Try.f25 an25 [.slice a0.a a0.len a0.cap] w K = W25 a0 w K := by kernel_rfl
theorem ok25 : OkFn Try.prog 25 := ⟨Try.f25, Try.func25, by kernel_rfl, by kernel_rfl⟩
theorem go25 {a0 : Sl} {w : World} {K : Value → World → Prop} (h : W25 a0 w K) : CallW Try.prog 25 #[.slice a0.a a0.len a0.cap] w K :=
  .inl ⟨ok25, denFn_sound tt_ok mix Try.func25 (by kernel_rfl) (eq25 a0 w K ▸ h)⟩

/- loop.example/g00008/spec.ReadImage -/
def an26 : Ann := (.seq .leaf (.seq .leaf (.seq .leaf (.seq (.seq .leaf (.cond (.seq .leaf .leaf) .leaf)) (.seq (.seq .leaf (.cond (.seq .leaf .leaf) .leaf)) (.seq (.seq .leaf (.cond (.seq .leaf .leaf) .leaf)) (.seq (.seq (.draw [0, 0, 2, 7, 0, 0, 32, 112, 255, 511, 1023] [0, 1, 2, 4, 5, 6, 7, 3, 8, 9, 10]) (.cond (.seq .leaf .leaf) .leaf)) (.seq .leaf (.seq (.seq .leaf (.cond (.seq .leaf .leaf) .leaf)) (.seq .leaf (.seq (.seq (.reg [(3, none), (6, some (84, [(59, .bool)]))]) (.cond (.seq .leaf .leaf) .leaf)) (.seq .leaf .leaf))))))))))))
def W26 (a0 : Sl) (w : World) (K : Value → World → Prop) : Prop :=
  LetW (w.alloc (.cells #[.int .i64 0, .slice none 0 0] 45)) fun w1 => LetW (w1.alloc (.cells #[.int .i64 0, .slice none 0 0] 45)) fun w2 => MayN w2 ⟨w1.heap.size, 0, none⟩ 2 ∧ LetW (puts w2 ⟨w1.heap.size, 0, none⟩ 0 [.int .i64 0, .slice none 0 0]) fun w3 => BIf (decide ((((a0.len : Nat) : Int) : Int) < 20)) (∃ n4 : Int, w3.cell? ⟨w1.heap.size, 0, none⟩ = some (.int .i64 n4) ∧ ∃ l5 : Sl, w3.cell? ⟨w1.heap.size, 1, none⟩ = some (.slice l5.a l5.len l5.cap) ∧ MayN w3 ⟨w.heap.size, 0, none⟩ 2 ∧ LetW (puts w3 ⟨w.heap.size, 0, none⟩ 0 [.int .i64 n4, .slice l5.a l5.len l5.cap]) fun w6 => ∃ n7 : Int, w6.cell? ⟨w.heap.size, 0, none⟩ = some (.int .i64 n7) ∧ ∃ l8 : Sl, w6.cell? ⟨w.heap.size, 1, none⟩ = some (.slice l8.a l8.len l8.cap) ∧ K (.tuple #[.agg #[.int .i64 n7, .slice l8.a l8.len l8.cap], .int .i64 1]) w6) (0 ≤ (4 : Int) ∧ (4 : Int) ≤ ((a0.cap : Nat) : Int) ∧ ∃ xs9 : List Int, RowAt w3 (cutA a0.a a0.cap (Int.toNat 0) 1) (Int.toNat 4 - Int.toNat 0) (xs9.map (Value.int .u8)) ∧ BIf (!strEq (strOfNums xs9) (⟨#[75, 73, 77, 71]⟩ : ByteArray)) (∃ n10 : Int, w3.cell? ⟨w1.heap.size, 0, none⟩ = some (.int .i64 n10) ∧ ∃ l11 : Sl, w3.cell? ⟨w1.heap.size, 1, none⟩ = some (.slice l11.a l11.len l11.cap) ∧ MayN w3 ⟨w.heap.size, 0, none⟩ 2 ∧ LetW (puts w3 ⟨w.heap.size, 0, none⟩ 0 [.int .i64 n10, .slice l11.a l11.len l11.cap]) fun w12 => ∃ n13 : Int, w12.cell? ⟨w.heap.size, 0, none⟩ = some (.int .i64 n13) ∧ ∃ l14 : Sl, w12.cell? ⟨w.heap.size, 1, none⟩ = some (.slice l14.a l14.len l14.cap) ∧ K (.tuple #[.agg #[.int .i64 n13, .slice l14.a l14.len l14.cap], .int .i64 2]) w12) (0 ≤ (4 : Int) ∧ (4 : Int) < ((a0.len : Nat) : Int) ∧ ∃ q15 : Addr, (a0.a : Option Addr) = some q15 ∧ ∃ n16 : Int, w3.cell? (q15.add (Int.toNat 4 * 1)) = some (.int .u8 n16) ∧ BIf ((n16 : Int) != 1) (∃ n17 : Int, w3.cell? ⟨w1.heap.size, 0, none⟩ = some (.int .i64 n17) ∧ ∃ l18 : Sl, w3.cell? ⟨w1.heap.size, 1, none⟩ = some (.slice l18.a l18.len l18.cap) ∧ MayN w3 ⟨w.heap.size, 0, none⟩ 2 ∧ LetW (puts w3 ⟨w.heap.size, 0, none⟩ 0 [.int .i64 n17, .slice l18.a l18.len l18.cap]) fun w19 => ∃ n20 : Int, w19.cell? ⟨w.heap.size, 0, none⟩ = some (.int .i64 n20) ∧ ∃ l21 : Sl, w19.cell? ⟨w.heap.size, 1, none⟩ = some (.slice l21.a l21.len l21.cap) ∧ K (.tuple #[.agg #[.int .i64 n20, .slice l21.a l21.len l21.cap], .int .i64 3]) w19) (0 ≤ (IntKind.wrap .i64 (((a0.len : Nat) : Int) - 4) : Int) ∧ (IntKind.wrap .i64 (((a0.len : Nat) : Int) - 4) : Int) ≤ ((a0.cap : Nat) : Int) ∧ CallW Try.prog 83 #[.slice a0.a a0.len a0.cap, .int .i64 (IntKind.wrap .i64 (((a0.len : Nat) : Int) - 4)), .int .i64 4] w3.drew fun v22 w23 => ∃ n24 : Int, v22 = .int .i64 n24 ∧ CallW Try.prog 82 #[.slice (cutA a0.a a0.cap (Int.toNat 0) 1) (Int.toNat (IntKind.wrap .i64 (((a0.len : Nat) : Int) - 4)) - Int.toNat 0) (a0.cap - Int.toNat 0)] w23 fun v25 w26 => ∃ n27 : Int, v25 = .int .u64 n27 ∧ BIf ((n24 : Int) != (IntKind.wrap .i64 n27)) (∃ n28 : Int, w26.cell? ⟨w1.heap.size, 0, none⟩ = some (.int .i64 n28) ∧ ∃ l29 : Sl, w26.cell? ⟨w1.heap.size, 1, none⟩ = some (.slice l29.a l29.len l29.cap) ∧ MayN w26 ⟨w.heap.size, 0, none⟩ 2 ∧ LetW (puts w26 ⟨w.heap.size, 0, none⟩ 0 [.int .i64 n28, .slice l29.a l29.len l29.cap]) fun w30 => ∃ n31 : Int, w30.cell? ⟨w.heap.size, 0, none⟩ = some (.int .i64 n31) ∧ ∃ l32 : Sl, w30.cell? ⟨w.heap.size, 1, none⟩ = some (.slice l32.a l32.len l32.cap) ∧ K (.tuple #[.agg #[.int .i64 n31, .slice l32.a l32.len l32.cap], .int .i64 4]) w30) (CallW Try.prog 84 #[.slice a0.a a0.len a0.cap] w26 fun v33 w34 => ∃ n35 : Int, ∃ l36 : Sl, ∃ b37 : Bool, v33 = .tuple #[.agg #[.int .i64 n35, .slice l36.a l36.len l36.cap], .bool b37] ∧ LetW (w34.alloc (.cells #[.int .i64 0, .slice none 0 0] 45)) fun w38 => MayN w38 ⟨w34.heap.size, 0, none⟩ 2 ∧ LetW (puts w38 ⟨w34.heap.size, 0, none⟩ 0 [.int .i64 n35, .slice l36.a l36.len l36.cap]) fun w39 => BIf (!b37) (∃ n40 : Int, w39.cell? ⟨w1.heap.size, 0, none⟩ = some (.int .i64 n40) ∧ ∃ l41 : Sl, w39.cell? ⟨w1.heap.size, 1, none⟩ = some (.slice l41.a l41.len l41.cap) ∧ MayN w39 ⟨w.heap.size, 0, none⟩ 2 ∧ LetW (puts w39 ⟨w.heap.size, 0, none⟩ 0 [.int .i64 n40, .slice l41.a l41.len l41.cap]) fun w42 => ∃ n43 : Int, w42.cell? ⟨w.heap.size, 0, none⟩ = some (.int .i64 n43) ∧ ∃ l44 : Sl, w42.cell? ⟨w.heap.size, 1, none⟩ = some (.slice l44.a l44.len l44.cap) ∧ K (.tuple #[.agg #[.int .i64 n43, .slice l44.a l44.len l44.cap], .int .i64 5]) w42) (∃ n45 : Int, w39.cell? ⟨w34.heap.size, 0, none⟩ = some (.int .i64 n45) ∧ ∃ l46 : Sl, w39.cell? ⟨w34.heap.size, 1, none⟩ = some (.slice l46.a l46.len l46.cap) ∧ CallW Try.prog 77 #[.agg #[.int .i64 n45, .slice l46.a l46.len l46.cap]] w39 fun v47 w48 => ∃ l49 : Sl, ∃ b50 : Bool, v47 = .tuple #[.slice l49.a l49.len l49.cap, .bool b50] ∧ JoinW [.bool] (fun J52 => BIf (!b50) (J52 true w48) (∃ xs64 : List Int, RowAt w48 l49.a l49.len (xs64.map (Value.int .u8)) ∧ ∃ xs65 : List Int, RowAt w48 a0.a a0.len (xs65.map (Value.int .u8)) ∧ J52 (!strEq (strOfNums xs64) (strOfNums xs65)) w48)) (fun (b51 : Bool) w53 => BIf b51 (∃ n54 : Int, w53.cell? ⟨w1.heap.size, 0, none⟩ = some (.int .i64 n54) ∧ ∃ l55 : Sl, w53.cell? ⟨w1.heap.size, 1, none⟩ = some (.slice l55.a l55.len l55.cap) ∧ MayN w53 ⟨w.heap.size, 0, none⟩ 2 ∧ LetW (puts w53 ⟨w.heap.size, 0, none⟩ 0 [.int .i64 n54, .slice l55.a l55.len l55.cap]) fun w56 => ∃ n57 : Int, w56.cell? ⟨w.heap.size, 0, none⟩ = some (.int .i64 n57) ∧ ∃ l58 : Sl, w56.cell? ⟨w.heap.size, 1, none⟩ = some (.slice l58.a l58.len l58.cap) ∧ K (.tuple #[.agg #[.int .i64 n57, .slice l58.a l58.len l58.cap], .int .i64 5]) w56) (∃ n59 : Int, w53.cell? ⟨w34.heap.size, 0, none⟩ = some (.int .i64 n59) ∧ ∃ l60 : Sl, w53.cell? ⟨w34.heap.size, 1, none⟩ = some (.slice l60.a l60.len l60.cap) ∧ MayN w53 ⟨w.heap.size, 0, none⟩ 2 ∧ LetW (puts w53 ⟨w.heap.size, 0, none⟩ 0 [.int .i64 n59, .slice l60.a l60.len l60.cap]) fun w61 => ∃ n62 : Int, w61.cell? ⟨w.heap.size, 0, none⟩ = some (.int .i64 n62) ∧ ∃ l63 : Sl, w61.cell? ⟨w.heap.size, 1, none⟩ = some (.slice l63.a l63.len l63.cap) ∧ K (.tuple #[.agg #[.int .i64 n62, .slice l63.a l63.len l63.cap], .int .i64 0]) w61)))))))
theorem eq26 (a0 : Sl) (w : World) (K : Value → World → Prop) : denFn Try.prog tt Try.f26 an26 [.slice a0.a a0.len a0.cap] w K = W26 a0 w K := by kernel_rfl
theorem ok26 : OkFn Try.prog 26 := ⟨Try.f26, Try.func26, by kernel_rfl, by kernel_rfl⟩
theorem go26 {a0 : Sl} {w : World} {K : Value → World → Prop} (h : W26 a0 w K) : CallW Try.prog 26 #[.slice a0.a a0.len a0.cap] w K :=
  .inl ⟨ok26, denFn_sound tt_ok mix Try.func26 (by kernel_rfl) (eq26 a0 w K ▸ h)⟩

/- loop.example/g00008/laws.sameBytes -/
def an27 : Ann := (.seq .leaf (.seq (.seq .leaf (.cond (.seq .leaf .leaf) .leaf)) (.seq (.seq .leaf (.in_ (.loop 3 [(5, .int .i64)] (.seq (.seq .leaf (.cond .leaf .leaf)) (.seq (.in_ (.seq (.draw [0, 0, 3, 7, 0, 0, 48, 112, 255] [0, 1, 2, 3, 4, 5, 6, 7, 8]) (.cond (.seq .leaf .leaf) .leaf))) .leaf))))) (.seq .leaf .leaf))))
def W27 (a0 : Sl) (a1 : Sl) (w : World) (K : Value → World → Prop) : Prop :=
  BIf ((((a0.len : Nat) : Int) : Int) != ((a1.len : Nat) : Int)) (K (.bool false) w) (LoopW [.int .i64] (fun J2 => fun (n1 : Int) w3 => BIf (decide ((n1 : Int) < ((a0.len : Nat) : Int))) (0 ≤ (n1 : Int) ∧ (n1 : Int) < ((a0.len : Nat) : Int) ∧ ∃ q4 : Addr, (a0.a : Option Addr) = some q4 ∧ ∃ n5 : Int, w3.drew.cell? (q4.add (Int.toNat n1 * 1)) = some (.int .u8 n5) ∧ 0 ≤ (n1 : Int) ∧ (n1 : Int) < ((a1.len : Nat) : Int) ∧ ∃ q6 : Addr, (a1.a : Option Addr) = some q6 ∧ ∃ n7 : Int, w3.drew.cell? (q6.add (Int.toNat n1 * 1)) = some (.int .u8 n7) ∧ BIf ((n5 : Int) != n7) (K (.bool false) w3.drew) (J2 (IntKind.wrap .i64 (n1 + 1)) w3.drew)) (K (.bool true) w3)) ((0 : Int), ()) w)
theorem eq27 (a0 : Sl) (a1 : Sl) (w : World) (K : Value → World → Prop) : denFn Try.prog tt Try.f27 an27 [.slice a0.a a0.len a0.cap, .slice a1.a a1.len a1.cap] w K = W27 a0 a1 w K := by kernel_rfl
theorem ok27 : OkFn Try.prog 27 := ⟨Try.f27, Try.func27, by kernel_rfl, by kernel_rfl⟩
theorem go27 {a0 : Sl} {a1 : Sl} {w : World} {K : Value → World → Prop} (h : W27 a0 a1 w K) : CallW Try.prog 27 #[.slice a0.a a0.len a0.cap, .slice a1.a a1.len a1.cap] w K :=
  .inl ⟨ok27, denFn_sound tt_ok mix Try.func27 (by kernel_rfl) (eq27 a0 a1 w K ▸ h)⟩

/- loop.example/g00008/spec.l1New -/
def an66 : Ann := (.seq .leaf (.seq .leaf (.seq (.seq .leaf (.in_ (.loop 1 [(3, .int .i64), (4, .int .i64)] (.seq (.seq .leaf (.cond .leaf .leaf)) (.seq (.in_ .leaf) .leaf))))) (.seq .leaf .leaf))))
def W66 (a0 : Sl) (w : World) (K : Value → World → Prop) : Prop :=
  LoopW [.int .i64, .int .i64] (fun J3 => fun (n1 : Int) (n2 : Int) w4 => BIf (decide ((n2 : Int) < ((a0.len : Nat) : Int))) (0 ≤ (n2 : Int) ∧ (n2 : Int) < ((a0.len : Nat) : Int) ∧ ∃ q5 : Addr, (a0.a : Option Addr) = some q5 ∧ ∃ n6 : Int, w4.cell? (q5.add (Int.toNat n2 * 1)) = some (.int .u8 n6) ∧ J3 (andI .i64 (IntKind.wrap .i64 ((IntKind.wrap .i64 ((IntKind.wrap .i64 (n1 * 131)) + (IntKind.wrap .i64 n6))) + 7)) 1073741823) (IntKind.wrap .i64 (n2 + 1)) w4) (LetW (w4.alloc (.cells #[.slice a0.a a0.len a0.cap, .int .i64 0, .int .i64 n1] 175)) fun w7 => K (.pointer (some ⟨w4.heap.size, 0, none⟩)) w7)) ((IntKind.wrap .i64 (76543 + ((a0.len : Nat) : Int)) : Int), ((0 : Int), ())) w
theorem eq66 (a0 : Sl) (w : World) (K : Value → World → Prop) : denFn Try.prog tt Try.f66 an66 [.slice a0.a a0.len a0.cap] w K = W66 a0 w K := by kernel_rfl
theorem ok66 : OkFn Try.prog 66 := ⟨Try.f66, Try.func66, by kernel_rfl, by kernel_rfl⟩
theorem go66 {a0 : Sl} {w : World} {K : Value → World → Prop} (h : W66 a0 w K) : CallW Try.prog 66 #[.slice a0.a a0.len a0.cap] w K :=
  .inl ⟨ok66, denFn_sound tt_ok mix Try.func66 (by kernel_rfl) (eq66 a0 w K ▸ h)⟩

/- loop.example/g00008/spec.l5DrawAny -/
def an67 : Ann := (.seq .leaf (.seq .leaf (.join 12 [] (.seq .leaf (.cond .leaf .leaf)) (.seq .leaf .leaf))))
def W67 (a0 : Option Addr) (w : World) (K : Value → World → Prop) : Prop :=
  LetW (w.alloc (.cells #[.int .i64 0, .slice none 0 0] 45)) fun w1 => CallW Try.prog 78 #[.pointer a0] w1 fun v2 w3 => ∃ n4 : Int, ∃ l5 : Sl, v2 = .agg #[.int .i64 n4, .slice l5.a l5.len l5.cap] ∧ LetW (w3.alloc (.cells #[.int .i64 0, .slice none 0 0] 45)) fun w6 => MayN w6 ⟨w3.heap.size, 0, none⟩ 2 ∧ LetW (puts w6 ⟨w3.heap.size, 0, none⟩ 0 [.int .i64 n4, .slice l5.a l5.len l5.cap]) fun w7 => JoinW [] (fun J8 => CallW Try.prog 80 #[.pointer a0, .int .i64 4] w7 fun v15 w16 => ∃ b17 : Bool, v15 = .bool b17 ∧ BIf b17 (∃ n18 : Int, w16.cell? ⟨w3.heap.size, 0, none⟩ = some (.int .i64 n18) ∧ ∃ l19 : Sl, w16.cell? ⟨w3.heap.size, 1, none⟩ = some (.slice l19.a l19.len l19.cap) ∧ CallW Try.prog 131 #[.pointer a0, .agg #[.int .i64 n18, .slice l19.a l19.len l19.cap]] w16 fun v20 w21 => ∃ n22 : Int, ∃ l23 : Sl, v20 = .agg #[.int .i64 n22, .slice l23.a l23.len l23.cap] ∧ MayN w21 ⟨w3.heap.size, 0, none⟩ 2 ∧ LetW (puts w21 ⟨w3.heap.size, 0, none⟩ 0 [.int .i64 n22, .slice l23.a l23.len l23.cap]) fun w24 => J8 w24) (J8 w16)) (fun w9 => ∃ n10 : Int, w9.cell? ⟨w3.heap.size, 0, none⟩ = some (.int .i64 n10) ∧ ∃ l11 : Sl, w9.cell? ⟨w3.heap.size, 1, none⟩ = some (.slice l11.a l11.len l11.cap) ∧ MayN w9 ⟨w.heap.size, 0, none⟩ 2 ∧ LetW (puts w9 ⟨w.heap.size, 0, none⟩ 0 [.int .i64 n10, .slice l11.a l11.len l11.cap]) fun w12 => ∃ n13 : Int, w12.cell? ⟨w.heap.size, 0, none⟩ = some (.int .i64 n13) ∧ ∃ l14 : Sl, w12.cell? ⟨w.heap.size, 1, none⟩ = some (.slice l14.a l14.len l14.cap) ∧ K (.agg #[.int .i64 n13, .slice l14.a l14.len l14.cap]) w12)
theorem eq67 (a0 : Option Addr) (w : World) (K : Value → World → Prop) : denFn Try.prog tt Try.f67 an67 [.pointer a0] w K = W67 a0 w K := by kernel_rfl
theorem ok67 : OkFn Try.prog 67 := ⟨Try.f67, Try.func67, by kernel_rfl, by kernel_rfl⟩
theorem go67 {a0 : Option Addr} {w : World} {K : Value → World → Prop} (h : W67 a0 w K) : CallW Try.prog 67 #[.pointer a0] w K :=
  .inl ⟨ok67, denFn_sound tt_ok mix Try.func67 (by kernel_rfl) (eq67 a0 w K ▸ h)⟩

/- loop.example/g00008/impl.ImageOk -/
def an68 : Ann := (.seq .leaf (.seq (.seq (.reg [(5, none), (5, some (2, [(16, .bool)])), (1, none), (5, some (2, [(22, .bool)]))]) (.cond (.seq .leaf .leaf) .leaf)) (.seq .leaf (.seq .leaf (.seq (.seq .leaf (.in_ (.loop 50331650 [(3, .int .i64), (4, .bool), (26, .int .i64)] (.seq .leaf (.seq (.cond .leaf .leaf) (.seq (.in_ (.seq .leaf (.seq (.seq (.reg [(5, none), (5, some (117440594, [(39, .bool)])), (1, none), (4, some (117440594, [(44, .bool)])), (1, none), (4, some (117440594, [(49, .bool)])), (1, none), (4, some (117440594, [(54, .bool)])), (1, none), (7, some (117440594, [(62, .bool)])), (1, none), (7, some (117440594, [(70, .bool)])), (1, none), (14, some (117440594, [(85, .bool)]))]) (.cond (.seq .leaf .leaf) .leaf)) (.seq (.draw [0, 1, 0, 4, 12, 31, 63] [0, 1, 2, 3, 4, 5, 6]) (.reg [(2, none), (21, some (117440522, [(114, .bool)])), (1, none)]))))) .leaf)))))) (.seq .leaf .leaf))))))
def W68 (a0_0 : Int) (a0_1 : Sl) (w : World) (K : Value → World → Prop) : Prop :=
  LetW (w.alloc (.cells #[.int .i64 a0_0, .slice a0_1.a a0_1.len a0_1.cap] 45)) fun w1 => ∃ l2 : Sl, w1.cell? ⟨w.heap.size, 1, none⟩ = some (.slice l2.a l2.len l2.cap) ∧ JoinW [.bool] (fun J4 => BIf (decide ((((l2.len : Nat) : Int) : Int) < 1)) (J4 true w1) (∃ l71 : Sl, w1.cell? ⟨w.heap.size, 1, none⟩ = some (.slice l71.a l71.len l71.cap) ∧ J4 (decide ((((l71.len : Nat) : Int) : Int) > 8)) w1)) (fun (b3 : Bool) w5 => JoinW [.bool] (fun J7 => BIf b3 (J7 true w5) (∃ n70 : Int, w5.cell? ⟨w.heap.size, 0, none⟩ = some (.int .i64 n70) ∧ (4 : Int) ≠ 0 ∧ J7 ((Int.tmod n70 4 : Int) != 0) w5)) (fun (b6 : Bool) w8 => BIf b6 (K (.bool false) w8) (∃ l9 : Sl, w8.cell? ⟨w.heap.size, 1, none⟩ = some (.slice l9.a l9.len l9.cap) ∧ LoopW [.int .i64, .bool, .int .i64] (fun J13 => fun (n10 : Int) (b11 : Bool) (n12 : Int) w14 => BIf (decide ((n12 : Int) < ((l9.len : Nat) : Int))) (0 ≤ (n12 : Int) ∧ (n12 : Int) < ((l9.len : Nat) : Int) ∧ ∃ q15 : Addr, (l9.a : Option Addr) = some q15 ∧ ∃ n16 : Int, w14.cell? ((q15.add (Int.toNat n12 * 4)).add 0) = some (.int .i64 n16) ∧ ∃ n17 : Int, w14.cell? ((q15.add (Int.toNat n12 * 4)).add 1) = some (.int .i64 n17) ∧ ∃ n18 : Int, w14.cell? ((q15.add (Int.toNat n12 * 4)).add 2) = some (.int .i64 n18) ∧ ∃ l19 : Sl, w14.cell? ((q15.add (Int.toNat n12 * 4)).add 3) = some (.slice l19.a l19.len l19.cap) ∧ LetW (w14.alloc (.cells #[.int .i64 0, .int .i64 0, .int .i64 0, .slice none 0 0] 107)) fun w20 => MayN w20 ⟨w14.heap.size, 0, none⟩ 4 ∧ LetW (puts w20 ⟨w14.heap.size, 0, none⟩ 0 [.int .i64 n16, .int .i64 n17, .int .i64 n18, .slice l19.a l19.len l19.cap]) fun w21 => ∃ n22 : Int, w21.cell? ⟨w14.heap.size, 0, none⟩ = some (.int .i64 n22) ∧ (256 : Int) ≠ 0 ∧ JoinW [.bool] (fun J24 => BIf ((Int.tmod n22 256 : Int) != 0) (J24 true w21) (∃ n69 : Int, w21.cell? ⟨w14.heap.size, 0, none⟩ = some (.int .i64 n69) ∧ J24 (decide ((n69 : Int) < n10)) w21)) (fun (b23 : Bool) w25 => JoinW [.bool] (fun J27 => BIf b23 (J27 true w25) (∃ n68 : Int, w25.cell? ⟨w14.heap.size, 0, none⟩ = some (.int .i64 n68) ∧ J27 (decide ((n68 : Int) > 4194304)) w25)) (fun (b26 : Bool) w28 => JoinW [.bool] (fun J30 => BIf b26 (J30 true w28) (∃ n67 : Int, w28.cell? ⟨w14.heap.size, 2, none⟩ = some (.int .i64 n67) ∧ J30 (decide ((n67 : Int) < 1)) w28)) (fun (b29 : Bool) w31 => JoinW [.bool] (fun J33 => BIf b29 (J33 true w31) (∃ n66 : Int, w31.cell? ⟨w14.heap.size, 2, none⟩ = some (.int .i64 n66) ∧ J33 (decide ((n66 : Int) > 65536)) w31)) (fun (b32 : Bool) w34 => JoinW [.bool] (fun J36 => BIf b32 (J36 true w34) (∃ n64 : Int, w34.cell? ⟨w14.heap.size, 0, none⟩ = some (.int .i64 n64) ∧ ∃ n65 : Int, w34.cell? ⟨w14.heap.size, 2, none⟩ = some (.int .i64 n65) ∧ J36 (decide ((IntKind.wrap .i64 (n64 + n65) : Int) > 4194304)) w34)) (fun (b35 : Bool) w37 => JoinW [.bool] (fun J39 => BIf b35 (J39 true w37) (∃ l62 : Sl, w37.cell? ⟨w14.heap.size, 3, none⟩ = some (.slice l62.a l62.len l62.cap) ∧ ∃ n63 : Int, w37.cell? ⟨w14.heap.size, 2, none⟩ = some (.int .i64 n63) ∧ J39 (decide ((((l62.len : Nat) : Int) : Int) > n63)) w37)) (fun (b38 : Bool) w40 => JoinW [.bool] (fun J42 => BIf b38 (J42 true w40) (∃ n59 : Int, w40.cell? ⟨w14.heap.size, 1, none⟩ = some (.int .i64 n59) ∧ BIf ((n59 : Int) != 1) (∃ n60 : Int, w40.cell? ⟨w14.heap.size, 1, none⟩ = some (.int .i64 n60) ∧ BIf ((n60 : Int) != 3) (∃ n61 : Int, w40.cell? ⟨w14.heap.size, 1, none⟩ = some (.int .i64 n61) ∧ J42 ((n61 : Int) != 5) w40) (J42 false w40)) (J42 false w40))) (fun (b41 : Bool) w43 => BIf b41 (K (.bool false) w43) (∃ n44 : Int, w43.drew.cell? ⟨w14.heap.size, 0, none⟩ = some (.int .i64 n44) ∧ ∃ n45 : Int, w43.drew.cell? ⟨w14.heap.size, 2, none⟩ = some (.int .i64 n45) ∧ CallW Try.prog 132 #[.int .i64 n45] w43.drew fun v46 w47 => ∃ n48 : Int, v46 = .int .i64 n48 ∧ (∃ n49 : Int, w47.cell? ⟨w14.heap.size, 0, none⟩ = some (.int .i64 n49) ∧ (.int .i64 n49 : Value) = (.int .i64 n44 : Value)) ∧ JoinW [.bool] (fun J51 => BIf b11 (J51 true w47) (∃ n53 : Int, w47.cell? ⟨w14.heap.size, 1, none⟩ = some (.int .i64 n53) ∧ BIf ((n53 : Int) == 5) (∃ n54 : Int, w47.cell? ⟨w.heap.size, 0, none⟩ = some (.int .i64 n54) ∧ ∃ n55 : Int, w47.cell? ⟨w14.heap.size, 0, none⟩ = some (.int .i64 n55) ∧ BIf (decide ((n54 : Int) ≥ n55)) (∃ n56 : Int, w47.cell? ⟨w.heap.size, 0, none⟩ = some (.int .i64 n56) ∧ ∃ n57 : Int, w47.cell? ⟨w14.heap.size, 0, none⟩ = some (.int .i64 n57) ∧ ∃ n58 : Int, w47.cell? ⟨w14.heap.size, 2, none⟩ = some (.int .i64 n58) ∧ J51 (decide ((n56 : Int) < (IntKind.wrap .i64 (n57 + n58)))) w47) (J51 false w47)) (J51 false w47))) (fun (b50 : Bool) w52 => J13 (IntKind.wrap .i64 (n44 + n48)) b50 (IntKind.wrap .i64 (n12 + 1)) w52)))))))))) (K (.bool b11) w14)) ((256 : Int), ((false : Bool), ((0 : Int), ()))) w8)))
theorem eq68 (a0_0 : Int) (a0_1 : Sl) (w : World) (K : Value → World → Prop) : denFn Try.prog tt Try.f68 an68 [.agg #[.int .i64 a0_0, .slice a0_1.a a0_1.len a0_1.cap]] w K = W68 a0_0 a0_1 w K := by kernel_rfl
theorem ok68 : OkFn Try.prog 68 := ⟨Try.f68, Try.func68, by kernel_rfl, by kernel_rfl⟩
theorem go68 {a0_0 : Int} {a0_1 : Sl} {w : World} {K : Value → World → Prop} (h : W68 a0_0 a0_1 w K) : CallW Try.prog 68 #[.agg #[.int .i64 a0_0, .slice a0_1.a a0_1.len a0_1.cap]] w K :=
  .inl ⟨ok68, denFn_sound tt_ok mix Try.func68 (by kernel_rfl) (eq68 a0_0 a0_1 w K ▸ h)⟩

/- loop.example/g00008/impl.num -/
def an69 : Ann := (.seq .leaf (.seq .leaf (.seq .leaf (.seq .leaf .leaf))))
def W69 (a0 : Int) (a1 : Int) (w : World) (K : Value → World → Prop) : Prop :=
  0 ≤ (a1 : Int) ∧ (a1 : Int) ≤ (a1 : Int) ∧ (a1 : Int) * 1 ≤ (140737488355328 : Int) ∧ 0 < 1 ∧ LetW (w.alloc (.cells ⟨zerosOf ti5.zero (Int.toNat a1)⟩ 5)) fun w1 => CallW Try.prog 133 #[.slice (some ⟨w.heap.size, 0, none⟩) (Int.toNat a1) (Int.toNat a1), .int .i64 0, .int .i64 a1, .int .u64 (IntKind.wrap .u64 a0)] w1 fun v2 w3 => v2 = .tuple #[] ∧ K (.slice (some ⟨w.heap.size, 0, none⟩) (Int.toNat a1) (Int.toNat a1)) w3
theorem eq69 (a0 : Int) (a1 : Int) (w : World) (K : Value → World → Prop) : denFn Try.prog tt Try.f69 an69 [.int .i64 a0, .int .i64 a1] w K = W69 a0 a1 w K := by kernel_rfl
theorem ok69 : OkFn Try.prog 69 := ⟨Try.f69, Try.func69, by kernel_rfl, by kernel_rfl⟩
theorem go69 {a0 : Int} {a1 : Int} {w : World} {K : Value → World → Prop} (h : W69 a0 a1 w K) : CallW Try.prog 69 #[.int .i64 a0, .int .i64 a1] w K :=
  .inl ⟨ok69, denFn_sound tt_ok mix Try.func69 (by kernel_rfl) (eq69 a0 a1 w K ▸ h)⟩

/- loop.example/g00008/impl.Crc -/
def an70 : Ann := (.seq .leaf (.seq .leaf (.seq (.seq .leaf (.in_ (.loop 384 [(3, .int .u64), (9, .int .i64)] (.seq .leaf (.seq (.cond .leaf .leaf) (.seq (.in_ (.seq .leaf (.seq .leaf (.seq .leaf (.in_ (.loop 896 [(3, .int .u64), (17, .int .i64)] (.seq .leaf (.seq (.cond .leaf .leaf) (.seq (.in_ (.seq .leaf (.seq .leaf (.seq .leaf (.cond .leaf .leaf))))) .leaf))))))))) .leaf)))))) (.seq .leaf .leaf))))
def W70 (a0 : Sl) (w : World) (K : Value → World → Prop) : Prop :=
  LoopW [.int .u64, .int .i64] (fun J3 => fun (n1 : Int) (n2 : Int) w4 => BIf (decide ((n2 : Int) < ((a0.len : Nat) : Int))) (0 ≤ (n2 : Int) ∧ (n2 : Int) < ((a0.len : Nat) : Int) ∧ ∃ q5 : Addr, (a0.a : Option Addr) = some q5 ∧ ∃ n6 : Int, w4.cell? (q5.add (Int.toNat n2 * 1)) = some (.int .u8 n6) ∧ LoopW [.int .u64, .int .i64] (fun J9 => fun (n7 : Int) (n8 : Int) w10 => BIf (decide ((n8 : Int) < 8)) (0 ≤ (1 : Int) ∧ BIf ((andI .u64 n7 1 : Int) == 1) (J9 (xorI .u64 (shrI .u64 n7 1) 3988292384) (IntKind.wrap .i64 (n8 + 1)) w10) (J9 (shrI .u64 n7 1) (IntKind.wrap .i64 (n8 + 1)) w10)) (J3 n7 (IntKind.wrap .i64 (n2 + 1)) w10)) ((xorI .u64 n1 (IntKind.wrap .u64 n6) : Int), ((0 : Int), ())) w4) (K (.int .u64 (xorI .u64 n1 4294967295)) w4)) ((4294967295 : Int), ((0 : Int), ())) w
theorem eq70 (a0 : Sl) (w : World) (K : Value → World → Prop) : denFn Try.prog tt Try.f70 an70 [.slice a0.a a0.len a0.cap] w K = W70 a0 w K := by kernel_rfl
theorem ok70 : OkFn Try.prog 70 := ⟨Try.f70, Try.func70, by kernel_rfl, by kernel_rfl⟩
theorem go70 {a0 : Sl} {w : World} {K : Value → World → Prop} (h : W70 a0 w K) : CallW Try.prog 70 #[.slice a0.a a0.len a0.cap] w K :=
  .inl ⟨ok70, denFn_sound tt_ok mix Try.func70 (by kernel_rfl) (eq70 a0 w K ▸ h)⟩

/- loop.example/g00008/spec.l5ProtOk -/
def an71 : Ann := (.seq .leaf (.seq (.reg [(3, none), (3, some (1, [(8, .bool)])), (1, none), (3, some (0, [(12, .bool)])), (1, none)]) .leaf))
def W71 (a0 : Int) (w : World) (K : Value → World → Prop) : Prop :=
  JoinW [.bool] (fun J2 => BIf ((a0 : Int) == 1) (J2 true w) (J2 ((a0 : Int) == 3) w)) (fun (b1 : Bool) w3 => JoinW [.bool] (fun J5 => BIf b1 (J5 true w3) (J5 ((a0 : Int) == 5) w3)) (fun (b4 : Bool) w6 => K (.bool b4) w6))
theorem eq71 (a0 : Int) (w : World) (K : Value → World → Prop) : denFn Try.prog tt Try.f71 an71 [.int .i64 a0] w K = W71 a0 w K := by kernel_rfl
theorem ok71 : OkFn Try.prog 71 := ⟨Try.f71, Try.func71, by kernel_rfl, by kernel_rfl⟩
theorem go71 {a0 : Int} {w : World} {K : Value → World → Prop} (h : W71 a0 w K) : CallW Try.prog 71 #[.int .i64 a0] w K :=
  .inl ⟨ok71, denFn_sound tt_ok mix Try.func71 (by kernel_rfl) (eq71 a0 w K ▸ h)⟩

/- loop.example/g00008/spec.l5PageUp -/
def an72 : Ann := (.seq .leaf (.seq (.in_ (.loop 0 [(0, .int .i64)] (.seq (.seq .leaf (.cond .leaf .leaf)) (.in_ .leaf)))) (.seq .leaf .leaf)))
def W72 (a0 : Int) (w : World) (K : Value → World → Prop) : Prop :=
  LoopW [.int .i64] (fun J2 => fun (n1 : Int) w3 => (256 : Int) ≠ 0 ∧ BIf ((Int.tmod n1 256 : Int) != 0) (J2 (IntKind.wrap .i64 (n1 + 1)) w3) (K (.int .i64 n1) w3)) ((a0 : Int), ()) w
theorem eq72 (a0 : Int) (w : World) (K : Value → World → Prop) : denFn Try.prog tt Try.f72 an72 [.int .i64 a0] w K = W72 a0 w K := by kernel_rfl
theorem ok72 : OkFn Try.prog 72 := ⟨Try.f72, Try.func72, by kernel_rfl, by kernel_rfl⟩
theorem go72 {a0 : Int} {w : World} {K : Value → World → Prop} (h : W72 a0 w K) : CallW Try.prog 72 #[.int .i64 a0] w K :=
  .inl ⟨ok72, denFn_sound tt_ok mix Try.func72 (by kernel_rfl) (eq72 a0 w K ▸ h)⟩

/- loop.example/g00008/impl.LoadWord -/
def an73 : Ann := (.seq .leaf (.seq (.seq (.reg [(4, none), (7, some (15, [(22, .bool)]))]) (.cond (.seq .leaf .leaf) .leaf)) (.seq .leaf (.seq (.seq .leaf (.in_ (.loop 15 [(10, .int .u64), (11, .int .i64)] (.seq (.seq .leaf (.cond .leaf .leaf)) (.seq (.in_ .leaf) .leaf))))) (.seq (.seq .leaf (.cond .leaf .leaf)) (.seq .leaf .leaf))))))
def W73 (a0 : Sl) (a1 : Int) (a2 : Int) (a3 : Bool) (w : World) (K : Value → World → Prop) : Prop :=
  CallW Try.prog 134 #[.int .i64 a2] w fun v1 w2 => ∃ b3 : Bool, v1 = .bool b3 ∧ JoinW [.bool] (fun J5 => BIf (!b3) (J5 true w2) (CallW Try.prog 75 #[.int .i64 ((a0.len : Nat) : Int), .int .i64 a1, .int .i64 a2] w2 fun v16 w17 => ∃ b18 : Bool, v16 = .bool b18 ∧ J5 (!b18) w17)) (fun (b4 : Bool) w6 => BIf b4 (K (.tuple #[.int .u64 0, .bool false]) w6) (LoopW [.int .u64, .int .i64] (fun J9 => fun (n7 : Int) (n8 : Int) w10 => BIf (decide ((n8 : Int) ≥ 0)) (0 ≤ (8 : Int) ∧ 0 ≤ (IntKind.wrap .i64 (a1 + n8) : Int) ∧ (IntKind.wrap .i64 (a1 + n8) : Int) < ((a0.len : Nat) : Int) ∧ ∃ q11 : Addr, (a0.a : Option Addr) = some q11 ∧ ∃ n12 : Int, w10.cell? (q11.add (Int.toNat (IntKind.wrap .i64 (a1 + n8)) * 1)) = some (.int .u8 n12) ∧ J9 (orI .u64 (shlI .u64 n7 8) (IntKind.wrap .u64 n12)) (IntKind.wrap .i64 (n8 - 1)) w10) (BIf a3 (CallW Try.prog 135 #[.int .u64 n7, .int .i64 (IntKind.wrap .i64 (8 * a2))] w10 fun v13 w14 => ∃ n15 : Int, v13 = .int .u64 n15 ∧ K (.tuple #[.int .u64 n15, .bool true]) w14) (K (.tuple #[.int .u64 n7, .bool true]) w10))) ((0 : Int), ((IntKind.wrap .i64 (a2 - 1) : Int), ())) w6))
theorem eq73 (a0 : Sl) (a1 : Int) (a2 : Int) (a3 : Bool) (w : World) (K : Value → World → Prop) : denFn Try.prog tt Try.f73 an73 [.slice a0.a a0.len a0.cap, .int .i64 a1, .int .i64 a2, .bool a3] w K = W73 a0 a1 a2 a3 w K := by kernel_rfl
theorem ok73 : OkFn Try.prog 73 := ⟨Try.f73, Try.func73, by kernel_rfl, by kernel_rfl⟩
theorem go73 {a0 : Sl} {a1 : Int} {a2 : Int} {a3 : Bool} {w : World} {K : Value → World → Prop} (h : W73 a0 a1 a2 a3 w K) : CallW Try.prog 73 #[.slice a0.a a0.len a0.cap, .int .i64 a1, .int .i64 a2, .bool a3] w K :=
  .inl ⟨ok73, denFn_sound tt_ok mix Try.func73 (by kernel_rfl) (eq73 a0 a1 a2 a3 w K ▸ h)⟩

/- loop.example/g00008/impl.ReadImage$1 -/
def an74 : Ann := (.seq .leaf (.seq .leaf (.seq .leaf .leaf)))
def W74 (a0 : Int) (a1 : Int) (c0 : Addr) (w : World) (K : Value → World → Prop) : Prop :=
  ∃ l1 : Sl, w.cell? c0 = some (.slice l1.a l1.len l1.cap) ∧ CallW Try.prog 73 #[.slice l1.a l1.len l1.cap, .int .i64 a0, .int .i64 a1, .bool false] w fun v2 w3 => ∃ n4 : Int, ∃ b5 : Bool, v2 = .tuple #[.int .u64 n4, .bool b5] ∧ K (.int .i64 (IntKind.wrap .i64 n4)) w3
theorem eq74 (a0 : Int) (a1 : Int) (c0 : Addr) (w : World) (K : Value → World → Prop) : denFn Try.prog tt Try.f74 an74 [.int .i64 a0, .int .i64 a1, .pointer (some c0)] w K = W74 a0 a1 c0 w K := by kernel_rfl
theorem ok74 : OkFn Try.prog 74 := ⟨Try.f74, Try.func74, by kernel_rfl, by kernel_rfl⟩
theorem go74 {a0 : Int} {a1 : Int} {c0 : Addr} {w : World} {K : Value → World → Prop} (h : W74 a0 a1 c0 w K) : CallW Try.prog 74 #[.int .i64 a0, .int .i64 a1, .pointer (some c0)] w K :=
  .inl ⟨ok74, denFn_sound tt_ok mix Try.func74 (by kernel_rfl) (eq74 a0 a1 c0 w K ▸ h)⟩

/- loop.example/g00008/impl.inside -/
def an75 : Ann := (.seq .leaf (.seq (.reg [(3, none), (3, some (7, [(12, .bool)])), (1, none), (4, some (7, [(17, .bool)])), (1, none), (6, some (0, [(24, .bool)])), (1, none)]) .leaf))
def W75 (a0 : Int) (a1 : Int) (a2 : Int) (w : World) (K : Value → World → Prop) : Prop :=
  JoinW [.bool] (fun J2 => BIf (decide ((a1 : Int) ≥ 0)) (J2 (decide ((a2 : Int) ≥ 0)) w) (J2 false w)) (fun (b1 : Bool) w3 => JoinW [.bool] (fun J5 => BIf b1 (J5 (decide ((a1 : Int) ≤ a0)) w3) (J5 false w3)) (fun (b4 : Bool) w6 => JoinW [.bool] (fun J8 => BIf b4 (J8 (decide ((a2 : Int) ≤ (IntKind.wrap .i64 (a0 - a1)))) w6) (J8 false w6)) (fun (b7 : Bool) w9 => K (.bool b7) w9)))
theorem eq75 (a0 : Int) (a1 : Int) (a2 : Int) (w : World) (K : Value → World → Prop) : denFn Try.prog tt Try.f75 an75 [.int .i64 a0, .int .i64 a1, .int .i64 a2] w K = W75 a0 a1 a2 w K := by kernel_rfl
theorem ok75 : OkFn Try.prog 75 := ⟨Try.f75, Try.func75, by kernel_rfl, by kernel_rfl⟩
theorem go75 {a0 : Int} {a1 : Int} {a2 : Int} {w : World} {K : Value → World → Prop} (h : W75 a0 a1 a2 w K) : CallW Try.prog 75 #[.int .i64 a0, .int .i64 a1, .int .i64 a2] w K :=
  .inl ⟨ok75, denFn_sound tt_ok mix Try.func75 (by kernel_rfl) (eq75 a0 a1 a2 w K ▸ h)⟩

/- loop.example/g00008/impl.copied -/
def an76 : Ann := (.seq .leaf (.seq .leaf .leaf))
def W76 (a0 : Sl) (w : World) (K : Value → World → Prop) : Prop :=
  AppendW 5 ti5 ⟨none, 0, 0⟩ a0 w fun l1 w2 => K (.slice l1.a l1.len l1.cap) w2
theorem eq76 (a0 : Sl) (w : World) (K : Value → World → Prop) : denFn Try.prog tt Try.f76 an76 [.slice a0.a a0.len a0.cap] w K = W76 a0 w K := by kernel_rfl
theorem ok76 : OkFn Try.prog 76 := ⟨Try.f76, Try.func76, by kernel_rfl, by kernel_rfl⟩
theorem go76 {a0 : Sl} {w : World} {K : Value → World → Prop} (h : W76 a0 w K) : CallW Try.prog 76 #[.slice a0.a a0.len a0.cap] w K :=
  .inl ⟨ok76, denFn_sound tt_ok mix Try.func76 (by kernel_rfl) (eq76 a0 w K ▸ h)⟩

/- loop.example/g00008/spec.PackImage -/
def an77 : Ann := (.seq .leaf (.seq (.seq .leaf (.cond (.seq .leaf .leaf) .leaf)) (.seq .leaf (.seq .leaf (.seq .leaf (.seq (.seq .leaf (.in_ (.loop 2 [(4, .slice), (5, .int .i64)] (.seq (.seq .leaf (.cond .leaf .leaf)) (.seq (.in_ (.seq .leaf (.seq .leaf (.seq .leaf (.seq .leaf .leaf))))) .leaf))))) (.seq (.seq .leaf (.in_ (.loop 2 [(4, .slice), (7, .int .i64)] (.seq (.seq .leaf (.cond .leaf .leaf)) (.seq (.in_ .leaf) .leaf))))) (.seq .leaf .leaf))))))))
def W77 (a0_0 : Int) (a0_1 : Sl) (w : World) (K : Value → World → Prop) : Prop :=
  LetW (w.alloc (.cells #[.int .i64 a0_0, .slice a0_1.a a0_1.len a0_1.cap] 45)) fun w1 => ∃ n2 : Int, w1.cell? ⟨w.heap.size, 0, none⟩ = some (.int .i64 n2) ∧ ∃ l3 : Sl, w1.cell? ⟨w.heap.size, 1, none⟩ = some (.slice l3.a l3.len l3.cap) ∧ CallW Try.prog 22 #[.agg #[.int .i64 n2, .slice l3.a l3.len l3.cap]] w1 fun v4 w5 => ∃ b6 : Bool, v4 = .bool b6 ∧ BIf (!b6) (LetW (w5.alloc (.cells #[] 5)) fun w7 => K (.tuple #[.slice (some ⟨w5.heap.size, 0, none⟩) 0 0, .bool false]) w7) (LetW (w5.alloc (.cells #[.int .u8 75, .int .u8 73, .int .u8 77, .int .u8 71] 5)) fun w8 => ∃ p9 : Addr, (some ⟨w5.heap.size, 0, none⟩ : Option Addr) = some p9 ∧ MarkW p9 w8 fun w10 => ∃ l11 : Sl, w10.cell? ⟨w.heap.size, 1, none⟩ = some (.slice l11.a l11.len l11.cap) ∧ LetW (w10.alloc (.cells #[.int .u8 1, .int .u8 (IntKind.wrap .u8 ((l11.len : Nat) : Int)), .int .u8 0, .int .u8 0] 5)) fun w12 => AppendW 5 ti5 ⟨some p9, 4, 4⟩ ⟨some ⟨w10.heap.size, 0, none⟩, 4, 4⟩ w12 fun l13 w14 => ∃ n15 : Int, w14.cell? ⟨w.heap.size, 0, none⟩ = some (.int .i64 n15) ∧ CallW Try.prog 81 #[.int .i64 n15, .int .i64 8] w14 fun v16 w17 => ∃ l18 : Sl, v16 = .slice l18.a l18.len l18.cap ∧ AppendW 5 ti5 l13 l18 w17 fun l19 w20 => LoopW [.slice, .int .i64] (fun J23 => fun (l21 : Sl) (n22 : Int) w24 => ∃ l25 : Sl, w24.cell? ⟨w.heap.size, 1, none⟩ = some (.slice l25.a l25.len l25.cap) ∧ BIf (decide ((n22 : Int) < ((l25.len : Nat) : Int))) (∃ l26 : Sl, w24.cell? ⟨w.heap.size, 1, none⟩ = some (.slice l26.a l26.len l26.cap) ∧ 0 ≤ (n22 : Int) ∧ (n22 : Int) < ((l26.len : Nat) : Int) ∧ ∃ q27 : Addr, (l26.a : Option Addr) = some q27 ∧ ∃ n28 : Int, w24.cell? ((q27.add (Int.toNat n22 * 4)).add 0) = some (.int .i64 n28) ∧ ∃ n29 : Int, w24.cell? ((q27.add (Int.toNat n22 * 4)).add 1) = some (.int .i64 n29) ∧ ∃ n30 : Int, w24.cell? ((q27.add (Int.toNat n22 * 4)).add 2) = some (.int .i64 n30) ∧ ∃ l31 : Sl, w24.cell? ((q27.add (Int.toNat n22 * 4)).add 3) = some (.slice l31.a l31.len l31.cap) ∧ LetW (w24.alloc (.cells #[.int .i64 0, .int .i64 0, .int .i64 0, .slice none 0 0] 107)) fun w32 => MayN w32 ⟨w24.heap.size, 0, none⟩ 4 ∧ LetW (puts w32 ⟨w24.heap.size, 0, none⟩ 0 [.int .i64 n28, .int .i64 n29, .int .i64 n30, .slice l31.a l31.len l31.cap]) fun w33 => ∃ n34 : Int, w33.cell? ⟨w24.heap.size, 0, none⟩ = some (.int .i64 n34) ∧ CallW Try.prog 81 #[.int .i64 n34, .int .i64 4] w33 fun v35 w36 => ∃ l37 : Sl, v35 = .slice l37.a l37.len l37.cap ∧ AppendW 5 ti5 l21 l37 w36 fun l38 w39 => ∃ n40 : Int, w39.cell? ⟨w24.heap.size, 2, none⟩ = some (.int .i64 n40) ∧ CallW Try.prog 81 #[.int .i64 n40, .int .i64 4] w39 fun v41 w42 => ∃ l43 : Sl, v41 = .slice l43.a l43.len l43.cap ∧ AppendW 5 ti5 l38 l43 w42 fun l44 w45 => ∃ l46 : Sl, w45.cell? ⟨w24.heap.size, 3, none⟩ = some (.slice l46.a l46.len l46.cap) ∧ CallW Try.prog 81 #[.int .i64 ((l46.len : Nat) : Int), .int .i64 4] w45 fun v47 w48 => ∃ l49 : Sl, v47 = .slice l49.a l49.len l49.cap ∧ AppendW 5 ti5 l44 l49 w48 fun l50 w51 => ∃ n52 : Int, w51.cell? ⟨w24.heap.size, 1, none⟩ = some (.int .i64 n52) ∧ LetW (w51.alloc (.cells #[.int .u8 (IntKind.wrap .u8 n52), .int .u8 0, .int .u8 0, .int .u8 0] 5)) fun w53 => AppendW 5 ti5 l50 ⟨some ⟨w51.heap.size, 0, none⟩, 4, 4⟩ w53 fun l54 w55 => J23 l54 (IntKind.wrap .i64 (n22 + 1)) w55) (LoopW [.slice, .int .i64] (fun J58 => fun (l56 : Sl) (n57 : Int) w59 => ∃ l60 : Sl, w59.cell? ⟨w.heap.size, 1, none⟩ = some (.slice l60.a l60.len l60.cap) ∧ BIf (decide ((n57 : Int) < ((l60.len : Nat) : Int))) (∃ l61 : Sl, w59.cell? ⟨w.heap.size, 1, none⟩ = some (.slice l61.a l61.len l61.cap) ∧ 0 ≤ (n57 : Int) ∧ (n57 : Int) < ((l61.len : Nat) : Int) ∧ ∃ q62 : Addr, (l61.a : Option Addr) = some q62 ∧ ∃ l63 : Sl, w59.cell? ((q62.add (Int.toNat n57 * 4)).add 3) = some (.slice l63.a l63.len l63.cap) ∧ AppendW 5 ti5 l56 l63 w59 fun l64 w65 => J58 l64 (IntKind.wrap .i64 (n57 + 1)) w65) (CallW Try.prog 82 #[.slice l56.a l56.len l56.cap] w59 fun v66 w67 => ∃ n68 : Int, v66 = .int .u64 n68 ∧ CallW Try.prog 81 #[.int .i64 (IntKind.wrap .i64 n68), .int .i64 4] w67 fun v69 w70 => ∃ l71 : Sl, v69 = .slice l71.a l71.len l71.cap ∧ AppendW 5 ti5 l56 l71 w70 fun l72 w73 => K (.tuple #[.slice l72.a l72.len l72.cap, .bool true]) w73)) ((l21 : Sl), ((0 : Int), ())) w24)) ((l19 : Sl), ((0 : Int), ())) w20)
theorem eq77 (a0_0 : Int) (a0_1 : Sl) (w : World) (K : Value → World → Prop) : denFn Try.prog tt Try.f77 an77 [.agg #[.int .i64 a0_0, .slice a0_1.a a0_1.len a0_1.cap]] w K = W77 a0_0 a0_1 w K := by kernel_rfl
theorem ok77 : OkFn Try.prog 77 := ⟨Try.f77, Try.func77, by kernel_rfl, by kernel_rfl⟩
theorem go77 {a0_0 : Int} {a0_1 : Sl} {w : World} {K : Value → World → Prop} (h : W77 a0_0 a0_1 w K) : CallW Try.prog 77 #[.agg #[.int .i64 a0_0, .slice a0_1.a a0_1.len a0_1.cap]] w K :=
  .inl ⟨ok77, denFn_sound tt_ok mix Try.func77 (by kernel_rfl) (eq77 a0_0 a0_1 w K ▸ h)⟩

/- loop.example/g00008/spec.l5DrawImage -/
def an78 : Ann := (.seq .leaf (.seq .leaf (.seq .leaf (.seq .leaf (.join 29 [(5, .int .i64)] (.seq .leaf (.cond .leaf .leaf)) (.seq (.seq .leaf (.in_ (.loop 45 [(4, .int .i64), (6, .int .i64)] (.seq (.seq .leaf (.cond .leaf .leaf)) (.seq (.in_ (.seq .leaf (.join 253 [] (.seq .leaf (.cond .leaf .leaf)) (.seq .leaf (.join 253 [] (.seq .leaf (.cond .leaf .leaf)) (.seq (.draw [0, 1, 3, 0, 8, 0, 56, 120, 255, 511, 1023] [0, 1, 2, 3, 5, 4, 6, 7, 8, 9, 10]) (.join 253 [] (.seq .leaf (.cond .leaf .leaf)) (.join 253 [] (.seq .leaf (.cond .leaf .leaf)) (.seq .leaf (.seq .leaf (.seq .leaf (.cond .leaf .leaf)))))))))))) .leaf))))) (.join 12 [] (.seq .leaf (.cond (.seq .leaf (.draw [0, 1, 0, 0, 8, 0, 56, 120, 248, 504, 1016, 0, 3064, 7160, 16376, 32767, 65535, 131071] [0, 1, 2, 3, 4, 5, 6, 7, 8, 11, 9, 10, 12, 13, 14, 15, 16, 17])) .leaf)) (.seq .leaf .leaf))))))))
def W78 (a0 : Option Addr) (w : World) (K : Value → World → Prop) : Prop :=
  LetW (w.alloc (.cells #[.int .i64 0, .slice none 0 0] 45)) fun w1 => LetW (w1.alloc (.cells #[.int .i64 0, .slice none 0 0] 45)) fun w2 => MayN w2 ⟨w1.heap.size, 0, none⟩ 2 ∧ LetW (puts w2 ⟨w1.heap.size, 0, none⟩ 0 [.int .i64 0, .slice none 0 0]) fun w3 => CallW Try.prog 79 #[.pointer a0, .int .i64 20] w3 fun v4 w5 => ∃ n6 : Int, v4 = .int .i64 n6 ∧ CallW Try.prog 79 #[.pointer a0, .int .i64 4] w5 fun v7 w8 => ∃ n9 : Int, v7 = .int .i64 n9 ∧ JoinW [.int .i64] (fun J11 => CallW Try.prog 80 #[.pointer a0, .int .i64 20] w8 fun v113 w114 => ∃ b115 : Bool, v113 = .bool b115 ∧ BIf b115 (CallW Try.prog 79 #[.pointer a0, .int .i64 3] w114 fun v116 w117 => ∃ n118 : Int, v116 = .int .i64 n118 ∧ J11 (IntKind.wrap .i64 (7 + n118)) w117) (J11 (IntKind.wrap .i64 (1 + n9)) w114)) (fun (n10 : Int) w12 => LoopW [.int .i64, .int .i64] (fun J15 => fun (n13 : Int) (n14 : Int) w16 => BIf (decide ((n14 : Int) < n10)) (LetW (w16.alloc (.cells #[.int .i64 5, .int .i64 3, .int .i64 1] 2)) fun w17 => CallW Try.prog 79 #[.pointer a0, .int .i64 3] w17 fun v18 w19 => ∃ n20 : Int, v18 = .int .i64 n20 ∧ 0 ≤ (n20 : Int) ∧ (n20 : Int) < ((3 : Nat) : Int) ∧ ∃ q21 : Addr, (some ⟨w16.heap.size, 0, none⟩ : Option Addr) = some q21 ∧ ∃ n22 : Int, w19.cell? (q21.add (Int.toNat n20 * 1)) = some (.int .i64 n22) ∧ LetW (w19.alloc (.cells #[.int .i64 0, .int .i64 0, .int .i64 0, .slice none 0 0] 107)) fun w23 => MayN w23 ⟨w19.heap.size, 0, none⟩ 4 ∧ LetW (puts w23 ⟨w19.heap.size, 0, none⟩ 0 [.int .i64 n13, .int .i64 n22, .int .i64 0, .slice none 0 0]) fun w24 => JoinW [] (fun J25 => BIf ((n14 : Int) == 0) (May w24 ⟨w19.heap.size, 1, none⟩ ∧ LetW (w24.setCell ⟨w19.heap.size, 1, none⟩ (.int .i64 5)) fun w87 => J25 w87) (J25 w24)) (fun w26 => CallW Try.prog 79 #[.pointer a0, .int .i64 60] w26 fun v27 w28 => ∃ n29 : Int, v27 = .int .i64 n29 ∧ CallW Try.prog 136 #[.pointer a0, .int .i64 n29] w28 fun v30 w31 => ∃ l32 : Sl, v30 = .slice l32.a l32.len l32.cap ∧ May w31 ⟨w19.heap.size, 3, none⟩ ∧ LetW (w31.setCell ⟨w19.heap.size, 3, none⟩ (.slice l32.a l32.len l32.cap)) fun w33 => JoinW [] (fun J34 => ∃ n79 : Int, w33.cell? ⟨w19.heap.size, 1, none⟩ = some (.int .i64 n79) ∧ BIf ((n79 : Int) == 5) (CallW Try.prog 79 #[.pointer a0, .int .i64 12] w33 fun v80 w81 => ∃ n82 : Int, v80 = .int .i64 n82 ∧ CallW Try.prog 137 #[.pointer a0, .int .i64 (IntKind.wrap .i64 (1 + n82))] w81 fun v83 w84 => ∃ l85 : Sl, v83 = .slice l85.a l85.len l85.cap ∧ May w84 ⟨w19.heap.size, 3, none⟩ ∧ LetW (w84.setCell ⟨w19.heap.size, 3, none⟩ (.slice l85.a l85.len l85.cap)) fun w86 => J34 w86) (J34 w33)) (fun w35 => ∃ l36 : Sl, w35.drew.cell? ⟨w19.heap.size, 3, none⟩ = some (.slice l36.a l36.len l36.cap) ∧ CallW Try.prog 79 #[.pointer a0, .int .i64 3] w35.drew fun v37 w38 => ∃ n39 : Int, v37 = .int .i64 n39 ∧ ((.int .i64 ((l36.len : Nat) : Int) : Value) = (.int .i64 ((l36.len : Nat) : Int) : Value)) ∧ (∃ l40 : Sl, w38.cell? ⟨w19.heap.size, 3, none⟩ = some (.slice l40.a l40.len l40.cap) ∧ (.slice l40.a l40.len l40.cap : Value) = (.slice l36.a l36.len l36.cap : Value)) ∧ CallW Try.prog 79 #[.pointer a0, .int .i64 300] w38 fun v41 w42 => ∃ n43 : Int, v41 = .int .i64 n43 ∧ ((.int .i64 ((l36.len : Nat) : Int) : Value) = (.int .i64 ((l36.len : Nat) : Int) : Value)) ∧ (∃ l44 : Sl, w42.cell? ⟨w19.heap.size, 3, none⟩ = some (.slice l44.a l44.len l44.cap) ∧ (.slice l44.a l44.len l44.cap : Value) = (.slice l36.a l36.len l36.cap : Value)) ∧ May w42 ⟨w19.heap.size, 2, none⟩ ∧ LetW (w42.setCell ⟨w19.heap.size, 2, none⟩ (.int .i64 (IntKind.wrap .i64 (((l36.len : Nat) : Int) + (IntKind.wrap .i64 (n39 * n43)))))) fun w45 => JoinW [] (fun J46 => ∃ n77 : Int, w45.cell? ⟨w19.heap.size, 2, none⟩ = some (.int .i64 n77) ∧ BIf ((n77 : Int) == 0) (May w45 ⟨w19.heap.size, 2, none⟩ ∧ LetW (w45.setCell ⟨w19.heap.size, 2, none⟩ (.int .i64 1)) fun w78 => J46 w78) (J46 w45)) (fun w47 => JoinW [] (fun J48 => BIf ((n14 : Int) == 0) (∃ n72 : Int, w47.cell? ⟨w19.heap.size, 2, none⟩ = some (.int .i64 n72) ∧ (4 : Int) ≠ 0 ∧ CallW Try.prog 79 #[.pointer a0, .int .i64 (IntKind.wrap .i64 (Int.tdiv (IntKind.wrap .i64 (n72 + 3)) 4))] w47 fun v73 w74 => ∃ n75 : Int, v73 = .int .i64 n75 ∧ May w74 ⟨w1.heap.size, 0, none⟩ ∧ LetW (w74.setCell ⟨w1.heap.size, 0, none⟩ (.int .i64 (IntKind.wrap .i64 (n13 + (IntKind.wrap .i64 (4 * n75)))))) fun w76 => J48 w76) (J48 w47)) (fun w49 => ∃ l50 : Sl, w49.cell? ⟨w1.heap.size, 1, none⟩ = some (.slice l50.a l50.len l50.cap) ∧ ∃ n51 : Int, w49.cell? ⟨w19.heap.size, 0, none⟩ = some (.int .i64 n51) ∧ ∃ n52 : Int, w49.cell? ⟨w19.heap.size, 1, none⟩ = some (.int .i64 n52) ∧ ∃ n53 : Int, w49.cell? ⟨w19.heap.size, 2, none⟩ = some (.int .i64 n53) ∧ ∃ l54 : Sl, w49.cell? ⟨w19.heap.size, 3, none⟩ = some (.slice l54.a l54.len l54.cap) ∧ LetW (w49.alloc (.cells #[.int .i64 n51, .int .i64 n52, .int .i64 n53, .slice l54.a l54.len l54.cap] 107)) fun w55 => AppendW 107 ti107 l50 ⟨some ⟨w49.heap.size, 0, none⟩, 1, 1⟩ w55 fun l56 w57 => May w57 ⟨w1.heap.size, 1, none⟩ ∧ LetW (w57.setCell ⟨w1.heap.size, 1, none⟩ (.slice l56.a l56.len l56.cap)) fun w58 => ∃ n59 : Int, w58.cell? ⟨w19.heap.size, 2, none⟩ = some (.int .i64 n59) ∧ CallW Try.prog 72 #[.int .i64 (IntKind.wrap .i64 (n13 + n59))] w58 fun v60 w61 => ∃ n62 : Int, v60 = .int .i64 n62 ∧ CallW Try.prog 79 #[.pointer a0, .int .i64 2] w61 fun v63 w64 => ∃ n65 : Int, v63 = .int .i64 n65 ∧ CallW Try.prog 79 #[.pointer a0, .int .i64 8] w64 fun v66 w67 => ∃ n68 : Int, v66 = .int .i64 n68 ∧ CallW Try.prog 80 #[.pointer a0, .int .i64 8] w67 fun v69 w70 => ∃ b71 : Bool, v69 = .bool b71 ∧ BIf b71 (J15 (IntKind.wrap .i64 ((IntKind.wrap .i64 (n62 + (IntKind.wrap .i64 ((IntKind.wrap .i64 (256 * n65)) * n68)))) - 256)) (IntKind.wrap .i64 (n14 + 1)) w70) (J15 (IntKind.wrap .i64 (n62 + (IntKind.wrap .i64 ((IntKind.wrap .i64 (256 * n65)) * n68)))) (IntKind.wrap .i64 (n14 + 1)) w70)))))) (JoinW [] (fun J88 => CallW Try.prog 80 #[.pointer a0, .int .i64 12] w16 fun v95 w96 => ∃ b97 : Bool, v95 = .bool b97 ∧ BIf b97 (∃ l98 : Sl, w96.cell? ⟨w1.heap.size, 1, none⟩ = some (.slice l98.a l98.len l98.cap) ∧ ∃ l99 : Sl, w96.drew.cell? ⟨w1.heap.size, 1, none⟩ = some (.slice l99.a l99.len l99.cap) ∧ ∃ l100 : Sl, w96.drew.cell? ⟨w1.heap.size, 1, none⟩ = some (.slice l100.a l100.len l100.cap) ∧ 0 ≤ (IntKind.wrap .i64 (((l98.len : Nat) : Int) - 1) : Int) ∧ (IntKind.wrap .i64 (((l98.len : Nat) : Int) - 1) : Int) < ((l100.len : Nat) : Int) ∧ ∃ q101 : Addr, (l100.a : Option Addr) = some q101 ∧ ∃ n102 : Int, w96.drew.cell? ((q101.add (Int.toNat (IntKind.wrap .i64 (((l98.len : Nat) : Int) - 1)) * 4)).add 2) = some (.int .i64 n102) ∧ CallW Try.prog 72 #[.int .i64 n102] w96.drew fun v103 w104 => ∃ n105 : Int, v103 = .int .i64 n105 ∧ (∃ l106 : Sl, w104.cell? ⟨w1.heap.size, 1, none⟩ = some (.slice l106.a l106.len l106.cap) ∧ (.slice l106.a l106.len l106.cap : Value) = (.slice l99.a l99.len l99.cap : Value)) ∧ CallW Try.prog 79 #[.pointer a0, .int .i64 2] w104 fun v107 w108 => ∃ n109 : Int, v107 = .int .i64 n109 ∧ (∃ l110 : Sl, w108.cell? ⟨w1.heap.size, 1, none⟩ = some (.slice l110.a l110.len l110.cap) ∧ (.slice l110.a l110.len l110.cap : Value) = (.slice l99.a l99.len l99.cap : Value)) ∧ 0 ≤ (IntKind.wrap .i64 (((l98.len : Nat) : Int) - 1) : Int) ∧ (IntKind.wrap .i64 (((l98.len : Nat) : Int) - 1) : Int) < ((l99.len : Nat) : Int) ∧ ∃ q111 : Addr, (l99.a : Option Addr) = some q111 ∧ May w108 ((q111.add (Int.toNat (IntKind.wrap .i64 (((l98.len : Nat) : Int) - 1)) * 4)).add 0) ∧ LetW (w108.setCell ((q111.add (Int.toNat (IntKind.wrap .i64 (((l98.len : Nat) : Int) - 1)) * 4)).add 0) (.int .i64 (IntKind.wrap .i64 ((IntKind.wrap .i64 (4194304 - n105)) + (IntKind.wrap .i64 (256 * n109)))))) fun w112 => J88 w112) (J88 w96)) (fun w89 => ∃ n90 : Int, w89.cell? ⟨w1.heap.size, 0, none⟩ = some (.int .i64 n90) ∧ ∃ l91 : Sl, w89.cell? ⟨w1.heap.size, 1, none⟩ = some (.slice l91.a l91.len l91.cap) ∧ MayN w89 ⟨w.heap.size, 0, none⟩ 2 ∧ LetW (puts w89 ⟨w.heap.size, 0, none⟩ 0 [.int .i64 n90, .slice l91.a l91.len l91.cap]) fun w92 => ∃ n93 : Int, w92.cell? ⟨w.heap.size, 0, none⟩ = some (.int .i64 n93) ∧ ∃ l94 : Sl, w92.cell? ⟨w.heap.size, 1, none⟩ = some (.slice l94.a l94.len l94.cap) ∧ K (.agg #[.int .i64 n93, .slice l94.a l94.len l94.cap]) w92))) ((IntKind.wrap .i64 (256 * (IntKind.wrap .i64 (1 + n6))) : Int), ((0 : Int), ())) w12)
theorem eq78 (a0 : Option Addr) (w : World) (K : Value → World → Prop) : denFn Try.prog tt Try.f78 an78 [.pointer a0] w K = W78 a0 w K := by kernel_rfl
theorem ok78 : OkFn Try.prog 78 := ⟨Try.f78, Try.func78, by kernel_rfl, by kernel_rfl⟩
theorem go78 {a0 : Option Addr} {w : World} {K : Value → World → Prop} (h : W78 a0 w K) : CallW Try.prog 78 #[.pointer a0] w K :=
  .inl ⟨ok78, denFn_sound tt_ok mix Try.func78 (by kernel_rfl) (eq78 a0 w K ▸ h)⟩

/- loop.example/g00008/spec.l1Below -/
def an79 : Ann := (.seq .leaf (.seq (.seq .leaf (.cond (.seq .leaf .leaf) .leaf)) (.seq (.seq .leaf (.cond (.seq .leaf .leaf) .leaf)) (.seq .leaf (.seq .leaf (.seq .leaf (.seq .leaf .leaf)))))))
def W79 (a0 : Option Addr) (a1 : Int) (w : World) (K : Value → World → Prop) : Prop :=
  BIf (decide ((a1 : Int) ≤ 0)) (K (.int .i64 0) w) (BIf (decide ((a1 : Int) ≤ 256)) (CallW Try.prog 138 #[.pointer a0] w fun v1 w2 => ∃ n3 : Int, v1 = .int .i64 n3 ∧ (a1 : Int) ≠ 0 ∧ K (.int .i64 (Int.tmod n3 a1)) w2) (CallW Try.prog 138 #[.pointer a0] w fun v4 w5 => ∃ n6 : Int, v4 = .int .i64 n6 ∧ CallW Try.prog 138 #[.pointer a0] w5 fun v7 w8 => ∃ n9 : Int, v7 = .int .i64 n9 ∧ CallW Try.prog 138 #[.pointer a0] w8 fun v10 w11 => ∃ n12 : Int, v10 = .int .i64 n12 ∧ (a1 : Int) ≠ 0 ∧ K (.int .i64 (Int.tmod (IntKind.wrap .i64 ((IntKind.wrap .i64 ((IntKind.wrap .i64 (n6 * 65536)) + (IntKind.wrap .i64 (n9 * 256)))) + n12)) a1)) w11))
theorem eq79 (a0 : Option Addr) (a1 : Int) (w : World) (K : Value → World → Prop) : denFn Try.prog tt Try.f79 an79 [.pointer a0, .int .i64 a1] w K = W79 a0 a1 w K := by kernel_rfl
theorem ok79 : OkFn Try.prog 79 := ⟨Try.f79, Try.func79, by kernel_rfl, by kernel_rfl⟩
theorem go79 {a0 : Option Addr} {a1 : Int} {w : World} {K : Value → World → Prop} (h : W79 a0 a1 w K) : CallW Try.prog 79 #[.pointer a0, .int .i64 a1] w K :=
  .inl ⟨ok79, denFn_sound tt_ok mix Try.func79 (by kernel_rfl) (eq79 a0 a1 w K ▸ h)⟩

/- loop.example/g00008/spec.l1Once -/
def an80 : Ann := (.seq .leaf (.seq .leaf .leaf))
def W80 (a0 : Option Addr) (a1 : Int) (w : World) (K : Value → World → Prop) : Prop :=
  CallW Try.prog 79 #[.pointer a0, .int .i64 a1] w fun v1 w2 => ∃ n3 : Int, v1 = .int .i64 n3 ∧ K (.bool ((n3 : Int) == 0)) w2
theorem eq80 (a0 : Option Addr) (a1 : Int) (w : World) (K : Value → World → Prop) : denFn Try.prog tt Try.f80 an80 [.pointer a0, .int .i64 a1] w K = W80 a0 a1 w K := by kernel_rfl
theorem ok80 : OkFn Try.prog 80 := ⟨Try.f80, Try.func80, by kernel_rfl, by kernel_rfl⟩
theorem go80 {a0 : Option Addr} {a1 : Int} {w : World} {K : Value → World → Prop} (h : W80 a0 a1 w K) : CallW Try.prog 80 #[.pointer a0, .int .i64 a1] w K :=
  .inl ⟨ok80, denFn_sound tt_ok mix Try.func80 (by kernel_rfl) (eq80 a0 a1 w K ▸ h)⟩

/- loop.example/g00008/spec.l5Num -/
def an81 : Ann := (.seq .leaf (.seq .leaf (.seq .leaf (.seq (.seq .leaf (.in_ (.loop 2 [(5, .slice), (6, .int .u64), (7, .int .i64)] (.seq (.seq .leaf (.cond .leaf .leaf)) (.seq (.in_ (.seq .leaf .leaf)) .leaf))))) (.seq .leaf .leaf)))))
def W81 (a0 : Int) (a1 : Int) (w : World) (K : Value → World → Prop) : Prop :=
  LetW (w.alloc (.cells #[] 5)) fun w1 => LoopW [.slice, .int .u64, .int .i64] (fun J5 => fun (l2 : Sl) (n3 : Int) (n4 : Int) w6 => BIf (decide ((n4 : Int) < a1)) ((256 : Int) ≠ 0 ∧ LetW (w6.alloc (.cells #[.int .u8 (IntKind.wrap .u8 (Int.tmod n3 256))] 5)) fun w7 => AppendW 5 ti5 l2 ⟨some ⟨w6.heap.size, 0, none⟩, 1, 1⟩ w7 fun l8 w9 => (256 : Int) ≠ 0 ∧ J5 l8 (IntKind.wrap .u64 (Int.tdiv n3 256)) (IntKind.wrap .i64 (n4 + 1)) w9) (K (.slice l2.a l2.len l2.cap) w6)) ((⟨some ⟨w.heap.size, 0, none⟩, 0, 0⟩ : Sl), ((IntKind.wrap .u64 a0 : Int), ((0 : Int), ()))) w1
theorem eq81 (a0 : Int) (a1 : Int) (w : World) (K : Value → World → Prop) : denFn Try.prog tt Try.f81 an81 [.int .i64 a0, .int .i64 a1] w K = W81 a0 a1 w K := by kernel_rfl
theorem ok81 : OkFn Try.prog 81 := ⟨Try.f81, Try.func81, by kernel_rfl, by kernel_rfl⟩
theorem go81 {a0 : Int} {a1 : Int} {w : World} {K : Value → World → Prop} (h : W81 a0 a1 w K) : CallW Try.prog 81 #[.int .i64 a0, .int .i64 a1] w K :=
  .inl ⟨ok81, denFn_sound tt_ok mix Try.func81 (by kernel_rfl) (eq81 a0 a1 w K ▸ h)⟩

/- loop.example/g00008/spec.Crc -/
def an82 : Ann := (.seq .leaf (.seq .leaf (.seq (.seq .leaf (.in_ (.loop 1 [(3, .int .u64), (4, .int .i64)] (.seq (.seq .leaf (.cond .leaf .leaf)) (.seq (.in_ (.seq .leaf (.seq .leaf (.in_ (.loop 17 [(3, .int .u64), (5, .int .i64)] (.seq (.seq .leaf (.cond .leaf .leaf)) (.seq (.in_ (.seq .leaf (.seq .leaf (.seq .leaf (.cond .leaf .leaf))))) .leaf))))))) .leaf))))) (.seq .leaf .leaf))))
def W82 (a0 : Sl) (w : World) (K : Value → World → Prop) : Prop :=
  LoopW [.int .u64, .int .i64] (fun J3 => fun (n1 : Int) (n2 : Int) w4 => BIf (decide ((n2 : Int) < ((a0.len : Nat) : Int))) (0 ≤ (n2 : Int) ∧ (n2 : Int) < ((a0.len : Nat) : Int) ∧ ∃ q5 : Addr, (a0.a : Option Addr) = some q5 ∧ ∃ n6 : Int, w4.cell? (q5.add (Int.toNat n2 * 1)) = some (.int .u8 n6) ∧ LoopW [.int .u64, .int .i64] (fun J9 => fun (n7 : Int) (n8 : Int) w10 => BIf (decide ((n8 : Int) < 8)) ((2 : Int) ≠ 0 ∧ (2 : Int) ≠ 0 ∧ BIf ((Int.tmod n7 2 : Int) == 1) (J9 (xorI .u64 (IntKind.wrap .u64 (Int.tdiv n7 2)) 3988292384) (IntKind.wrap .i64 (n8 + 1)) w10) (J9 (IntKind.wrap .u64 (Int.tdiv n7 2)) (IntKind.wrap .i64 (n8 + 1)) w10)) (J3 n7 (IntKind.wrap .i64 (n2 + 1)) w10)) ((xorI .u64 n1 (IntKind.wrap .u64 n6) : Int), ((0 : Int), ())) w4) (K (.int .u64 (xorI .u64 n1 4294967295)) w4)) ((4294967295 : Int), ((0 : Int), ())) w
theorem eq82 (a0 : Sl) (w : World) (K : Value → World → Prop) : denFn Try.prog tt Try.f82 an82 [.slice a0.a a0.len a0.cap] w K = W82 a0 w K := by kernel_rfl
theorem ok82 : OkFn Try.prog 82 := ⟨Try.f82, Try.func82, by kernel_rfl, by kernel_rfl⟩
theorem go82 {a0 : Sl} {w : World} {K : Value → World → Prop} (h : W82 a0 w K) : CallW Try.prog 82 #[.slice a0.a a0.len a0.cap] w K :=
  .inl ⟨ok82, denFn_sound tt_ok mix Try.func82 (by kernel_rfl) (eq82 a0 w K ▸ h)⟩

/- loop.example/g00008/spec.l5Get -/
def an83 : Ann := (.seq .leaf (.seq .leaf (.seq (.seq .leaf (.in_ (.loop 3 [(7, .int .u64), (8, .int .i64)] (.seq (.seq .leaf (.cond .leaf .leaf)) (.seq (.in_ .leaf) .leaf))))) (.seq .leaf .leaf))))
def W83 (a0 : Sl) (a1 : Int) (a2 : Int) (w : World) (K : Value → World → Prop) : Prop :=
  LoopW [.int .u64, .int .i64] (fun J3 => fun (n1 : Int) (n2 : Int) w4 => BIf (decide ((n2 : Int) ≥ 0)) (0 ≤ (IntKind.wrap .i64 (a1 + n2) : Int) ∧ (IntKind.wrap .i64 (a1 + n2) : Int) < ((a0.len : Nat) : Int) ∧ ∃ q5 : Addr, (a0.a : Option Addr) = some q5 ∧ ∃ n6 : Int, w4.cell? (q5.add (Int.toNat (IntKind.wrap .i64 (a1 + n2)) * 1)) = some (.int .u8 n6) ∧ J3 (IntKind.wrap .u64 ((IntKind.wrap .u64 (n1 * 256)) + (IntKind.wrap .u64 n6))) (IntKind.wrap .i64 (n2 - 1)) w4) (K (.int .i64 (IntKind.wrap .i64 n1)) w4)) ((0 : Int), ((IntKind.wrap .i64 (a2 - 1) : Int), ())) w
theorem eq83 (a0 : Sl) (a1 : Int) (a2 : Int) (w : World) (K : Value → World → Prop) : denFn Try.prog tt Try.f83 an83 [.slice a0.a a0.len a0.cap, .int .i64 a1, .int .i64 a2] w K = W83 a0 a1 a2 w K := by kernel_rfl
theorem ok83 : OkFn Try.prog 83 := ⟨Try.f83, Try.func83, by kernel_rfl, by kernel_rfl⟩
theorem go83 {a0 : Sl} {a1 : Int} {a2 : Int} {w : World} {K : Value → World → Prop} (h : W83 a0 a1 a2 w K) : CallW Try.prog 83 #[.slice a0.a a0.len a0.cap, .int .i64 a1, .int .i64 a2] w K :=
  .inl ⟨ok83, denFn_sound tt_ok mix Try.func83 (by kernel_rfl) (eq83 a0 a1 a2 w K ▸ h)⟩

/- loop.example/g00008/spec.l5Take -/
def an84 : Ann := (.seq .leaf (.seq .leaf (.seq .leaf (.seq .leaf (.seq (.seq .leaf (.cond (.seq .leaf .leaf) .leaf)) (.seq (.seq .leaf (.in_ (.loop 85 [(5, .int .i64), (7, .int .i64)] (.seq (.seq .leaf (.cond .leaf .leaf)) (.seq (.in_ (.seq .leaf (.seq .leaf (.seq (.seq .leaf (.cond (.seq .leaf .leaf) .leaf)) (.seq (.drawT [0, 1, 0, 0, 12, 0, 0, 64, 252, 0, 0, 1024, 3584, 7680, 15872, 0, 0, 0, 0, 0, 786432, 2031616, 4162044, 8388604, 16777212, 33554431, 67108863, 134217727] [0, 1, 2, 3, 5, 6, 7, 9, 10, 11, 12, 13, 14, 16, 17, 18, 19, 20, 21] (.alt [4] (.alt [8] (.alt [15] (.alt [22, 23] (.alt [24] (.alt [25, 26] (.alt [27] .leaf .stop) .stop) .stop) .stop) .stop) (.alt [15] (.alt [8] (.alt [22, 23] (.alt [24] (.alt [25, 26] (.alt [27] .leaf .stop) .stop) .stop) .stop) .stop) .stop)) (.alt [15] (.alt [4] (.alt [8] (.alt [22, 23] (.alt [24] (.alt [25, 26] (.alt [27] .leaf .stop) .stop) .stop) .stop) .stop) .stop) .stop))) .leaf))))) .leaf))))) (.seq .leaf .leaf)))))))
def W84 (a0 : Sl) (w : World) (K : Value → World → Prop) : Prop :=
  LetW (w.alloc (.cells #[.int .i64 0, .slice none 0 0] 45)) fun w1 => 0 ≤ (5 : Int) ∧ (5 : Int) < ((a0.len : Nat) : Int) ∧ ∃ q2 : Addr, (a0.a : Option Addr) = some q2 ∧ ∃ n3 : Int, w1.cell? (q2.add (Int.toNat 5 * 1)) = some (.int .u8 n3) ∧ CallW Try.prog 83 #[.slice a0.a a0.len a0.cap, .int .i64 8, .int .i64 8] w1 fun v4 w5 => ∃ n6 : Int, v4 = .int .i64 n6 ∧ LetW (w5.alloc (.cells #[.int .i64 0, .slice none 0 0] 45)) fun w7 => MayN w7 ⟨w5.heap.size, 0, none⟩ 2 ∧ LetW (puts w7 ⟨w5.heap.size, 0, none⟩ 0 [.int .i64 n6, .slice none 0 0]) fun w8 => BIf (decide ((IntKind.wrap .i64 ((IntKind.wrap .i64 (16 + (IntKind.wrap .i64 (16 * (IntKind.wrap .i64 n3))))) + 4) : Int) > ((a0.len : Nat) : Int))) (∃ n9 : Int, w8.cell? ⟨w5.heap.size, 0, none⟩ = some (.int .i64 n9) ∧ ∃ l10 : Sl, w8.cell? ⟨w5.heap.size, 1, none⟩ = some (.slice l10.a l10.len l10.cap) ∧ MayN w8 ⟨w.heap.size, 0, none⟩ 2 ∧ LetW (puts w8 ⟨w.heap.size, 0, none⟩ 0 [.int .i64 n9, .slice l10.a l10.len l10.cap]) fun w11 => ∃ n12 : Int, w11.cell? ⟨w.heap.size, 0, none⟩ = some (.int .i64 n12) ∧ ∃ l13 : Sl, w11.cell? ⟨w.heap.size, 1, none⟩ = some (.slice l13.a l13.len l13.cap) ∧ K (.tuple #[.agg #[.int .i64 n12, .slice l13.a l13.len l13.cap], .bool false]) w11) (LoopW [.int .i64, .int .i64] (fun J16 => fun (n14 : Int) (n15 : Int) w17 => BIf (decide ((n15 : Int) < (IntKind.wrap .i64 n3))) (CallW Try.prog 83 #[.slice a0.a a0.len a0.cap, .int .i64 (IntKind.wrap .i64 ((IntKind.wrap .i64 (16 + (IntKind.wrap .i64 (16 * n15)))) + 8)), .int .i64 4] w17 fun v18 w19 => ∃ n20 : Int, v18 = .int .i64 n20 ∧ BIf (decide ((IntKind.wrap .i64 ((IntKind.wrap .i64 (n14 + n20)) + 4) : Int) > ((a0.len : Nat) : Int))) (∃ n21 : Int, w19.cell? ⟨w5.heap.size, 0, none⟩ = some (.int .i64 n21) ∧ ∃ l22 : Sl, w19.cell? ⟨w5.heap.size, 1, none⟩ = some (.slice l22.a l22.len l22.cap) ∧ MayN w19 ⟨w.heap.size, 0, none⟩ 2 ∧ LetW (puts w19 ⟨w.heap.size, 0, none⟩ 0 [.int .i64 n21, .slice l22.a l22.len l22.cap]) fun w23 => ∃ n24 : Int, w23.cell? ⟨w.heap.size, 0, none⟩ = some (.int .i64 n24) ∧ ∃ l25 : Sl, w23.cell? ⟨w.heap.size, 1, none⟩ = some (.slice l25.a l25.len l25.cap) ∧ K (.tuple #[.agg #[.int .i64 n24, .slice l25.a l25.len l25.cap], .bool false]) w23) (∃ l26 : Sl, w19.drew.cell? ⟨w5.heap.size, 1, none⟩ = some (.slice l26.a l26.len l26.cap) ∧ 0 ≤ (IntKind.wrap .i64 ((IntKind.wrap .i64 (16 + (IntKind.wrap .i64 (16 * n15)))) + 12) : Int) ∧ (IntKind.wrap .i64 ((IntKind.wrap .i64 (16 + (IntKind.wrap .i64 (16 * n15)))) + 12) : Int) < ((a0.len : Nat) : Int) ∧ ∃ q27 : Addr, (a0.a : Option Addr) = some q27 ∧ ∃ n28 : Int, w19.drew.cell? (q27.add (Int.toNat (IntKind.wrap .i64 ((IntKind.wrap .i64 (16 + (IntKind.wrap .i64 (16 * n15)))) + 12)) * 1)) = some (.int .u8 n28) ∧ 0 ≤ (IntKind.wrap .i64 (n14 + n20) : Int) ∧ (IntKind.wrap .i64 (n14 + n20) : Int) ≤ ((a0.cap : Nat) : Int) ∧ 0 ≤ (n14 : Int) ∧ (n14 : Int) ≤ (IntKind.wrap .i64 (n14 + n20) : Int) ∧ (CallW Try.prog 83 #[.slice a0.a a0.len a0.cap, .int .i64 (IntKind.wrap .i64 (16 + (IntKind.wrap .i64 (16 * n15)))), .int .i64 4] w19.drew fun v51 w52 => ∃ n53 : Int, v51 = .int .i64 n53 ∧ ((.int .i64 (IntKind.wrap .i64 n28) : Value) = (.int .i64 (IntKind.wrap .i64 n28) : Value)) ∧ (∃ n54 : Int, w52.cell? (q27.add (Int.toNat (IntKind.wrap .i64 ((IntKind.wrap .i64 (16 + (IntKind.wrap .i64 (16 * n15)))) + 12)) * 1)) = some (.int .u8 n54) ∧ (.int .u8 n54 : Value) = (.int .u8 n28 : Value)) ∧ (∃ l55 : Sl, w52.cell? ⟨w5.heap.size, 1, none⟩ = some (.slice l55.a l55.len l55.cap) ∧ (.slice l55.a l55.len l55.cap : Value) = (.slice l26.a l26.len l26.cap : Value)) ∧ (CallW Try.prog 83 #[.slice a0.a a0.len a0.cap, .int .i64 (IntKind.wrap .i64 ((IntKind.wrap .i64 (16 + (IntKind.wrap .i64 (16 * n15)))) + 4)), .int .i64 4] w52 fun v73 w74 => ∃ n75 : Int, v73 = .int .i64 n75 ∧ ((.int .i64 (IntKind.wrap .i64 n28) : Value) = (.int .i64 (IntKind.wrap .i64 n28) : Value)) ∧ (∃ n76 : Int, w74.cell? (q27.add (Int.toNat (IntKind.wrap .i64 ((IntKind.wrap .i64 (16 + (IntKind.wrap .i64 (16 * n15)))) + 12)) * 1)) = some (.int .u8 n76) ∧ (.int .u8 n76 : Value) = (.int .u8 n28 : Value)) ∧ (∃ l77 : Sl, w74.cell? ⟨w5.heap.size, 1, none⟩ = some (.slice l77.a l77.len l77.cap) ∧ (.slice l77.a l77.len l77.cap : Value) = (.slice l26.a l26.len l26.cap : Value)) ∧ (LetW (w74.alloc (.cells #[] 5)) fun w78 => ((.int .i64 (IntKind.wrap .i64 n28) : Value) = (.int .i64 (IntKind.wrap .i64 n28) : Value)) ∧ (∃ n79 : Int, w78.cell? (q27.add (Int.toNat (IntKind.wrap .i64 ((IntKind.wrap .i64 (16 + (IntKind.wrap .i64 (16 * n15)))) + 12)) * 1)) = some (.int .u8 n79) ∧ (.int .u8 n79 : Value) = (.int .u8 n28 : Value)) ∧ (∃ l80 : Sl, w78.cell? ⟨w5.heap.size, 1, none⟩ = some (.slice l80.a l80.len l80.cap) ∧ (.slice l80.a l80.len l80.cap : Value) = (.slice l26.a l26.len l26.cap : Value)) ∧ (AppendW 5 ti5 ⟨some ⟨w74.heap.size, 0, none⟩, 0, 0⟩ ⟨cutA a0.a a0.cap (Int.toNat n14) 1, Int.toNat (IntKind.wrap .i64 (n14 + n20)) - Int.toNat n14, a0.cap - Int.toNat n14⟩ w78 fun l81 w82 => ((.int .i64 (IntKind.wrap .i64 n28) : Value) = (.int .i64 (IntKind.wrap .i64 n28) : Value)) ∧ (∃ n83 : Int, w82.cell? (q27.add (Int.toNat (IntKind.wrap .i64 ((IntKind.wrap .i64 (16 + (IntKind.wrap .i64 (16 * n15)))) + 12)) * 1)) = some (.int .u8 n83) ∧ (.int .u8 n83 : Value) = (.int .u8 n28 : Value)) ∧ (∃ l84 : Sl, w82.cell? ⟨w5.heap.size, 1, none⟩ = some (.slice l84.a l84.len l84.cap) ∧ (.slice l84.a l84.len l84.cap : Value) = (.slice l26.a l26.len l26.cap : Value)) ∧ (LetW (w82.alloc (.cells #[.int .i64 n53, .int .i64 (IntKind.wrap .i64 n28), .int .i64 n75, .slice l81.a l81.len l81.cap] 107)) fun w85 => (∃ l86 : Sl, w85.cell? ⟨w5.heap.size, 1, none⟩ = some (.slice l86.a l86.len l86.cap) ∧ (.slice l86.a l86.len l86.cap : Value) = (.slice l26.a l26.len l26.cap : Value)) ∧ (AppendW 107 ti107 l26 ⟨some ⟨w82.heap.size, 0, none⟩, 1, 1⟩ w85 fun l87 w88 => (May w88 ⟨w5.heap.size, 1, none⟩ ∧ LetW (w88.setCell ⟨w5.heap.size, 1, none⟩ (.slice l87.a l87.len l87.cap)) fun w89 => J16 (IntKind.wrap .i64 (n14 + n20)) (IntKind.wrap .i64 (n15 + 1)) w89) ∧ (True)) ∧ (True)) ∧ (True)) ∧ (True)) ∧ (True)) ∧ ((LetW (w52.alloc (.cells #[] 5)) fun w56 => ((.int .i64 (IntKind.wrap .i64 n28) : Value) = (.int .i64 (IntKind.wrap .i64 n28) : Value)) ∧ (∃ n57 : Int, w56.cell? (q27.add (Int.toNat (IntKind.wrap .i64 ((IntKind.wrap .i64 (16 + (IntKind.wrap .i64 (16 * n15)))) + 12)) * 1)) = some (.int .u8 n57) ∧ (.int .u8 n57 : Value) = (.int .u8 n28 : Value)) ∧ (∃ l58 : Sl, w56.cell? ⟨w5.heap.size, 1, none⟩ = some (.slice l58.a l58.len l58.cap) ∧ (.slice l58.a l58.len l58.cap : Value) = (.slice l26.a l26.len l26.cap : Value)) ∧ (CallW Try.prog 83 #[.slice a0.a a0.len a0.cap, .int .i64 (IntKind.wrap .i64 ((IntKind.wrap .i64 (16 + (IntKind.wrap .i64 (16 * n15)))) + 4)), .int .i64 4] w56 fun v59 w60 => ∃ n61 : Int, v59 = .int .i64 n61 ∧ ((.int .i64 (IntKind.wrap .i64 n28) : Value) = (.int .i64 (IntKind.wrap .i64 n28) : Value)) ∧ (∃ n62 : Int, w60.cell? (q27.add (Int.toNat (IntKind.wrap .i64 ((IntKind.wrap .i64 (16 + (IntKind.wrap .i64 (16 * n15)))) + 12)) * 1)) = some (.int .u8 n62) ∧ (.int .u8 n62 : Value) = (.int .u8 n28 : Value)) ∧ (∃ l63 : Sl, w60.cell? ⟨w5.heap.size, 1, none⟩ = some (.slice l63.a l63.len l63.cap) ∧ (.slice l63.a l63.len l63.cap : Value) = (.slice l26.a l26.len l26.cap : Value)) ∧ (AppendW 5 ti5 ⟨some ⟨w52.heap.size, 0, none⟩, 0, 0⟩ ⟨cutA a0.a a0.cap (Int.toNat n14) 1, Int.toNat (IntKind.wrap .i64 (n14 + n20)) - Int.toNat n14, a0.cap - Int.toNat n14⟩ w60 fun l64 w65 => ((.int .i64 (IntKind.wrap .i64 n28) : Value) = (.int .i64 (IntKind.wrap .i64 n28) : Value)) ∧ (∃ n66 : Int, w65.cell? (q27.add (Int.toNat (IntKind.wrap .i64 ((IntKind.wrap .i64 (16 + (IntKind.wrap .i64 (16 * n15)))) + 12)) * 1)) = some (.int .u8 n66) ∧ (.int .u8 n66 : Value) = (.int .u8 n28 : Value)) ∧ (∃ l67 : Sl, w65.cell? ⟨w5.heap.size, 1, none⟩ = some (.slice l67.a l67.len l67.cap) ∧ (.slice l67.a l67.len l67.cap : Value) = (.slice l26.a l26.len l26.cap : Value)) ∧ (LetW (w65.alloc (.cells #[.int .i64 n53, .int .i64 (IntKind.wrap .i64 n28), .int .i64 n61, .slice l64.a l64.len l64.cap] 107)) fun w68 => (∃ l69 : Sl, w68.cell? ⟨w5.heap.size, 1, none⟩ = some (.slice l69.a l69.len l69.cap) ∧ (.slice l69.a l69.len l69.cap : Value) = (.slice l26.a l26.len l26.cap : Value)) ∧ (AppendW 107 ti107 l26 ⟨some ⟨w65.heap.size, 0, none⟩, 1, 1⟩ w68 fun l70 w71 => (May w71 ⟨w5.heap.size, 1, none⟩ ∧ LetW (w71.setCell ⟨w5.heap.size, 1, none⟩ (.slice l70.a l70.len l70.cap)) fun w72 => J16 (IntKind.wrap .i64 (n14 + n20)) (IntKind.wrap .i64 (n15 + 1)) w72) ∧ (True)) ∧ (True)) ∧ (True)) ∧ (True)) ∧ (True)) ∧ (True))) ∧ ((LetW (w19.drew.alloc (.cells #[] 5)) fun w29 => ((.int .i64 (IntKind.wrap .i64 n28) : Value) = (.int .i64 (IntKind.wrap .i64 n28) : Value)) ∧ (∃ n30 : Int, w29.cell? (q27.add (Int.toNat (IntKind.wrap .i64 ((IntKind.wrap .i64 (16 + (IntKind.wrap .i64 (16 * n15)))) + 12)) * 1)) = some (.int .u8 n30) ∧ (.int .u8 n30 : Value) = (.int .u8 n28 : Value)) ∧ (∃ l31 : Sl, w29.cell? ⟨w5.heap.size, 1, none⟩ = some (.slice l31.a l31.len l31.cap) ∧ (.slice l31.a l31.len l31.cap : Value) = (.slice l26.a l26.len l26.cap : Value)) ∧ (CallW Try.prog 83 #[.slice a0.a a0.len a0.cap, .int .i64 (IntKind.wrap .i64 (16 + (IntKind.wrap .i64 (16 * n15)))), .int .i64 4] w29 fun v32 w33 => ∃ n34 : Int, v32 = .int .i64 n34 ∧ ((.int .i64 (IntKind.wrap .i64 n28) : Value) = (.int .i64 (IntKind.wrap .i64 n28) : Value)) ∧ (∃ n35 : Int, w33.cell? (q27.add (Int.toNat (IntKind.wrap .i64 ((IntKind.wrap .i64 (16 + (IntKind.wrap .i64 (16 * n15)))) + 12)) * 1)) = some (.int .u8 n35) ∧ (.int .u8 n35 : Value) = (.int .u8 n28 : Value)) ∧ (∃ l36 : Sl, w33.cell? ⟨w5.heap.size, 1, none⟩ = some (.slice l36.a l36.len l36.cap) ∧ (.slice l36.a l36.len l36.cap : Value) = (.slice l26.a l26.len l26.cap : Value)) ∧ (CallW Try.prog 83 #[.slice a0.a a0.len a0.cap, .int .i64 (IntKind.wrap .i64 ((IntKind.wrap .i64 (16 + (IntKind.wrap .i64 (16 * n15)))) + 4)), .int .i64 4] w33 fun v37 w38 => ∃ n39 : Int, v37 = .int .i64 n39 ∧ ((.int .i64 (IntKind.wrap .i64 n28) : Value) = (.int .i64 (IntKind.wrap .i64 n28) : Value)) ∧ (∃ n40 : Int, w38.cell? (q27.add (Int.toNat (IntKind.wrap .i64 ((IntKind.wrap .i64 (16 + (IntKind.wrap .i64 (16 * n15)))) + 12)) * 1)) = some (.int .u8 n40) ∧ (.int .u8 n40 : Value) = (.int .u8 n28 : Value)) ∧ (∃ l41 : Sl, w38.cell? ⟨w5.heap.size, 1, none⟩ = some (.slice l41.a l41.len l41.cap) ∧ (.slice l41.a l41.len l41.cap : Value) = (.slice l26.a l26.len l26.cap : Value)) ∧ (AppendW 5 ti5 ⟨some ⟨w19.drew.heap.size, 0, none⟩, 0, 0⟩ ⟨cutA a0.a a0.cap (Int.toNat n14) 1, Int.toNat (IntKind.wrap .i64 (n14 + n20)) - Int.toNat n14, a0.cap - Int.toNat n14⟩ w38 fun l42 w43 => ((.int .i64 (IntKind.wrap .i64 n28) : Value) = (.int .i64 (IntKind.wrap .i64 n28) : Value)) ∧ (∃ n44 : Int, w43.cell? (q27.add (Int.toNat (IntKind.wrap .i64 ((IntKind.wrap .i64 (16 + (IntKind.wrap .i64 (16 * n15)))) + 12)) * 1)) = some (.int .u8 n44) ∧ (.int .u8 n44 : Value) = (.int .u8 n28 : Value)) ∧ (∃ l45 : Sl, w43.cell? ⟨w5.heap.size, 1, none⟩ = some (.slice l45.a l45.len l45.cap) ∧ (.slice l45.a l45.len l45.cap : Value) = (.slice l26.a l26.len l26.cap : Value)) ∧ (LetW (w43.alloc (.cells #[.int .i64 n34, .int .i64 (IntKind.wrap .i64 n28), .int .i64 n39, .slice l42.a l42.len l42.cap] 107)) fun w46 => (∃ l47 : Sl, w46.cell? ⟨w5.heap.size, 1, none⟩ = some (.slice l47.a l47.len l47.cap) ∧ (.slice l47.a l47.len l47.cap : Value) = (.slice l26.a l26.len l26.cap : Value)) ∧ (AppendW 107 ti107 l26 ⟨some ⟨w43.heap.size, 0, none⟩, 1, 1⟩ w46 fun l48 w49 => (May w49 ⟨w5.heap.size, 1, none⟩ ∧ LetW (w49.setCell ⟨w5.heap.size, 1, none⟩ (.slice l48.a l48.len l48.cap)) fun w50 => J16 (IntKind.wrap .i64 (n14 + n20)) (IntKind.wrap .i64 (n15 + 1)) w50) ∧ (True)) ∧ (True)) ∧ (True)) ∧ (True)) ∧ (True)) ∧ (True)) ∧ (True)))) (∃ n90 : Int, w17.cell? ⟨w5.heap.size, 0, none⟩ = some (.int .i64 n90) ∧ ∃ l91 : Sl, w17.cell? ⟨w5.heap.size, 1, none⟩ = some (.slice l91.a l91.len l91.cap) ∧ MayN w17 ⟨w.heap.size, 0, none⟩ 2 ∧ LetW (puts w17 ⟨w.heap.size, 0, none⟩ 0 [.int .i64 n90, .slice l91.a l91.len l91.cap]) fun w92 => ∃ n93 : Int, w92.cell? ⟨w.heap.size, 0, none⟩ = some (.int .i64 n93) ∧ ∃ l94 : Sl, w92.cell? ⟨w.heap.size, 1, none⟩ = some (.slice l94.a l94.len l94.cap) ∧ K (.tuple #[.agg #[.int .i64 n93, .slice l94.a l94.len l94.cap], .bool true]) w92)) ((IntKind.wrap .i64 (16 + (IntKind.wrap .i64 (16 * (IntKind.wrap .i64 n3)))) : Int), ((0 : Int), ())) w8)
theorem eq84 (a0 : Sl) (w : World) (K : Value → World → Prop) : denFn Try.prog tt Try.f84 an84 [.slice a0.a a0.len a0.cap] w K = W84 a0 w K := by kernel_rfl
theorem ok84 : OkFn Try.prog 84 := ⟨Try.f84, Try.func84, by kernel_rfl, by kernel_rfl⟩
theorem go84 {a0 : Sl} {w : World} {K : Value → World → Prop} (h : W84 a0 w K) : CallW Try.prog 84 #[.slice a0.a a0.len a0.cap] w K :=
  .inl ⟨ok84, denFn_sound tt_ok mix Try.func84 (by kernel_rfl) (eq84 a0 w K ▸ h)⟩

/- loop.example/g00008/spec.l5SpoilImage -/
def an131 : Ann := (.seq .leaf (.seq .leaf (.seq .leaf (.join 24 [] (.seq .leaf (.in_ (.seq .leaf (.cond .leaf (.seq .leaf (.cond .leaf (.seq .leaf (.cond .leaf (.seq .leaf (.cond .leaf (.seq .leaf (.cond (.draw [0, 1, 0, 0, 8, 0, 56, 120, 248, 0, 512, 0, 3584, 7680, 15872, 32760, 65535, 131071, 262143] [0, 1, 2, 3, 4, 5, 6, 7, 8, 9, 10, 11, 12, 13, 14, 15, 16, 17, 18]) (.seq .leaf (.cond .leaf (.seq .leaf (.cond (.draw [0, 1, 0, 4, 15, 31, 63, 127] [0, 1, 2, 3, 4, 5, 6, 7]) .leaf)))))))))))))))) (.seq .leaf .leaf)))))
def W131 (a0 : Option Addr) (a1_0 : Int) (a1_1 : Sl) (w : World) (K : Value → World → Prop) : Prop :=
  LetW (w.alloc (.cells #[.int .i64 a1_0, .slice a1_1.a a1_1.len a1_1.cap] 45)) fun w1 => LetW (w1.alloc (.cells #[.int .i64 0, .slice none 0 0] 45)) fun w2 => ∃ l3 : Sl, w2.cell? ⟨w.heap.size, 1, none⟩ = some (.slice l3.a l3.len l3.cap) ∧ CallW Try.prog 79 #[.pointer a0, .int .i64 ((l3.len : Nat) : Int)] w2 fun v4 w5 => ∃ n6 : Int, v4 = .int .i64 n6 ∧ LetW (w5.alloc (.cells #[.int .i64 0, .int .i64 (-1), .int .i64 1, .int .i64 255, .int .i64 256, .int .i64 65536, .int .i64 65537, .int .i64 4194304, .int .i64 4194048, .int .i64 7, .int .i64 2, .int .i64 4611686018427387904] 2)) fun w7 => CallW Try.prog 79 #[.pointer a0, .int .i64 12] w7 fun v8 w9 => ∃ n10 : Int, v8 = .int .i64 n10 ∧ 0 ≤ (n10 : Int) ∧ (n10 : Int) < ((12 : Nat) : Int) ∧ ∃ q11 : Addr, (some ⟨w5.heap.size, 0, none⟩ : Option Addr) = some q11 ∧ ∃ n12 : Int, w9.cell? (q11.add (Int.toNat n10 * 1)) = some (.int .i64 n12) ∧ JoinW [] (fun J13 => CallW Try.prog 79 #[.pointer a0, .int .i64 7] w9 fun v20 w21 => ∃ n22 : Int, v20 = .int .i64 n22 ∧ BIf ((n22 : Int) == 0) (May w21 ⟨w.heap.size, 0, none⟩ ∧ LetW (w21.setCell ⟨w.heap.size, 0, none⟩ (.int .i64 n12)) fun w23 => J13 w23) (BIf ((n22 : Int) == 1) (∃ l24 : Sl, w21.cell? ⟨w.heap.size, 1, none⟩ = some (.slice l24.a l24.len l24.cap) ∧ 0 ≤ (n6 : Int) ∧ (n6 : Int) < ((l24.len : Nat) : Int) ∧ ∃ q25 : Addr, (l24.a : Option Addr) = some q25 ∧ May w21 ((q25.add (Int.toNat n6 * 4)).add 0) ∧ LetW (w21.setCell ((q25.add (Int.toNat n6 * 4)).add 0) (.int .i64 n12)) fun w26 => J13 w26) (BIf ((n22 : Int) == 2) (∃ l27 : Sl, w21.cell? ⟨w.heap.size, 1, none⟩ = some (.slice l27.a l27.len l27.cap) ∧ 0 ≤ (n6 : Int) ∧ (n6 : Int) < ((l27.len : Nat) : Int) ∧ ∃ q28 : Addr, (l27.a : Option Addr) = some q28 ∧ May w21 ((q28.add (Int.toNat n6 * 4)).add 2) ∧ LetW (w21.setCell ((q28.add (Int.toNat n6 * 4)).add 2) (.int .i64 n12)) fun w29 => J13 w29) (BIf ((n22 : Int) == 3) (∃ l30 : Sl, w21.cell? ⟨w.heap.size, 1, none⟩ = some (.slice l30.a l30.len l30.cap) ∧ 0 ≤ (n6 : Int) ∧ (n6 : Int) < ((l30.len : Nat) : Int) ∧ ∃ q31 : Addr, (l30.a : Option Addr) = some q31 ∧ May w21 ((q31.add (Int.toNat n6 * 4)).add 1) ∧ LetW (w21.setCell ((q31.add (Int.toNat n6 * 4)).add 1) (.int .i64 n12)) fun w32 => J13 w32) (BIf ((n22 : Int) == 4) (∃ l33 : Sl, w21.drew.cell? ⟨w.heap.size, 1, none⟩ = some (.slice l33.a l33.len l33.cap) ∧ ∃ l34 : Sl, w21.drew.cell? ⟨w.heap.size, 1, none⟩ = some (.slice l34.a l34.len l34.cap) ∧ 0 ≤ (n6 : Int) ∧ (n6 : Int) < ((l34.len : Nat) : Int) ∧ ∃ q35 : Addr, (l34.a : Option Addr) = some q35 ∧ ∃ l36 : Sl, w21.drew.cell? ((q35.add (Int.toNat n6 * 4)).add 3) = some (.slice l36.a l36.len l36.cap) ∧ ∃ l37 : Sl, w21.drew.cell? ⟨w.heap.size, 1, none⟩ = some (.slice l37.a l37.len l37.cap) ∧ 0 ≤ (n6 : Int) ∧ (n6 : Int) < ((l37.len : Nat) : Int) ∧ ∃ q38 : Addr, (l37.a : Option Addr) = some q38 ∧ ∃ n39 : Int, w21.drew.cell? ((q38.add (Int.toNat n6 * 4)).add 2) = some (.int .i64 n39) ∧ AppendZW 5 ti5 l36 n39 w21.drew fun l40 w41 => (∃ l42 : Sl, w41.cell? ⟨w.heap.size, 1, none⟩ = some (.slice l42.a l42.len l42.cap) ∧ (.slice l42.a l42.len l42.cap : Value) = (.slice l33.a l33.len l33.cap : Value)) ∧ 0 ≤ (n6 : Int) ∧ (n6 : Int) < ((l33.len : Nat) : Int) ∧ ∃ q43 : Addr, (l33.a : Option Addr) = some q43 ∧ May w41 ((q43.add (Int.toNat n6 * 4)).add 3) ∧ LetW (w41.setCell ((q43.add (Int.toNat n6 * 4)).add 3) (.slice l40.a l40.len l40.cap)) fun w44 => J13 w44) (BIf ((n22 : Int) == 5) (∃ l45 : Sl, w21.cell? ⟨w.heap.size, 1, none⟩ = some (.slice l45.a l45.len l45.cap) ∧ 0 ≤ (n6 : Int) ∧ (n6 : Int) ≤ ((l45.cap : Nat) : Int) ∧ May w21 ⟨w.heap.size, 1, none⟩ ∧ LetW (w21.setCell ⟨w.heap.size, 1, none⟩ (.slice (cutA l45.a l45.cap (Int.toNat 0) 4) (Int.toNat n6 - Int.toNat 0) (l45.cap - Int.toNat 0))) fun w46 => J13 w46) (BIf ((n22 : Int) == 6) (∃ n47 : Int, w21.drew.cell? ⟨w.heap.size, 0, none⟩ = some (.int .i64 n47) ∧ CallW Try.prog 79 #[.pointer a0, .int .i64 40] w21.drew fun v48 w49 => ∃ n50 : Int, v48 = .int .i64 n50 ∧ (∃ n51 : Int, w49.cell? ⟨w.heap.size, 0, none⟩ = some (.int .i64 n51) ∧ (.int .i64 n51 : Value) = (.int .i64 n47 : Value)) ∧ May w49 ⟨w.heap.size, 0, none⟩ ∧ LetW (w49.setCell ⟨w.heap.size, 0, none⟩ (.int .i64 (IntKind.wrap .i64 ((IntKind.wrap .i64 (n47 + n50)) - 20)))) fun w52 => J13 w52) (J13 w21)))))))) (fun w14 => ∃ n15 : Int, w14.cell? ⟨w.heap.size, 0, none⟩ = some (.int .i64 n15) ∧ ∃ l16 : Sl, w14.cell? ⟨w.heap.size, 1, none⟩ = some (.slice l16.a l16.len l16.cap) ∧ MayN w14 ⟨w1.heap.size, 0, none⟩ 2 ∧ LetW (puts w14 ⟨w1.heap.size, 0, none⟩ 0 [.int .i64 n15, .slice l16.a l16.len l16.cap]) fun w17 => ∃ n18 : Int, w17.cell? ⟨w1.heap.size, 0, none⟩ = some (.int .i64 n18) ∧ ∃ l19 : Sl, w17.cell? ⟨w1.heap.size, 1, none⟩ = some (.slice l19.a l19.len l19.cap) ∧ K (.agg #[.int .i64 n18, .slice l19.a l19.len l19.cap]) w17)
theorem eq131 (a0 : Option Addr) (a1_0 : Int) (a1_1 : Sl) (w : World) (K : Value → World → Prop) : denFn Try.prog tt Try.f131 an131 [.pointer a0, .agg #[.int .i64 a1_0, .slice a1_1.a a1_1.len a1_1.cap]] w K = W131 a0 a1_0 a1_1 w K := by kernel_rfl
theorem ok131 : OkFn Try.prog 131 := ⟨Try.f131, Try.func131, by kernel_rfl, by kernel_rfl⟩
theorem go131 {a0 : Option Addr} {a1_0 : Int} {a1_1 : Sl} {w : World} {K : Value → World → Prop} (h : W131 a0 a1_0 a1_1 w K) : CallW Try.prog 131 #[.pointer a0, .agg #[.int .i64 a1_0, .slice a1_1.a a1_1.len a1_1.cap]] w K :=
  .inl ⟨ok131, denFn_sound tt_ok mix Try.func131 (by kernel_rfl) (eq131 a0 a1_0 a1_1 w K ▸ h)⟩

/- loop.example/g00008/impl.pages -/
def an132 : Ann := (.seq .leaf (.seq .leaf .leaf))
def W132 (a0 : Int) (w : World) (K : Value → World → Prop) : Prop :=
  (256 : Int) ≠ 0 ∧ K (.int .i64 (IntKind.wrap .i64 ((IntKind.wrap .i64 (Int.tdiv (IntKind.wrap .i64 ((IntKind.wrap .i64 (a0 + 256)) - 1)) 256)) * 256))) w
theorem eq132 (a0 : Int) (w : World) (K : Value → World → Prop) : denFn Try.prog tt Try.f132 an132 [.int .i64 a0] w K = W132 a0 w K := by kernel_rfl
theorem ok132 : OkFn Try.prog 132 := ⟨Try.f132, Try.func132, by kernel_rfl, by kernel_rfl⟩
theorem go132 {a0 : Int} {w : World} {K : Value → World → Prop} (h : W132 a0 w K) : CallW Try.prog 132 #[.int .i64 a0] w K :=
  .inl ⟨ok132, denFn_sound tt_ok mix Try.func132 (by kernel_rfl) (eq132 a0 w K ▸ h)⟩

/- loop.example/g00008/impl.poke -/
def an133 : Ann := (.seq .leaf (.in_ (.loop 523 [(10, .int .i64)] (.seq .leaf (.seq (.cond .leaf .leaf) (.seq (.in_ (.seq .leaf .leaf)) .leaf))))))
def W133 (a0 : Sl) (a1 : Int) (a2 : Int) (a3 : Int) (w : World) (K : Value → World → Prop) : Prop :=
  LoopW [.int .i64] (fun J2 => fun (n1 : Int) w3 => BIf (decide ((n1 : Int) < a2)) (0 ≤ (IntKind.wrap .i64 (8 * n1) : Int) ∧ 0 ≤ (IntKind.wrap .i64 (a1 + n1) : Int) ∧ (IntKind.wrap .i64 (a1 + n1) : Int) < ((a0.len : Nat) : Int) ∧ ∃ q4 : Addr, (a0.a : Option Addr) = some q4 ∧ May w3 (q4.add (Int.toNat (IntKind.wrap .i64 (a1 + n1)) * 1)) ∧ LetW (w3.setCell (q4.add (Int.toNat (IntKind.wrap .i64 (a1 + n1)) * 1)) (.int .u8 (IntKind.wrap .u8 (shrI .u64 a3 (IntKind.wrap .i64 (8 * n1)))))) fun w5 => J2 (IntKind.wrap .i64 (n1 + 1)) w5) (K (.tuple #[]) w3)) ((0 : Int), ()) w
theorem eq133 (a0 : Sl) (a1 : Int) (a2 : Int) (a3 : Int) (w : World) (K : Value → World → Prop) : denFn Try.prog tt Try.f133 an133 [.slice a0.a a0.len a0.cap, .int .i64 a1, .int .i64 a2, .int .u64 a3] w K = W133 a0 a1 a2 a3 w K := by kernel_rfl
theorem ok133 : OkFn Try.prog 133 := ⟨Try.f133, Try.func133, by kernel_rfl, by kernel_rfl⟩
theorem go133 {a0 : Sl} {a1 : Int} {a2 : Int} {a3 : Int} {w : World} {K : Value → World → Prop} (h : W133 a0 a1 a2 a3 w K) : CallW Try.prog 133 #[.slice a0.a a0.len a0.cap, .int .i64 a1, .int .i64 a2, .int .u64 a3] w K :=
  .inl ⟨ok133, denFn_sound tt_ok mix Try.func133 (by kernel_rfl) (eq133 a0 a1 a2 a3 w K ▸ h)⟩

/- loop.example/g00008/impl.sizeOk -/
def an134 : Ann := (.seq .leaf (.seq (.reg [(3, none), (3, some (1, [(8, .bool)])), (1, none), (3, some (1, [(12, .bool)])), (1, none), (3, some (0, [(16, .bool)])), (1, none)]) .leaf))
def W134 (a0 : Int) (w : World) (K : Value → World → Prop) : Prop :=
  JoinW [.bool] (fun J2 => BIf ((a0 : Int) == 1) (J2 true w) (J2 ((a0 : Int) == 2) w)) (fun (b1 : Bool) w3 => JoinW [.bool] (fun J5 => BIf b1 (J5 true w3) (J5 ((a0 : Int) == 4) w3)) (fun (b4 : Bool) w6 => JoinW [.bool] (fun J8 => BIf b4 (J8 true w6) (J8 ((a0 : Int) == 8) w6)) (fun (b7 : Bool) w9 => K (.bool b7) w9)))
theorem eq134 (a0 : Int) (w : World) (K : Value → World → Prop) : denFn Try.prog tt Try.f134 an134 [.int .i64 a0] w K = W134 a0 w K := by kernel_rfl
theorem ok134 : OkFn Try.prog 134 := ⟨Try.f134, Try.func134, by kernel_rfl, by kernel_rfl⟩
theorem go134 {a0 : Int} {w : World} {K : Value → World → Prop} (h : W134 a0 w K) : CallW Try.prog 134 #[.int .i64 a0] w K :=
  .inl ⟨ok134, denFn_sound tt_ok mix Try.func134 (by kernel_rfl) (eq134 a0 w K ▸ h)⟩

/- loop.example/g00008/spec.l1Some -/
def an136 : Ann := (.seq .leaf (.seq .leaf (.seq (.seq .leaf (.in_ (.loop 3 [(5, .slice), (6, .int .i64)] (.seq (.seq .leaf (.cond .leaf .leaf)) (.seq (.in_ (.seq .leaf .leaf)) .leaf))))) (.seq .leaf .leaf))))
def W136 (a0 : Option Addr) (a1 : Int) (w : World) (K : Value → World → Prop) : Prop :=
  LetW (w.alloc (.cells #[] 5)) fun w1 => LoopW [.slice, .int .i64] (fun J4 => fun (l2 : Sl) (n3 : Int) w5 => BIf (decide ((n3 : Int) < a1)) (CallW Try.prog 138 #[.pointer a0] w5 fun v6 w7 => ∃ n8 : Int, v6 = .int .i64 n8 ∧ LetW (w7.alloc (.cells #[.int .u8 (IntKind.wrap .u8 n8)] 5)) fun w9 => AppendW 5 ti5 l2 ⟨some ⟨w7.heap.size, 0, none⟩, 1, 1⟩ w9 fun l10 w11 => J4 l10 (IntKind.wrap .i64 (n3 + 1)) w11) (K (.slice l2.a l2.len l2.cap) w5)) ((⟨some ⟨w.heap.size, 0, none⟩, 0, 0⟩ : Sl), ((0 : Int), ())) w1
theorem eq136 (a0 : Option Addr) (a1 : Int) (w : World) (K : Value → World → Prop) : denFn Try.prog tt Try.f136 an136 [.pointer a0, .int .i64 a1] w K = W136 a0 a1 w K := by kernel_rfl
theorem ok136 : OkFn Try.prog 136 := ⟨Try.f136, Try.func136, by kernel_rfl, by kernel_rfl⟩
theorem go136 {a0 : Option Addr} {a1 : Int} {w : World} {K : Value → World → Prop} (h : W136 a0 a1 w K) : CallW Try.prog 136 #[.pointer a0, .int .i64 a1] w K :=
  .inl ⟨ok136, denFn_sound tt_ok mix Try.func136 (by kernel_rfl) (eq136 a0 a1 w K ▸ h)⟩

/- loop.example/g00008/spec.l4DrawCode -/
def an137 : Ann := (.seq .leaf (.seq .leaf (.seq (.seq .leaf (.in_ (.loop 3 [(5, .slice), (6, .int .i64)] (.seq (.seq .leaf (.cond .leaf .leaf)) (.seq (.in_ (.seq .leaf (.seq .leaf (.in_ (.loop 67 [(5, .slice), (7, .int .u64), (9, .int .i64)] (.seq (.seq .leaf (.cond .leaf .leaf)) (.seq (.in_ (.seq .leaf .leaf)) .leaf))))))) .leaf))))) (.seq .leaf .leaf))))
def W137 (a0 : Option Addr) (a1 : Int) (w : World) (K : Value → World → Prop) : Prop :=
  LetW (w.alloc (.cells #[] 5)) fun w1 => LoopW [.slice, .int .i64] (fun J4 => fun (l2 : Sl) (n3 : Int) w5 => BIf (decide ((n3 : Int) < a1)) (CallW Try.prog 170 #[.pointer a0] w5 fun v6 w7 => ∃ n8 : Int, v6 = .int .i64 n8 ∧ CallW Try.prog 169 #[.pointer a0, .int .i64 n8] w7 fun v9 w10 => ∃ n11 : Int, ∃ n12 : Int, ∃ n13 : Int, ∃ n14 : Int, ∃ n15 : Int, v9 = .agg #[.int .i64 n11, .int .i64 n12, .int .i64 n13, .int .i64 n14, .int .i64 n15] ∧ CallW Try.prog 168 #[.agg #[.int .i64 n11, .int .i64 n12, .int .i64 n13, .int .i64 n14, .int .i64 n15]] w10 fun v16 w17 => ∃ n18 : Int, ∃ b19 : Bool, v16 = .tuple #[.int .u64 n18, .bool b19] ∧ LoopW [.slice, .int .u64, .int .i64] (fun J23 => fun (l20 : Sl) (n21 : Int) (n22 : Int) w24 => BIf (decide ((n22 : Int) < 4)) ((256 : Int) ≠ 0 ∧ LetW (w24.alloc (.cells #[.int .u8 (IntKind.wrap .u8 (Int.tmod n21 256))] 5)) fun w25 => AppendW 5 ti5 l20 ⟨some ⟨w24.heap.size, 0, none⟩, 1, 1⟩ w25 fun l26 w27 => (256 : Int) ≠ 0 ∧ J23 l26 (IntKind.wrap .u64 (Int.tdiv n21 256)) (IntKind.wrap .i64 (n22 + 1)) w27) (J4 l20 (IntKind.wrap .i64 (n3 + 1)) w24)) ((l2 : Sl), ((n18 : Int), ((0 : Int), ()))) w17) (K (.slice l2.a l2.len l2.cap) w5)) ((⟨some ⟨w.heap.size, 0, none⟩, 0, 0⟩ : Sl), ((0 : Int), ())) w1
theorem eq137 (a0 : Option Addr) (a1 : Int) (w : World) (K : Value → World → Prop) : denFn Try.prog tt Try.f137 an137 [.pointer a0, .int .i64 a1] w K = W137 a0 a1 w K := by kernel_rfl
theorem ok137 : OkFn Try.prog 137 := ⟨Try.f137, Try.func137, by kernel_rfl, by kernel_rfl⟩
theorem go137 {a0 : Option Addr} {a1 : Int} {w : World} {K : Value → World → Prop} (h : W137 a0 a1 w K) : CallW Try.prog 137 #[.pointer a0, .int .i64 a1] w K :=
  .inl ⟨ok137, denFn_sound tt_ok mix Try.func137 (by kernel_rfl) (eq137 a0 a1 w K ▸ h)⟩

/- loop.example/g00008/spec.l1Byte -/
def an138 : Ann := (.seq .leaf (.seq .leaf (.seq (.draw [0, 1, 3, 7, 15, 0, 32, 96, 224, 480, 1023, 2047, 4095] [0, 1, 2, 3, 4, 5, 6, 7, 8, 9, 10, 11, 12]) (.seq (.seq (.draw [0, 1, 3, 7, 0, 16, 48, 112, 240, 511] [0, 1, 2, 3, 4, 5, 6, 7, 8, 9]) (.cond (.seq (.draw [0, 0, 2, 6, 14, 0, 32, 96, 224, 510, 1022, 2046, 4095, 8191, 16383] [0, 1, 2, 3, 4, 5, 6, 7, 8, 9, 10, 11, 12, 13, 14]) .leaf) .leaf)) (.seq .leaf .leaf)))))
def W138 (a0 : Option Addr) (w : World) (K : Value → World → Prop) : Prop :=
  ∃ p1 : Addr, (a0 : Option Addr) = some p1 ∧ ∃ n2 : Int, w.cell? (p1.add 2) = some (.int .i64 n2) ∧ ∃ p3 : Addr, (a0 : Option Addr) = some p3 ∧ May w (p3.add 2) ∧ LetW (w.setCell (p3.add 2) (.int .i64 (IntKind.wrap .i64 ((IntKind.wrap .i64 (n2 * 6364136223846793005)) + 1442695040888963407)))) fun w4 => ∃ p5 : Addr, (a0 : Option Addr) = some p5 ∧ ∃ n6 : Int, w4.drew.cell? (p5.add 2) = some (.int .i64 n6) ∧ 0 ≤ (33 : Int) ∧ ∃ p7 : Addr, (a0 : Option Addr) = some p7 ∧ ∃ n8 : Int, w4.drew.cell? (p7.add 2) = some (.int .i64 n8) ∧ 0 ≤ (45 : Int) ∧ ∃ p9 : Addr, (a0 : Option Addr) = some p9 ∧ ∃ n10 : Int, w4.drew.drew.cell? (p9.add 1) = some (.int .i64 n10) ∧ ∃ p11 : Addr, (a0 : Option Addr) = some p11 ∧ ∃ l12 : Sl, w4.drew.drew.cell? (p11.add 0) = some (.slice l12.a l12.len l12.cap) ∧ BIf (decide ((n10 : Int) < ((l12.len : Nat) : Int))) (∃ p13 : Addr, (a0 : Option Addr) = some p13 ∧ ∃ l14 : Sl, w4.drew.drew.drew.cell? (p13.add 0) = some (.slice l14.a l14.len l14.cap) ∧ ∃ p15 : Addr, (a0 : Option Addr) = some p15 ∧ ∃ n16 : Int, w4.drew.drew.drew.cell? (p15.add 1) = some (.int .i64 n16) ∧ 0 ≤ (n16 : Int) ∧ (n16 : Int) < ((l14.len : Nat) : Int) ∧ ∃ q17 : Addr, (l14.a : Option Addr) = some q17 ∧ ∃ n18 : Int, w4.drew.drew.drew.cell? (q17.add (Int.toNat n16 * 1)) = some (.int .u8 n18) ∧ ∃ p19 : Addr, (a0 : Option Addr) = some p19 ∧ ∃ n20 : Int, w4.drew.drew.drew.cell? (p19.add 1) = some (.int .i64 n20) ∧ ∃ p21 : Addr, (a0 : Option Addr) = some p21 ∧ May w4.drew.drew.drew (p21.add 1) ∧ LetW (w4.drew.drew.drew.setCell (p21.add 1) (.int .i64 (IntKind.wrap .i64 (n20 + 1)))) fun w22 => K (.int .i64 (andI .i64 (IntKind.wrap .i64 ((andI .i64 (xorI .i64 (shrI .i64 n6 33) (shrI .i64 n8 45)) 255) + (IntKind.wrap .i64 n18))) 255)) w22) (K (.int .i64 (andI .i64 (xorI .i64 (shrI .i64 n6 33) (shrI .i64 n8 45)) 255)) w4.drew.drew)
theorem eq138 (a0 : Option Addr) (w : World) (K : Value → World → Prop) : denFn Try.prog tt Try.f138 an138 [.pointer a0] w K = W138 a0 w K := by kernel_rfl
theorem ok138 : OkFn Try.prog 138 := ⟨Try.f138, Try.func138, by kernel_rfl, by kernel_rfl⟩
theorem go138 {a0 : Option Addr} {w : World} {K : Value → World → Prop} (h : W138 a0 w K) : CallW Try.prog 138 #[.pointer a0] w K :=
  .inl ⟨ok138, denFn_sound tt_ok mix Try.func138 (by kernel_rfl) (eq138 a0 w K ▸ h)⟩

/- loop.example/g00008/spec.Encode -/
def an168 : Ann := (.seq .leaf (.seq (.seq .leaf (.cond (.seq .leaf .leaf) .leaf)) (.seq .leaf (.seq (.seq .leaf (.in_ (.seq .leaf (.cond .leaf (.join 8210 [(32, .bool)] (.seq .leaf (.cond .leaf (.seq .leaf (.cond .leaf .leaf)))) (.cond (.draw [0, 0, 2, 6, 14, 31, 0, 64, 192, 448, 1023, 0, 2048, 6144, 14336, 30720, 65535, 131071] [0, 1, 2, 3, 4, 5, 6, 7, 8, 9, 10, 11, 12, 13, 14, 15, 16, 17]) (.seq .leaf (.cond (.draw [0, 0, 2, 6, 14, 31, 0, 64, 192, 448, 1023, 0, 2048, 6144, 14336, 30720, 65535, 131071] [0, 1, 2, 3, 4, 5, 6, 7, 8, 9, 10, 11, 12, 13, 14, 15, 16, 17]) (.seq .leaf (.cond (.draw [0, 0, 2, 6, 14, 31, 0, 64, 192, 448, 1023, 0, 2048, 6144, 14336, 30720, 65535, 131071] [0, 1, 2, 3, 4, 5, 6, 7, 8, 9, 10, 11, 12, 13, 14, 15, 16, 17]) (.seq .leaf (.cond (.draw [0, 0, 2, 6, 14, 31, 0, 64, 192, 448, 960, 2047, 4095] [0, 1, 2, 3, 4, 5, 6, 7, 8, 9, 10, 11, 12]) .leaf)))))))))))) (.seq .leaf .leaf)))))
def W168 (a0_0 : Int) (a0_1 : Int) (a0_2 : Int) (a0_3 : Int) (a0_4 : Int) (w : World) (K : Value → World → Prop) : Prop :=
  LetW (w.alloc (.cells #[.int .i64 a0_0, .int .i64 a0_1, .int .i64 a0_2, .int .i64 a0_3, .int .i64 a0_4] 200)) fun w1 => ∃ n2 : Int, w1.cell? ⟨w.heap.size, 0, none⟩ = some (.int .i64 n2) ∧ ∃ n3 : Int, w1.cell? ⟨w.heap.size, 1, none⟩ = some (.int .i64 n3) ∧ ∃ n4 : Int, w1.cell? ⟨w.heap.size, 2, none⟩ = some (.int .i64 n4) ∧ ∃ n5 : Int, w1.cell? ⟨w.heap.size, 3, none⟩ = some (.int .i64 n5) ∧ ∃ n6 : Int, w1.cell? ⟨w.heap.size, 4, none⟩ = some (.int .i64 n6) ∧ CallW Try.prog 179 #[.agg #[.int .i64 n2, .int .i64 n3, .int .i64 n4, .int .i64 n5, .int .i64 n6]] w1 fun v7 w8 => ∃ b9 : Bool, v7 = .bool b9 ∧ BIf (!b9) (K (.tuple #[.int .u64 0, .bool false]) w8) (∃ n10 : Int, w8.cell? ⟨w.heap.size, 0, none⟩ = some (.int .i64 n10) ∧ ∃ n11 : Int, w8.cell? ⟨w.heap.size, 0, none⟩ = some (.int .i64 n11) ∧ CallW Try.prog 180 #[.int .i64 n11] w8 fun v12 w13 => ∃ n14 : Int, v12 = .int .i64 n14 ∧ BIf ((n14 : Int) == 0) (∃ n15 : Int, w13.cell? ⟨w.heap.size, 1, none⟩ = some (.int .i64 n15) ∧ ∃ n16 : Int, w13.cell? ⟨w.heap.size, 2, none⟩ = some (.int .i64 n16) ∧ ∃ n17 : Int, w13.cell? ⟨w.heap.size, 3, none⟩ = some (.int .i64 n17) ∧ K (.tuple #[.int .u64 (IntKind.wrap .u64 ((IntKind.wrap .u64 ((IntKind.wrap .u64 ((IntKind.wrap .u64 n10) + (IntKind.wrap .u64 ((IntKind.wrap .u64 n15) * 256)))) + (IntKind.wrap .u64 ((IntKind.wrap .u64 n16) * 8192)))) + (IntKind.wrap .u64 ((IntKind.wrap .u64 n17) * 262144)))), .bool true]) w13) (JoinW [.bool] (fun J19 => BIf ((n14 : Int) == 1) (J19 ((n14 : Int) == 1) w13) (BIf ((n14 : Int) == 2) (J19 ((n14 : Int) == 2) w13) (J19 ((n14 : Int) == 7) w13))) (fun (b18 : Bool) w20 => BIf b18 (∃ n21 : Int, w20.drew.cell? ⟨w.heap.size, 1, none⟩ = some (.int .i64 n21) ∧ ∃ n22 : Int, w20.drew.cell? ⟨w.heap.size, 2, none⟩ = some (.int .i64 n22) ∧ ∃ n23 : Int, w20.drew.cell? ⟨w.heap.size, 4, none⟩ = some (.int .i64 n23) ∧ CallW Try.prog 181 #[.int .u64 (IntKind.wrap .u64 n23), .int .i64 0, .int .i64 14] w20.drew fun v24 w25 => ∃ n26 : Int, v24 = .int .u64 n26 ∧ ((.int .u64 (IntKind.wrap .u64 n22) : Value) = (.int .u64 (IntKind.wrap .u64 n22) : Value)) ∧ (∃ n27 : Int, w25.cell? ⟨w.heap.size, 2, none⟩ = some (.int .i64 n27) ∧ (.int .i64 n27 : Value) = (.int .i64 n22 : Value)) ∧ ((.int .u64 (IntKind.wrap .u64 n21) : Value) = (.int .u64 (IntKind.wrap .u64 n21) : Value)) ∧ (∃ n28 : Int, w25.cell? ⟨w.heap.size, 1, none⟩ = some (.int .i64 n28) ∧ (.int .i64 n28 : Value) = (.int .i64 n21 : Value)) ∧ K (.tuple #[.int .u64 (IntKind.wrap .u64 ((IntKind.wrap .u64 ((IntKind.wrap .u64 ((IntKind.wrap .u64 n10) + (IntKind.wrap .u64 ((IntKind.wrap .u64 n21) * 256)))) + (IntKind.wrap .u64 ((IntKind.wrap .u64 n22) * 8192)))) + (IntKind.wrap .u64 (n26 * 262144)))), .bool true]) w25) (BIf ((n14 : Int) == 3) (∃ n29 : Int, w20.drew.cell? ⟨w.heap.size, 3, none⟩ = some (.int .i64 n29) ∧ ∃ n30 : Int, w20.drew.cell? ⟨w.heap.size, 2, none⟩ = some (.int .i64 n30) ∧ ∃ n31 : Int, w20.drew.cell? ⟨w.heap.size, 4, none⟩ = some (.int .i64 n31) ∧ CallW Try.prog 181 #[.int .u64 (IntKind.wrap .u64 n31), .int .i64 0, .int .i64 14] w20.drew fun v32 w33 => ∃ n34 : Int, v32 = .int .u64 n34 ∧ ((.int .u64 (IntKind.wrap .u64 n30) : Value) = (.int .u64 (IntKind.wrap .u64 n30) : Value)) ∧ (∃ n35 : Int, w33.cell? ⟨w.heap.size, 2, none⟩ = some (.int .i64 n35) ∧ (.int .i64 n35 : Value) = (.int .i64 n30 : Value)) ∧ ((.int .u64 (IntKind.wrap .u64 n29) : Value) = (.int .u64 (IntKind.wrap .u64 n29) : Value)) ∧ (∃ n36 : Int, w33.cell? ⟨w.heap.size, 3, none⟩ = some (.int .i64 n36) ∧ (.int .i64 n36 : Value) = (.int .i64 n29 : Value)) ∧ K (.tuple #[.int .u64 (IntKind.wrap .u64 ((IntKind.wrap .u64 ((IntKind.wrap .u64 ((IntKind.wrap .u64 n10) + (IntKind.wrap .u64 ((IntKind.wrap .u64 n29) * 256)))) + (IntKind.wrap .u64 ((IntKind.wrap .u64 n30) * 8192)))) + (IntKind.wrap .u64 (n34 * 262144)))), .bool true]) w33) (BIf ((n14 : Int) == 4) (∃ n37 : Int, w20.drew.cell? ⟨w.heap.size, 2, none⟩ = some (.int .i64 n37) ∧ ∃ n38 : Int, w20.drew.cell? ⟨w.heap.size, 3, none⟩ = some (.int .i64 n38) ∧ ∃ n39 : Int, w20.drew.cell? ⟨w.heap.size, 4, none⟩ = some (.int .i64 n39) ∧ CallW Try.prog 181 #[.int .u64 (IntKind.wrap .u64 n39), .int .i64 0, .int .i64 14] w20.drew fun v40 w41 => ∃ n42 : Int, v40 = .int .u64 n42 ∧ ((.int .u64 (IntKind.wrap .u64 n38) : Value) = (.int .u64 (IntKind.wrap .u64 n38) : Value)) ∧ (∃ n43 : Int, w41.cell? ⟨w.heap.size, 3, none⟩ = some (.int .i64 n43) ∧ (.int .i64 n43 : Value) = (.int .i64 n38 : Value)) ∧ ((.int .u64 (IntKind.wrap .u64 n37) : Value) = (.int .u64 (IntKind.wrap .u64 n37) : Value)) ∧ (∃ n44 : Int, w41.cell? ⟨w.heap.size, 2, none⟩ = some (.int .i64 n44) ∧ (.int .i64 n44 : Value) = (.int .i64 n37 : Value)) ∧ K (.tuple #[.int .u64 (IntKind.wrap .u64 ((IntKind.wrap .u64 ((IntKind.wrap .u64 ((IntKind.wrap .u64 n10) + (IntKind.wrap .u64 ((IntKind.wrap .u64 n37) * 256)))) + (IntKind.wrap .u64 ((IntKind.wrap .u64 n38) * 8192)))) + (IntKind.wrap .u64 (n42 * 262144)))), .bool true]) w41) (BIf ((n14 : Int) == 5) (∃ n45 : Int, w20.drew.cell? ⟨w.heap.size, 1, none⟩ = some (.int .i64 n45) ∧ ∃ n46 : Int, w20.drew.cell? ⟨w.heap.size, 4, none⟩ = some (.int .i64 n46) ∧ CallW Try.prog 181 #[.int .u64 (IntKind.wrap .u64 n46), .int .i64 0, .int .i64 19] w20.drew fun v47 w48 => ∃ n49 : Int, v47 = .int .u64 n49 ∧ ((.int .u64 (IntKind.wrap .u64 n45) : Value) = (.int .u64 (IntKind.wrap .u64 n45) : Value)) ∧ (∃ n50 : Int, w48.cell? ⟨w.heap.size, 1, none⟩ = some (.int .i64 n50) ∧ (.int .i64 n50 : Value) = (.int .i64 n45 : Value)) ∧ K (.tuple #[.int .u64 (IntKind.wrap .u64 ((IntKind.wrap .u64 ((IntKind.wrap .u64 n10) + (IntKind.wrap .u64 ((IntKind.wrap .u64 n45) * 256)))) + (IntKind.wrap .u64 (n49 * 8192)))), .bool true]) w48) (K (.tuple #[.int .u64 (IntKind.wrap .u64 n10), .bool true]) w20)))))))
theorem eq168 (a0_0 : Int) (a0_1 : Int) (a0_2 : Int) (a0_3 : Int) (a0_4 : Int) (w : World) (K : Value → World → Prop) : denFn Try.prog tt Try.f168 an168 [.agg #[.int .i64 a0_0, .int .i64 a0_1, .int .i64 a0_2, .int .i64 a0_3, .int .i64 a0_4]] w K = W168 a0_0 a0_1 a0_2 a0_3 a0_4 w K := by kernel_rfl
theorem ok168 : OkFn Try.prog 168 := ⟨Try.f168, Try.func168, by kernel_rfl, by kernel_rfl⟩
theorem go168 {a0_0 : Int} {a0_1 : Int} {a0_2 : Int} {a0_3 : Int} {a0_4 : Int} {w : World} {K : Value → World → Prop} (h : W168 a0_0 a0_1 a0_2 a0_3 a0_4 w K) : CallW Try.prog 168 #[.agg #[.int .i64 a0_0, .int .i64 a0_1, .int .i64 a0_2, .int .i64 a0_3, .int .i64 a0_4]] w K :=
  .inl ⟨ok168, denFn_sound tt_ok mix Try.func168 (by kernel_rfl) (eq168 a0_0 a0_1 a0_2 a0_3 a0_4 w K ▸ h)⟩

/- loop.example/g00008/spec.l2DrawFor -/
def an169 : Ann := (.seq .leaf (.seq .leaf (.seq .leaf (.seq .leaf (.seq .leaf (.join 48 [] (.seq .leaf (.in_ (.seq .leaf (.cond (.seq .leaf (.seq .leaf .leaf)) (.join 262643 [(27, .bool)] (.seq .leaf (.cond .leaf .leaf)) (.cond (.seq .leaf (.seq .leaf (.join 51 [] (.seq .leaf (.cond .leaf .leaf)) (.seq .leaf (.seq (.reg [(3, none), (3, some (49, [(46, .bool)]))]) (.cond .leaf .leaf)))))) (.join 262641 [(50, .bool)] (.seq .leaf (.cond .leaf .leaf)) (.cond (.seq .leaf (.seq .leaf .leaf)) (.seq .leaf (.cond (.seq .leaf .leaf) (.seq .leaf (.cond (.seq .leaf (.seq .leaf (.seq .leaf (.seq .leaf (.cond .leaf .leaf))))) .leaf)))))))))))) (.seq .leaf .leaf)))))))
def W169 (a0 : Option Addr) (a1 : Int) (w : World) (K : Value → World → Prop) : Prop :=
  LetW (w.alloc (.cells #[.int .i64 0, .int .i64 0, .int .i64 0, .int .i64 0, .int .i64 0] 200)) fun w1 => LetW (w1.alloc (.cells #[.int .i64 0, .int .i64 0, .int .i64 0, .int .i64 0, .int .i64 0] 200)) fun w2 => MayN w2 ⟨w1.heap.size, 0, none⟩ 5 ∧ LetW (puts w2 ⟨w1.heap.size, 0, none⟩ 0 [.int .i64 a1, .int .i64 0, .int .i64 0, .int .i64 0, .int .i64 0]) fun w3 => CallW Try.prog 79 #[.pointer a0, .int .i64 32] w3 fun v4 w5 => ∃ n6 : Int, v4 = .int .i64 n6 ∧ CallW Try.prog 79 #[.pointer a0, .int .i64 32] w5 fun v7 w8 => ∃ n9 : Int, v7 = .int .i64 n9 ∧ CallW Try.prog 79 #[.pointer a0, .int .i64 32] w8 fun v10 w11 => ∃ n12 : Int, v10 = .int .i64 n12 ∧ JoinW [] (fun J13 => CallW Try.prog 180 #[.int .i64 a1] w11 fun v26 w27 => ∃ n28 : Int, v26 = .int .i64 n28 ∧ BIf ((n28 : Int) == 0) (May w27 ⟨w1.heap.size, 1, none⟩ ∧ LetW (w27.setCell ⟨w1.heap.size, 1, none⟩ (.int .i64 n6)) fun w29 => May w29 ⟨w1.heap.size, 2, none⟩ ∧ LetW (w29.setCell ⟨w1.heap.size, 2, none⟩ (.int .i64 n9)) fun w30 => May w30 ⟨w1.heap.size, 3, none⟩ ∧ LetW (w30.setCell ⟨w1.heap.size, 3, none⟩ (.int .i64 n12)) fun w31 => J13 w31) (JoinW [.bool] (fun J33 => BIf ((n28 : Int) == 1) (J33 ((n28 : Int) == 1) w27) (J33 ((n28 : Int) == 2) w27)) (fun (b32 : Bool) w34 => BIf b32 (May w34 ⟨w1.heap.size, 1, none⟩ ∧ LetW (w34.setCell ⟨w1.heap.size, 1, none⟩ (.int .i64 n6)) fun w35 => May w35 ⟨w1.heap.size, 2, none⟩ ∧ LetW (w35.setCell ⟨w1.heap.size, 2, none⟩ (.int .i64 n9)) fun w36 => JoinW [] (fun J37 => CallW Try.prog 80 #[.pointer a0, .int .i64 6] w36 fun v50 w51 => ∃ b52 : Bool, v50 = .bool b52 ∧ BIf b52 (May w51 ⟨w1.heap.size, 1, none⟩ ∧ LetW (w51.setCell ⟨w1.heap.size, 1, none⟩ (.int .i64 n9)) fun w53 => J37 w53) (J37 w51)) (fun w38 => CallW Try.prog 182 #[.pointer a0, .int .i64 (-8192), .int .i64 8191] w38 fun v39 w40 => ∃ n41 : Int, v39 = .int .i64 n41 ∧ May w40 ⟨w1.heap.size, 4, none⟩ ∧ LetW (w40.setCell ⟨w1.heap.size, 4, none⟩ (.int .i64 n41)) fun w42 => JoinW [.bool] (fun J44 => BIf (decide ((a1 : Int) ≥ 36)) (J44 (decide ((a1 : Int) ≤ 38)) w42) (J44 false w42)) (fun (b43 : Bool) w45 => BIf b43 (CallW Try.prog 79 #[.pointer a0, .int .i64 64] w45 fun v46 w47 => ∃ n48 : Int, v46 = .int .i64 n48 ∧ May w47 ⟨w1.heap.size, 4, none⟩ ∧ LetW (w47.setCell ⟨w1.heap.size, 4, none⟩ (.int .i64 n48)) fun w49 => J13 w49) (J13 w45)))) (JoinW [.bool] (fun J55 => BIf ((n28 : Int) == 3) (J55 ((n28 : Int) == 3) w34) (J55 ((n28 : Int) == 4) w34)) (fun (b54 : Bool) w56 => BIf b54 (May w56 ⟨w1.heap.size, 2, none⟩ ∧ LetW (w56.setCell ⟨w1.heap.size, 2, none⟩ (.int .i64 n9)) fun w57 => May w57 ⟨w1.heap.size, 3, none⟩ ∧ LetW (w57.setCell ⟨w1.heap.size, 3, none⟩ (.int .i64 n12)) fun w58 => CallW Try.prog 182 #[.pointer a0, .int .i64 (-8192), .int .i64 8191] w58 fun v59 w60 => ∃ n61 : Int, v59 = .int .i64 n61 ∧ May w60 ⟨w1.heap.size, 4, none⟩ ∧ LetW (w60.setCell ⟨w1.heap.size, 4, none⟩ (.int .i64 n61)) fun w62 => J13 w62) (BIf ((n28 : Int) == 5) (May w56 ⟨w1.heap.size, 1, none⟩ ∧ LetW (w56.setCell ⟨w1.heap.size, 1, none⟩ (.int .i64 n6)) fun w63 => CallW Try.prog 182 #[.pointer a0, .int .i64 (-262144), .int .i64 262143] w63 fun v64 w65 => ∃ n66 : Int, v64 = .int .i64 n66 ∧ May w65 ⟨w1.heap.size, 4, none⟩ ∧ LetW (w65.setCell ⟨w1.heap.size, 4, none⟩ (.int .i64 n66)) fun w67 => J13 w67) (BIf ((n28 : Int) == 7) (May w56 ⟨w1.heap.size, 1, none⟩ ∧ LetW (w56.setCell ⟨w1.heap.size, 1, none⟩ (.int .i64 n6)) fun w68 => May w68 ⟨w1.heap.size, 2, none⟩ ∧ LetW (w68.setCell ⟨w1.heap.size, 2, none⟩ (.int .i64 n9)) fun w69 => CallW Try.prog 79 #[.pointer a0, .int .i64 16] w69 fun v70 w71 => ∃ n72 : Int, v70 = .int .i64 n72 ∧ May w71 ⟨w1.heap.size, 4, none⟩ ∧ LetW (w71.setCell ⟨w1.heap.size, 4, none⟩ (.int .i64 n72)) fun w73 => CallW Try.prog 80 #[.pointer a0, .int .i64 8] w73 fun v74 w75 => ∃ b76 : Bool, v74 = .bool b76 ∧ BIf b76 (LetW (w75.alloc (.cells #[.int .i64 16, .int .i64 15, .int .i64 (-1)] 2)) fun w77 => CallW Try.prog 79 #[.pointer a0, .int .i64 3] w77 fun v78 w79 => ∃ n80 : Int, v78 = .int .i64 n80 ∧ 0 ≤ (n80 : Int) ∧ (n80 : Int) < ((3 : Nat) : Int) ∧ ∃ q81 : Addr, (some ⟨w75.heap.size, 0, none⟩ : Option Addr) = some q81 ∧ ∃ n82 : Int, w79.cell? (q81.add (Int.toNat n80 * 1)) = some (.int .i64 n82) ∧ May w79 ⟨w1.heap.size, 4, none⟩ ∧ LetW (w79.setCell ⟨w1.heap.size, 4, none⟩ (.int .i64 n82)) fun w83 => J13 w83) (J13 w75)) (J13 w56)))))))) (fun w14 => ∃ n15 : Int, w14.cell? ⟨w1.heap.size, 0, none⟩ = some (.int .i64 n15) ∧ ∃ n16 : Int, w14.cell? ⟨w1.heap.size, 1, none⟩ = some (.int .i64 n16) ∧ ∃ n17 : Int, w14.cell? ⟨w1.heap.size, 2, none⟩ = some (.int .i64 n17) ∧ ∃ n18 : Int, w14.cell? ⟨w1.heap.size, 3, none⟩ = some (.int .i64 n18) ∧ ∃ n19 : Int, w14.cell? ⟨w1.heap.size, 4, none⟩ = some (.int .i64 n19) ∧ MayN w14 ⟨w.heap.size, 0, none⟩ 5 ∧ LetW (puts w14 ⟨w.heap.size, 0, none⟩ 0 [.int .i64 n15, .int .i64 n16, .int .i64 n17, .int .i64 n18, .int .i64 n19]) fun w20 => ∃ n21 : Int, w20.cell? ⟨w.heap.size, 0, none⟩ = some (.int .i64 n21) ∧ ∃ n22 : Int, w20.cell? ⟨w.heap.size, 1, none⟩ = some (.int .i64 n22) ∧ ∃ n23 : Int, w20.cell? ⟨w.heap.size, 2, none⟩ = some (.int .i64 n23) ∧ ∃ n24 : Int, w20.cell? ⟨w.heap.size, 3, none⟩ = some (.int .i64 n24) ∧ ∃ n25 : Int, w20.cell? ⟨w.heap.size, 4, none⟩ = some (.int .i64 n25) ∧ K (.agg #[.int .i64 n21, .int .i64 n22, .int .i64 n23, .int .i64 n24, .int .i64 n25]) w20)
theorem eq169 (a0 : Option Addr) (a1 : Int) (w : World) (K : Value → World → Prop) : denFn Try.prog tt Try.f169 an169 [.pointer a0, .int .i64 a1] w K = W169 a0 a1 w K := by kernel_rfl
theorem ok169 : OkFn Try.prog 169 := ⟨Try.f169, Try.func169, by kernel_rfl, by kernel_rfl⟩
theorem go169 {a0 : Option Addr} {a1 : Int} {w : World} {K : Value → World → Prop} (h : W169 a0 a1 w K) : CallW Try.prog 169 #[.pointer a0, .int .i64 a1] w K :=
  .inl ⟨ok169, denFn_sound tt_ok mix Try.func169 (by kernel_rfl) (eq169 a0 a1 w K ▸ h)⟩

/- loop.example/g00008/spec.l2DrawOp -/
def an170 : Ann := (.seq .leaf (.seq .leaf (.seq .leaf .leaf)))
def W170 (a0 : Option Addr) (w : World) (K : Value → World → Prop) : Prop :=
  CallW Try.prog 183 #[] w fun v1 w2 => ∃ l3 : Sl, v1 = .slice l3.a l3.len l3.cap ∧ CallW Try.prog 79 #[.pointer a0, .int .i64 ((l3.len : Nat) : Int)] w2 fun v4 w5 => ∃ n6 : Int, v4 = .int .i64 n6 ∧ 0 ≤ (n6 : Int) ∧ (n6 : Int) < ((l3.len : Nat) : Int) ∧ ∃ q7 : Addr, (l3.a : Option Addr) = some q7 ∧ ∃ s8 : ByteArray, w5.cell? (q7.add (Int.toNat n6 * 1)) = some (.string s8) ∧ CallW Try.prog 184 #[.string s8] w5 fun v9 w10 => ∃ n11 : Int, v9 = .int .i64 n11 ∧ K (.int .i64 n11) w10
theorem eq170 (a0 : Option Addr) (w : World) (K : Value → World → Prop) : denFn Try.prog tt Try.f170 an170 [.pointer a0] w K = W170 a0 w K := by kernel_rfl
theorem ok170 : OkFn Try.prog 170 := ⟨Try.f170, Try.func170, by kernel_rfl, by kernel_rfl⟩
theorem go170 {a0 : Option Addr} {w : World} {K : Value → World → Prop} (h : W170 a0 w K) : CallW Try.prog 170 #[.pointer a0] w K :=
  .inl ⟨ok170, denFn_sound tt_ok mix Try.func170 (by kernel_rfl) (eq170 a0 w K ▸ h)⟩

/- loop.example/g00008/spec.l1Digit -/
def an178 : Ann := (.seq .leaf (.seq (.seq (.reg [(3, none), (3, some (1, [(8, .bool)]))]) (.cond (.seq .leaf .leaf) .leaf)) (.seq (.seq (.reg [(3, none), (3, some (1, [(17, .bool)]))]) (.cond (.seq .leaf .leaf) .leaf)) (.seq .leaf .leaf))))
def W178 (a0 : Int) (w : World) (K : Value → World → Prop) : Prop :=
  JoinW [.bool] (fun J2 => BIf (decide ((a0 : Int) ≥ 48)) (J2 (decide ((a0 : Int) ≤ 57)) w) (J2 false w)) (fun (b1 : Bool) w3 => BIf b1 (K (.int .i64 (IntKind.wrap .i64 ((IntKind.wrap .i64 a0) - 48))) w3) (JoinW [.bool] (fun J5 => BIf (decide ((a0 : Int) ≥ 97)) (J5 (decide ((a0 : Int) ≤ 102)) w3) (J5 false w3)) (fun (b4 : Bool) w6 => BIf b4 (K (.int .i64 (IntKind.wrap .i64 ((IntKind.wrap .i64 ((IntKind.wrap .i64 a0) - 97)) + 10))) w6) (K (.int .i64 99) w6))))
theorem eq178 (a0 : Int) (w : World) (K : Value → World → Prop) : denFn Try.prog tt Try.f178 an178 [.int .u8 a0] w K = W178 a0 w K := by kernel_rfl
theorem ok178 : OkFn Try.prog 178 := ⟨Try.f178, Try.func178, by kernel_rfl, by kernel_rfl⟩
theorem go178 {a0 : Int} {w : World} {K : Value → World → Prop} (h : W178 a0 w K) : CallW Try.prog 178 #[.int .u8 a0] w K :=
  .inl ⟨ok178, denFn_sound tt_ok mix Try.func178 (by kernel_rfl) (eq178 a0 w K ▸ h)⟩

/- loop.example/g00008/spec.l2Fits -/
def an179 : Ann := (.seq .leaf (.seq .leaf (.seq .leaf (.seq .leaf (.seq .leaf (.seq (.seq .leaf (.in_ (.seq .leaf (.cond (.seq (.reg [(2, none), (2, some (34, [(27, .bool)])), (1, none), (2, some (2, [(30, .bool)])), (1, none), (4, some (0, [(35, .bool)])), (1, none)]) .leaf) (.join 2097274 [(36, .bool)] (.seq .leaf (.cond .leaf .leaf)) (.cond (.join 26 [(6, .bool)] (.seq (.reg [(4, none), (4, some (90, [(46, .bool)]))]) (.cond .leaf .leaf)) (.seq (.reg [(2, none), (2, some (66, [(53, .bool)])), (1, none), (4, some (64, [(58, .bool)])), (1, none), (2, some (0, [(61, .bool)])), (1, none)]) .leaf)) (.join 2097274 [(62, .bool)] (.seq .leaf (.cond .leaf .leaf)) (.cond (.seq (.reg [(4, none), (2, some (96, [(70, .bool)])), (1, none), (2, some (64, [(73, .bool)])), (1, none), (2, some (0, [(76, .bool)])), (1, none)]) .leaf) (.seq .leaf (.cond (.seq (.reg [(2, none), (4, some (2, [(84, .bool)])), (1, none), (4, some (2, [(89, .bool)])), (1, none), (4, some (0, [(94, .bool)])), (1, none)]) .leaf) (.seq .leaf (.cond (.seq (.reg [(4, none), (4, some (2, [(104, .bool)])), (1, none), (4, some (2, [(109, .bool)])), (1, none), (4, some (0, [(114, .bool)])), (1, none)]) .leaf) (.seq .leaf (.cond (.seq (.reg [(2, none), (2, some (2, [(120, .bool)])), (1, none), (4, some (2, [(125, .bool)])), (1, none), (4, some (0, [(130, .bool)])), (1, none)]) .leaf) .leaf)))))))))))))) (.seq .leaf .leaf)))))))
def W179 (a0_0 : Int) (a0_1 : Int) (a0_2 : Int) (a0_3 : Int) (a0_4 : Int) (w : World) (K : Value → World → Prop) : Prop :=
  LetW (w.alloc (.cells #[.int .i64 a0_0, .int .i64 a0_1, .int .i64 a0_2, .int .i64 a0_3, .int .i64 a0_4] 200)) fun w1 => ∃ n2 : Int, w1.cell? ⟨w.heap.size, 1, none⟩ = some (.int .i64 n2) ∧ CallW Try.prog 187 #[.int .i64 n2, .int .i64 0, .int .i64 31] w1 fun v3 w4 => ∃ b5 : Bool, v3 = .bool b5 ∧ ∃ n6 : Int, w4.cell? ⟨w.heap.size, 2, none⟩ = some (.int .i64 n6) ∧ CallW Try.prog 187 #[.int .i64 n6, .int .i64 0, .int .i64 31] w4 fun v7 w8 => ∃ b9 : Bool, v7 = .bool b9 ∧ ∃ n10 : Int, w8.cell? ⟨w.heap.size, 3, none⟩ = some (.int .i64 n10) ∧ CallW Try.prog 187 #[.int .i64 n10, .int .i64 0, .int .i64 31] w8 fun v11 w12 => ∃ b13 : Bool, v11 = .bool b13 ∧ ∃ n14 : Int, w12.cell? ⟨w.heap.size, 4, none⟩ = some (.int .i64 n14) ∧ CallW Try.prog 187 #[.int .i64 n14, .int .i64 (-8192), .int .i64 8191] w12 fun v15 w16 => ∃ b17 : Bool, v15 = .bool b17 ∧ ∃ n18 : Int, w16.cell? ⟨w.heap.size, 0, none⟩ = some (.int .i64 n18) ∧ CallW Try.prog 180 #[.int .i64 n18] w16 fun v19 w20 => ∃ n21 : Int, v19 = .int .i64 n21 ∧ BIf ((n21 : Int) == 0) (JoinW [.bool] (fun J23 => BIf b5 (J23 b9 w20) (J23 false w20)) (fun (b22 : Bool) w24 => JoinW [.bool] (fun J26 => BIf b22 (J26 b13 w24) (J26 false w24)) (fun (b25 : Bool) w27 => JoinW [.bool] (fun J29 => BIf b25 (∃ n31 : Int, w27.cell? ⟨w.heap.size, 4, none⟩ = some (.int .i64 n31) ∧ J29 ((n31 : Int) == 0) w27) (J29 false w27)) (fun (b28 : Bool) w30 => K (.bool b28) w30)))) (JoinW [.bool] (fun J33 => BIf ((n21 : Int) == 1) (J33 ((n21 : Int) == 1) w20) (J33 ((n21 : Int) == 2) w20)) (fun (b32 : Bool) w34 => BIf b32 (JoinW [.bool] (fun J36 => ∃ n48 : Int, w34.cell? ⟨w.heap.size, 0, none⟩ = some (.int .i64 n48) ∧ JoinW [.bool] (fun J50 => BIf (decide ((n48 : Int) ≥ 36)) (∃ n56 : Int, w34.cell? ⟨w.heap.size, 0, none⟩ = some (.int .i64 n56) ∧ J50 (decide ((n56 : Int) ≤ 38)) w34) (J50 false w34)) (fun (b49 : Bool) w51 => BIf b49 (∃ n52 : Int, w51.cell? ⟨w.heap.size, 4, none⟩ = some (.int .i64 n52) ∧ CallW Try.prog 187 #[.int .i64 n52, .int .i64 0, .int .i64 63] w51 fun v53 w54 => ∃ b55 : Bool, v53 = .bool b55 ∧ J36 b55 w54) (J36 b17 w51))) (fun (b35 : Bool) w37 => JoinW [.bool] (fun J39 => BIf b5 (J39 b9 w37) (J39 false w37)) (fun (b38 : Bool) w40 => JoinW [.bool] (fun J42 => BIf b38 (∃ n47 : Int, w40.cell? ⟨w.heap.size, 3, none⟩ = some (.int .i64 n47) ∧ J42 ((n47 : Int) == 0) w40) (J42 false w40)) (fun (b41 : Bool) w43 => JoinW [.bool] (fun J45 => BIf b41 (J45 b35 w43) (J45 false w43)) (fun (b44 : Bool) w46 => K (.bool b44) w46))))) (JoinW [.bool] (fun J58 => BIf ((n21 : Int) == 3) (J58 ((n21 : Int) == 3) w34) (J58 ((n21 : Int) == 4) w34)) (fun (b57 : Bool) w59 => BIf b57 (∃ n60 : Int, w59.cell? ⟨w.heap.size, 1, none⟩ = some (.int .i64 n60) ∧ JoinW [.bool] (fun J62 => BIf ((n60 : Int) == 0) (J62 b9 w59) (J62 false w59)) (fun (b61 : Bool) w63 => JoinW [.bool] (fun J65 => BIf b61 (J65 b13 w63) (J65 false w63)) (fun (b64 : Bool) w66 => JoinW [.bool] (fun J68 => BIf b64 (J68 b17 w66) (J68 false w66)) (fun (b67 : Bool) w69 => K (.bool b67) w69)))) (BIf ((n21 : Int) == 5) (JoinW [.bool] (fun J71 => BIf b5 (∃ n84 : Int, w59.cell? ⟨w.heap.size, 2, none⟩ = some (.int .i64 n84) ∧ J71 ((n84 : Int) == 0) w59) (J71 false w59)) (fun (b70 : Bool) w72 => JoinW [.bool] (fun J74 => BIf b70 (∃ n83 : Int, w72.cell? ⟨w.heap.size, 3, none⟩ = some (.int .i64 n83) ∧ J74 ((n83 : Int) == 0) w72) (J74 false w72)) (fun (b73 : Bool) w75 => JoinW [.bool] (fun J77 => BIf b73 (∃ n79 : Int, w75.cell? ⟨w.heap.size, 4, none⟩ = some (.int .i64 n79) ∧ CallW Try.prog 187 #[.int .i64 n79, .int .i64 (-262144), .int .i64 262143] w75 fun v80 w81 => ∃ b82 : Bool, v80 = .bool b82 ∧ J77 b82 w81) (J77 false w75)) (fun (b76 : Bool) w78 => K (.bool b76) w78)))) (BIf ((n21 : Int) == 6) (∃ n85 : Int, w59.cell? ⟨w.heap.size, 1, none⟩ = some (.int .i64 n85) ∧ JoinW [.bool] (fun J87 => BIf ((n85 : Int) == 0) (∃ n97 : Int, w59.cell? ⟨w.heap.size, 2, none⟩ = some (.int .i64 n97) ∧ J87 ((n97 : Int) == 0) w59) (J87 false w59)) (fun (b86 : Bool) w88 => JoinW [.bool] (fun J90 => BIf b86 (∃ n96 : Int, w88.cell? ⟨w.heap.size, 3, none⟩ = some (.int .i64 n96) ∧ J90 ((n96 : Int) == 0) w88) (J90 false w88)) (fun (b89 : Bool) w91 => JoinW [.bool] (fun J93 => BIf b89 (∃ n95 : Int, w91.cell? ⟨w.heap.size, 4, none⟩ = some (.int .i64 n95) ∧ J93 ((n95 : Int) == 0) w91) (J93 false w91)) (fun (b92 : Bool) w94 => K (.bool b92) w94)))) (BIf ((n21 : Int) == 7) (JoinW [.bool] (fun J99 => BIf b5 (J99 b9 w59) (J99 false w59)) (fun (b98 : Bool) w100 => JoinW [.bool] (fun J102 => BIf b98 (∃ n111 : Int, w100.cell? ⟨w.heap.size, 3, none⟩ = some (.int .i64 n111) ∧ J102 ((n111 : Int) == 0) w100) (J102 false w100)) (fun (b101 : Bool) w103 => JoinW [.bool] (fun J105 => BIf b101 (∃ n107 : Int, w103.cell? ⟨w.heap.size, 4, none⟩ = some (.int .i64 n107) ∧ CallW Try.prog 187 #[.int .i64 n107, .int .i64 0, .int .i64 15] w103 fun v108 w109 => ∃ b110 : Bool, v108 = .bool b110 ∧ J105 b110 w109) (J105 false w103)) (fun (b104 : Bool) w106 => K (.bool b104) w106)))) (K (.bool false) w59))))))))
theorem eq179 (a0_0 : Int) (a0_1 : Int) (a0_2 : Int) (a0_3 : Int) (a0_4 : Int) (w : World) (K : Value → World → Prop) : denFn Try.prog tt Try.f179 an179 [.agg #[.int .i64 a0_0, .int .i64 a0_1, .int .i64 a0_2, .int .i64 a0_3, .int .i64 a0_4]] w K = W179 a0_0 a0_1 a0_2 a0_3 a0_4 w K := by kernel_rfl
theorem ok179 : OkFn Try.prog 179 := ⟨Try.f179, Try.func179, by kernel_rfl, by kernel_rfl⟩
theorem go179 {a0_0 : Int} {a0_1 : Int} {a0_2 : Int} {a0_3 : Int} {a0_4 : Int} {w : World} {K : Value → World → Prop} (h : W179 a0_0 a0_1 a0_2 a0_3 a0_4 w K) : CallW Try.prog 179 #[.agg #[.int .i64 a0_0, .int .i64 a0_1, .int .i64 a0_2, .int .i64 a0_3, .int .i64 a0_4]] w K :=
  .inl ⟨ok179, denFn_sound tt_ok mix Try.func179 (by kernel_rfl) (eq179 a0_0 a0_1 a0_2 a0_3 a0_4 w K ▸ h)⟩

/- loop.example/g00008/spec.FormOf -/
def an180 : Ann := (.seq .leaf (.seq (.seq .leaf (.cond (.seq .leaf .leaf) .leaf)) (.seq (.seq .leaf (.cond (.seq .leaf .leaf) .leaf)) (.seq (.seq .leaf (.cond (.seq .leaf .leaf) .leaf)) (.seq (.seq .leaf (.cond (.seq .leaf .leaf) .leaf)) (.seq (.seq .leaf (.cond (.seq .leaf .leaf) .leaf)) (.seq (.seq .leaf (.cond (.seq .leaf .leaf) .leaf)) (.seq (.seq .leaf (.cond (.seq .leaf .leaf) .leaf)) (.seq (.seq .leaf (.cond (.seq .leaf .leaf) .leaf)) (.seq .leaf .leaf))))))))))
def W180 (a0 : Int) (w : World) (K : Value → World → Prop) : Prop :=
  CallW Try.prog 188 #[.int .i64 a0] w fun v1 w2 => ∃ s3 : ByteArray, v1 = .string s3 ∧ BIf (strEq s3 (⟨#[]⟩ : ByteArray)) (K (.int .i64 (-1)) w2) (BIf (decide ((a0 : Int) < 32)) (K (.int .i64 0) w2) (BIf (decide ((a0 : Int) < 48)) (K (.int .i64 1) w2) (BIf (decide ((a0 : Int) < 56)) (K (.int .i64 2) w2) (BIf (decide ((a0 : Int) < 64)) (K (.int .i64 3) w2) (BIf (decide ((a0 : Int) < 72)) (K (.int .i64 4) w2) (BIf (decide ((a0 : Int) < 80)) (K (.int .i64 5) w2) (BIf (decide ((a0 : Int) < 88)) (K (.int .i64 6) w2) (K (.int .i64 7) w2))))))))
theorem eq180 (a0 : Int) (w : World) (K : Value → World → Prop) : denFn Try.prog tt Try.f180 an180 [.int .i64 a0] w K = W180 a0 w K := by kernel_rfl
theorem ok180 : OkFn Try.prog 180 := ⟨Try.f180, Try.func180, by kernel_rfl, by kernel_rfl⟩
theorem go180 {a0 : Int} {w : World} {K : Value → World → Prop} (h : W180 a0 w K) : CallW Try.prog 180 #[.int .i64 a0] w K :=
  .inl ⟨ok180, denFn_sound tt_ok mix Try.func180 (by kernel_rfl) (eq180 a0 w K ▸ h)⟩

/- loop.example/g00008/spec.Bits -/
def an181 : Ann := (.seq .leaf (.seq (.seq .leaf (.cond (.seq .leaf .leaf) .leaf)) (.seq .leaf (.seq (.seq .leaf (.in_ (.loop 3 [(7, .int .u64), (8, .int .i64)] (.seq (.seq .leaf (.cond .leaf .leaf)) (.seq (.in_ .leaf) .leaf))))) (.seq .leaf .leaf)))))
def W181 (a0 : Int) (a1 : Int) (a2 : Int) (w : World) (K : Value → World → Prop) : Prop :=
  CallW Try.prog 189 #[.int .i64 a1, .int .i64 a2] w fun v1 w2 => ∃ b3 : Bool, v1 = .bool b3 ∧ BIf (!b3) (K (.int .u64 0) w2) (LoopW [.int .u64, .int .i64] (fun J6 => fun (n4 : Int) (n5 : Int) w7 => BIf (decide ((n5 : Int) ≥ 0)) (CallW Try.prog 190 #[.int .u64 a0, .int .i64 (IntKind.wrap .i64 (a1 + n5))] w7 fun v8 w9 => ∃ n10 : Int, v8 = .int .u64 n10 ∧ J6 (IntKind.wrap .u64 ((IntKind.wrap .u64 (n4 * 2)) + n10)) (IntKind.wrap .i64 (n5 - 1)) w9) (K (.int .u64 n4) w7)) ((0 : Int), ((IntKind.wrap .i64 (a2 - 1) : Int), ())) w2)
theorem eq181 (a0 : Int) (a1 : Int) (a2 : Int) (w : World) (K : Value → World → Prop) : denFn Try.prog tt Try.f181 an181 [.int .u64 a0, .int .i64 a1, .int .i64 a2] w K = W181 a0 a1 a2 w K := by kernel_rfl
theorem ok181 : OkFn Try.prog 181 := ⟨Try.f181, Try.func181, by kernel_rfl, by kernel_rfl⟩
theorem go181 {a0 : Int} {a1 : Int} {a2 : Int} {w : World} {K : Value → World → Prop} (h : W181 a0 a1 a2 w K) : CallW Try.prog 181 #[.int .u64 a0, .int .i64 a1, .int .i64 a2] w K :=
  .inl ⟨ok181, denFn_sound tt_ok mix Try.func181 (by kernel_rfl) (eq181 a0 a1 a2 w K ▸ h)⟩

/- loop.example/g00008/spec.l2DrawImm -/
def an182 : Ann := (.seq .leaf (.seq (.seq .leaf (.in_ (.seq .leaf (.cond (.seq .leaf .leaf) (.seq .leaf (.cond (.seq .leaf .leaf) (.seq .leaf (.cond (.seq .leaf .leaf) .leaf)))))))) (.seq .leaf (.seq (.seq .leaf (.cond (.seq .leaf .leaf) .leaf)) (.seq (.seq .leaf (.cond (.seq .leaf .leaf) .leaf)) (.seq .leaf .leaf))))))
def W182 (a0 : Option Addr) (a1 : Int) (a2 : Int) (w : World) (K : Value → World → Prop) : Prop :=
  CallW Try.prog 79 #[.pointer a0, .int .i64 5] w fun v1 w2 => ∃ n3 : Int, v1 = .int .i64 n3 ∧ BIf ((n3 : Int) == 0) (K (.int .i64 a1) w2) (BIf ((n3 : Int) == 1) (K (.int .i64 a2) w2) (BIf ((n3 : Int) == 2) (CallW Try.prog 79 #[.pointer a0, .int .i64 (IntKind.wrap .i64 ((IntKind.wrap .i64 (a2 - a1)) + 1))] w2 fun v4 w5 => ∃ n6 : Int, v4 = .int .i64 n6 ∧ K (.int .i64 (IntKind.wrap .i64 (a1 + n6))) w5) (CallW Try.prog 79 #[.pointer a0, .int .i64 24] w2 fun v7 w8 => ∃ n9 : Int, v7 = .int .i64 n9 ∧ BIf (decide ((IntKind.wrap .i64 (n9 - 8) : Int) < a1)) (K (.int .i64 a1) w8) (BIf (decide ((IntKind.wrap .i64 (n9 - 8) : Int) > a2)) (K (.int .i64 a2) w8) (K (.int .i64 (IntKind.wrap .i64 (n9 - 8))) w8)))))
theorem eq182 (a0 : Option Addr) (a1 : Int) (a2 : Int) (w : World) (K : Value → World → Prop) : denFn Try.prog tt Try.f182 an182 [.pointer a0, .int .i64 a1, .int .i64 a2] w K = W182 a0 a1 a2 w K := by kernel_rfl
theorem ok182 : OkFn Try.prog 182 := ⟨Try.f182, Try.func182, by kernel_rfl, by kernel_rfl⟩
theorem go182 {a0 : Option Addr} {a1 : Int} {a2 : Int} {w : World} {K : Value → World → Prop} (h : W182 a0 a1 a2 w K) : CallW Try.prog 182 #[.pointer a0, .int .i64 a1, .int .i64 a2] w K :=
  .inl ⟨ok182, denFn_sound tt_ok mix Try.func182 (by kernel_rfl) (eq182 a0 a1 a2 w K ▸ h)⟩

/- loop.example/g00008/spec.l2Names -/
def an183 : Ann := (.seq .leaf (.seq .leaf .leaf))
def W183  (w : World) (K : Value → World → Prop) : Prop :=
  LetW (w.alloc (.cells #[.string (⟨#[48, 49, 32, 97, 100, 100]⟩ : ByteArray), .string (⟨#[48, 50, 32, 115, 117, 98]⟩ : ByteArray), .string (⟨#[48, 51, 32, 97, 110, 100]⟩ : ByteArray), .string (⟨#[48, 52, 32, 111, 114]⟩ : ByteArray), .string (⟨#[48, 53, 32, 120, 111, 114]⟩ : ByteArray), .string (⟨#[48, 54, 32, 115, 104, 108]⟩ : ByteArray), .string (⟨#[48, 55, 32, 115, 104, 114]⟩ : ByteArray), .string (⟨#[48, 56, 32, 115, 97, 114]⟩ : ByteArray), .string (⟨#[48, 57, 32, 115, 108, 116]⟩ : ByteArray), .string (⟨#[48, 97, 32, 115, 108, 116, 117]⟩ : ByteArray), .string (⟨#[48, 98, 32, 109, 117, 108]⟩ : ByteArray), .string (⟨#[48, 99, 32, 109, 117, 108, 104]⟩ : ByteArray), .string (⟨#[48, 100, 32, 109, 117, 108, 104, 117]⟩ : ByteArray), .string (⟨#[48, 101, 32, 100, 105, 118]⟩ : ByteArray), .string (⟨#[48, 102, 32, 100, 105, 118, 117]⟩ : ByteArray), .string (⟨#[49, 48, 32, 114, 101, 109]⟩ : ByteArray), .string (⟨#[49, 49, 32, 114, 101, 109, 117]⟩ : ByteArray), .string (⟨#[49, 50, 32, 97, 100, 100, 119]⟩ : ByteArray), .string (⟨#[49, 51, 32, 115, 117, 98, 119]⟩ : ByteArray), .string (⟨#[49, 52, 32, 109, 117, 108, 119]⟩ : ByteArray), .string (⟨#[49, 53, 32, 100, 105, 118, 119]⟩ : ByteArray), .string (⟨#[49, 54, 32, 114, 101, 109, 119]⟩ : ByteArray), .string (⟨#[49, 55, 32, 115, 104, 108, 119]⟩ : ByteArray), .string (⟨#[49, 56, 32, 115, 104, 114, 119]⟩ : ByteArray), .string (⟨#[49, 57, 32, 115, 97, 114, 119]⟩ : ByteArray), .string (⟨#[49, 97, 32, 115, 119, 97, 112]⟩ : ByteArray), .string (⟨#[49, 98, 32, 102, 101, 116, 99, 104, 97, 100, 100]⟩ : ByteArray), .string (⟨#[50, 48, 32, 97, 100, 100, 105]⟩ : ByteArray), .string (⟨#[50, 49, 32, 97, 110, 100, 105]⟩ : ByteArray), .string (⟨#[50, 50, 32, 111, 114, 105]⟩ : ByteArray), .string (⟨#[50, 51, 32, 120, 111, 114, 105]⟩ : ByteArray), .string (⟨#[50, 52, 32, 115, 104, 108, 105]⟩ : ByteArray), .string (⟨#[50, 53, 32, 115, 104, 114, 105]⟩ : ByteArray), .string (⟨#[50, 54, 32, 115, 97, 114, 105]⟩ : ByteArray), .string (⟨#[50, 55, 32, 115, 108, 116, 105]⟩ : ByteArray), .string (⟨#[50, 56, 32, 115, 108, 116, 117, 105]⟩ : ByteArray), .string (⟨#[50, 57, 32, 97, 100, 100, 105, 119]⟩ : ByteArray), .string (⟨#[51, 48, 32, 108, 100]⟩ : ByteArray), .string (⟨#[51, 49, 32, 108, 119]⟩ : ByteArray), .string (⟨#[51, 50, 32, 108, 119, 117]⟩ : ByteArray), .string (⟨#[51, 51, 32, 108, 104]⟩ : ByteArray), .string (⟨#[51, 52, 32, 108, 104, 117]⟩ : ByteArray), .string (⟨#[51, 53, 32, 108, 98]⟩ : ByteArray), .string (⟨#[51, 54, 32, 108, 98, 117]⟩ : ByteArray), .string (⟨#[51, 55, 32, 106, 97, 108, 114]⟩ : ByteArray), .string (⟨#[51, 56, 32, 115, 100]⟩ : ByteArray), .string (⟨#[51, 57, 32, 115, 119]⟩ : ByteArray), .string (⟨#[51, 97, 32, 115, 104]⟩ : ByteArray), .string (⟨#[51, 98, 32, 115, 98]⟩ : ByteArray), .string (⟨#[52, 48, 32, 98, 101, 113]⟩ : ByteArray), .string (⟨#[52, 49, 32, 98, 110, 101]⟩ : ByteArray), .string (⟨#[52, 50, 32, 98, 108, 116]⟩ : ByteArray), .string (⟨#[52, 51, 32, 98, 103, 101]⟩ : ByteArray), .string (⟨#[52, 52, 32, 98, 108, 116, 117]⟩ : ByteArray), .string (⟨#[52, 53, 32, 98, 103, 101, 117]⟩ : ByteArray), .string (⟨#[52, 56, 32, 108, 117, 105]⟩ : ByteArray), .string (⟨#[52, 57, 32, 97, 117, 105, 112, 99]⟩ : ByteArray), .string (⟨#[52, 97, 32, 106, 97, 108]⟩ : ByteArray), .string (⟨#[53, 48, 32, 101, 99, 97, 108, 108]⟩ : ByteArray), .string (⟨#[53, 49, 32, 101, 98, 114, 101, 97, 107]⟩ : ByteArray), .string (⟨#[53, 50, 32, 109, 114, 101, 116]⟩ : ByteArray), .string (⟨#[53, 51, 32, 119, 102, 105]⟩ : ByteArray), .string (⟨#[53, 52, 32, 102, 101, 110, 99, 101]⟩ : ByteArray), .string (⟨#[53, 56, 32, 99, 115, 114, 114, 119]⟩ : ByteArray), .string (⟨#[53, 57, 32, 99, 115, 114, 114, 115]⟩ : ByteArray), .string (⟨#[53, 97, 32, 99, 115, 114, 114, 99]⟩ : ByteArray)] 9)) fun w1 => K (.slice (some ⟨w.heap.size, 0, none⟩) 66 66) w1
theorem eq183  (w : World) (K : Value → World → Prop) : denFn Try.prog tt Try.f183 an183 [] w K = W183  w K := by kernel_rfl
theorem ok183 : OkFn Try.prog 183 := ⟨Try.f183, Try.func183, by kernel_rfl, by kernel_rfl⟩
theorem go183 {w : World} {K : Value → World → Prop} (h : W183  w K) : CallW Try.prog 183 #[] w K :=
  .inl ⟨ok183, denFn_sound tt_ok mix Try.func183 (by kernel_rfl) (eq183  w K ▸ h)⟩

/- loop.example/g00008/spec.l2Code -/
def an184 : Ann := (.seq .leaf (.seq (.draw [0, 1, 3, 7, 0, 16, 55, 127, 255] [0, 1, 4, 5, 2, 3, 6, 7, 8]) .leaf))
def W184 (a0 : ByteArray) (w : World) (K : Value → World → Prop) : Prop :=
  0 ≤ (0 : Int) ∧ (0 : Int) < (a0.size : Int) ∧ 0 ≤ (1 : Int) ∧ (1 : Int) < (a0.size : Int) ∧ CallW Try.prog 178 #[.int .u8 (btI a0 0)] w.drew fun v1 w2 => ∃ n3 : Int, v1 = .int .i64 n3 ∧ CallW Try.prog 178 #[.int .u8 (btI a0 1)] w2 fun v4 w5 => ∃ n6 : Int, v4 = .int .i64 n6 ∧ K (.int .i64 (IntKind.wrap .i64 ((IntKind.wrap .i64 (n3 * 16)) + n6))) w5
theorem eq184 (a0 : ByteArray) (w : World) (K : Value → World → Prop) : denFn Try.prog tt Try.f184 an184 [.string a0] w K = W184 a0 w K := by kernel_rfl
theorem ok184 : OkFn Try.prog 184 := ⟨Try.f184, Try.func184, by kernel_rfl, by kernel_rfl⟩
theorem go184 {a0 : ByteArray} {w : World} {K : Value → World → Prop} (h : W184 a0 w K) : CallW Try.prog 184 #[.string a0] w K :=
  .inl ⟨ok184, denFn_sound tt_ok mix Try.func184 (by kernel_rfl) (eq184 a0 w K ▸ h)⟩

/- loop.example/g00008/spec.l2In -/
def an187 : Ann := (.seq .leaf (.seq (.reg [(4, none), (4, some (0, [(14, .bool)])), (1, none)]) .leaf))
def W187 (a0 : Int) (a1 : Int) (a2 : Int) (w : World) (K : Value → World → Prop) : Prop :=
  JoinW [.bool] (fun J2 => BIf (decide ((a1 : Int) ≤ a0)) (J2 (decide ((a0 : Int) ≤ a2)) w) (J2 false w)) (fun (b1 : Bool) w3 => K (.bool b1) w3)
theorem eq187 (a0 : Int) (a1 : Int) (a2 : Int) (w : World) (K : Value → World → Prop) : denFn Try.prog tt Try.f187 an187 [.int .i64 a0, .int .i64 a1, .int .i64 a2] w K = W187 a0 a1 a2 w K := by kernel_rfl
theorem ok187 : OkFn Try.prog 187 := ⟨Try.f187, Try.func187, by kernel_rfl, by kernel_rfl⟩
theorem go187 {a0 : Int} {a1 : Int} {a2 : Int} {w : World} {K : Value → World → Prop} (h : W187 a0 a1 a2 w K) : CallW Try.prog 187 #[.int .i64 a0, .int .i64 a1, .int .i64 a2] w K :=
  .inl ⟨ok187, denFn_sound tt_ok mix Try.func187 (by kernel_rfl) (eq187 a0 a1 a2 w K ▸ h)⟩

/- loop.example/g00008/spec.Mnemonic -/
def an188 : Ann := (.seq .leaf (.seq .leaf (.seq (.seq .leaf (.in_ (.loop 9 [(4, .int .i64)] (.seq (.seq .leaf (.cond .leaf .leaf)) (.seq (.in_ (.seq .leaf (.cond (.seq .leaf .leaf) .leaf))) .leaf))))) (.seq .leaf .leaf))))
def W188 (a0 : Int) (w : World) (K : Value → World → Prop) : Prop :=
  CallW Try.prog 183 #[] w fun v1 w2 => ∃ l3 : Sl, v1 = .slice l3.a l3.len l3.cap ∧ LoopW [.int .i64] (fun J5 => fun (n4 : Int) w6 => BIf (decide ((n4 : Int) < ((l3.len : Nat) : Int))) (0 ≤ (n4 : Int) ∧ (n4 : Int) < ((l3.len : Nat) : Int) ∧ ∃ q7 : Addr, (l3.a : Option Addr) = some q7 ∧ ∃ s8 : ByteArray, w6.cell? (q7.add (Int.toNat n4 * 1)) = some (.string s8) ∧ CallW Try.prog 184 #[.string s8] w6 fun v9 w10 => ∃ n11 : Int, v9 = .int .i64 n11 ∧ BIf ((n11 : Int) == a0) (0 ≤ (n4 : Int) ∧ (n4 : Int) < ((l3.len : Nat) : Int) ∧ ∃ q12 : Addr, (l3.a : Option Addr) = some q12 ∧ ∃ s13 : ByteArray, w10.cell? (q12.add (Int.toNat n4 * 1)) = some (.string s13) ∧ 0 ≤ (3 : Int) ∧ (3 : Int) ≤ (s13.size : Int) ∧ K (.string (ByteArray.extract s13 (Int.toNat 3) (Int.toNat (s13.size : Int)))) w10) (J5 (IntKind.wrap .i64 (n4 + 1)) w10)) (K (.string (⟨#[]⟩ : ByteArray)) w6)) ((0 : Int), ()) w2
theorem eq188 (a0 : Int) (w : World) (K : Value → World → Prop) : denFn Try.prog tt Try.f188 an188 [.int .i64 a0] w K = W188 a0 w K := by kernel_rfl
theorem ok188 : OkFn Try.prog 188 := ⟨Try.f188, Try.func188, by kernel_rfl, by kernel_rfl⟩
theorem go188 {a0 : Int} {w : World} {K : Value → World → Prop} (h : W188 a0 w K) : CallW Try.prog 188 #[.int .i64 a0] w K :=
  .inl ⟨ok188, denFn_sound tt_ok mix Try.func188 (by kernel_rfl) (eq188 a0 w K ▸ h)⟩

/- loop.example/g00008/spec.l1Field -/
def an189 : Ann := (.seq .leaf (.seq (.reg [(3, none), (3, some (3, [(10, .bool)])), (1, none), (3, some (3, [(14, .bool)])), (1, none), (5, some (0, [(20, .bool)])), (1, none)]) .leaf))
def W189 (a0 : Int) (a1 : Int) (w : World) (K : Value → World → Prop) : Prop :=
  JoinW [.bool] (fun J2 => BIf (decide ((a0 : Int) ≥ 0)) (J2 (decide ((a0 : Int) ≤ 63)) w) (J2 false w)) (fun (b1 : Bool) w3 => JoinW [.bool] (fun J5 => BIf b1 (J5 (decide ((a1 : Int) ≥ 1)) w3) (J5 false w3)) (fun (b4 : Bool) w6 => JoinW [.bool] (fun J8 => BIf b4 (J8 (decide ((a1 : Int) ≤ (IntKind.wrap .i64 (64 - a0)))) w6) (J8 false w6)) (fun (b7 : Bool) w9 => K (.bool b7) w9)))
theorem eq189 (a0 : Int) (a1 : Int) (w : World) (K : Value → World → Prop) : denFn Try.prog tt Try.f189 an189 [.int .i64 a0, .int .i64 a1] w K = W189 a0 a1 w K := by kernel_rfl
theorem ok189 : OkFn Try.prog 189 := ⟨Try.f189, Try.func189, by kernel_rfl, by kernel_rfl⟩
theorem go189 {a0 : Int} {a1 : Int} {w : World} {K : Value → World → Prop} (h : W189 a0 a1 w K) : CallW Try.prog 189 #[.int .i64 a0, .int .i64 a1] w K :=
  .inl ⟨ok189, denFn_sound tt_ok mix Try.func189 (by kernel_rfl) (eq189 a0 a1 w K ▸ h)⟩

/- loop.example/g00008/spec.l1Bit -/
def an190 : Ann := (.seq .leaf (.seq .leaf .leaf))
def W190 (a0 : Int) (a1 : Int) (w : World) (K : Value → World → Prop) : Prop :=
  CallW Try.prog 191 #[.int .i64 a1] w fun v1 w2 => ∃ n3 : Int, v1 = .int .u64 n3 ∧ (n3 : Int) ≠ 0 ∧ (2 : Int) ≠ 0 ∧ K (.int .u64 (Int.tmod (IntKind.wrap .u64 (Int.tdiv a0 n3)) 2)) w2
theorem eq190 (a0 : Int) (a1 : Int) (w : World) (K : Value → World → Prop) : denFn Try.prog tt Try.f190 an190 [.int .u64 a0, .int .i64 a1] w K = W190 a0 a1 w K := by kernel_rfl
theorem ok190 : OkFn Try.prog 190 := ⟨Try.f190, Try.func190, by kernel_rfl, by kernel_rfl⟩
theorem go190 {a0 : Int} {a1 : Int} {w : World} {K : Value → World → Prop} (h : W190 a0 a1 w K) : CallW Try.prog 190 #[.int .u64 a0, .int .i64 a1] w K :=
  .inl ⟨ok190, denFn_sound tt_ok mix Try.func190 (by kernel_rfl) (eq190 a0 a1 w K ▸ h)⟩

/- loop.example/g00008/spec.l1Pow -/
def an191 : Ann := (.seq .leaf (.seq .leaf (.seq (.seq .leaf (.in_ (.loop 1 [(3, .int .u64), (4, .int .i64)] (.seq (.seq .leaf (.cond .leaf .leaf)) (.seq (.in_ .leaf) .leaf))))) (.seq .leaf .leaf))))
def W191 (a0 : Int) (w : World) (K : Value → World → Prop) : Prop :=
  LoopW [.int .u64, .int .i64] (fun J3 => fun (n1 : Int) (n2 : Int) w4 => BIf (decide ((n2 : Int) < a0)) (J3 (IntKind.wrap .u64 (n1 * 2)) (IntKind.wrap .i64 (n2 + 1)) w4) (K (.int .u64 n1) w4)) ((1 : Int), ((0 : Int), ())) w
theorem eq191 (a0 : Int) (w : World) (K : Value → World → Prop) : denFn Try.prog tt Try.f191 an191 [.int .i64 a0] w K = W191 a0 w K := by kernel_rfl
theorem ok191 : OkFn Try.prog 191 := ⟨Try.f191, Try.func191, by kernel_rfl, by kernel_rfl⟩
theorem go191 {a0 : Int} {w : World} {K : Value → World → Prop} (h : W191 a0 w K) : CallW Try.prog 191 #[.int .i64 a0] w K :=
  .inl ⟨ok191, denFn_sound tt_ok mix Try.func191 (by kernel_rfl) (eq191 a0 w K ▸ h)⟩

end Go.Proofs.Ytenhcpjlkmbedaa

/- Checksums, both sides. Conditions: none. -/
set_option linter.unusedVariables false
set_option linter.unusedSimpArgs false
namespace Go.Proofs.Ytenhcpjlkmbedaa
open Go Go.Den
structure Bytes (w : World) (s : Sl) (m : List Int) : Prop where
  len : s.len = m.length
  cap : s.len ≤ s.cap
  row : RowAt w s.a s.len (m.map (Value.int .u8))
  rng : ∀ x, x ∈ m → 0 ≤ x ∧ x ≤ 255
  small : m.length ≤ 1099511627776
theorem Bytes.get {w : World} {s : Sl} {m : List Int} (h : Bytes w s m) {i : Nat} {x : Int} (hx : m[i]? = some x) : ∃ p, s.a = some p ∧ w.cell? (p.add (i * 1)) = some (.int .u8 x) := by
  obtain ⟨p, hp, hc⟩ := h.row.cell (i := i) (v := .int .u8 x) (by simp [hx])
  exact ⟨p, hp, by rw [Nat.mul_one]; exact hc⟩
def crcB (x : Int) : Nat → Int
  | 0 => x
  | k + 1 => if crcB x k % 2 = 1 then xorI .u64 (crcB x k / 2) 3988292384 else crcB x k / 2
def crcF (m : List Int) : Nat → Int
  | 0 => 4294967295
  | k + 1 => match m[k]? with | some x => crcB (xorI .u64 (crcF m k) x) 8 | none => crcF m k
def crc (m : List Int) : Int := xorI .u64 (crcF m m.length) 4294967295
theorem crcB_rng {x : Int} (h : 0 ≤ x ∧ x < 18446744073709551616) : ∀ k, 0 ≤ crcB x k ∧ crcB x k < 18446744073709551616
  | 0 => h
  | k + 1 => by
    have ih := crcB_rng h k
    unfold crcB
    split
    · exact xorI_rng _ _
    · omega
theorem crcF_step {m : List Int} {k : Nat} {x : Int} (hx : m[k]? = some x) : crcF m (k + 1) = crcB (xorI .u64 (crcF m k) x) 8 := by rw [crcF, hx]
theorem c70 {s : Sl} {m : List Int} {w : World} (h : Bytes w s m) : CallW Try.prog 70 #[.slice s.a s.len s.cap] w (fun v w' => v = .int .u64 (crc m) ∧ w' = w) := by
  refine go70 ?_
  unfold W70
  have hl := h.len
  have hs := h.small
  refine LoopW.m2 (fun (n i : Int) w' => ∃ k : Nat, i = k ∧ k ≤ m.length ∧ n = crcF m k ∧ w' = w) (fun _ (i : Int) _ => ((m.length : Int) - i).toNat) ⟨0, rfl, by omega, rfl, rfl⟩ ?_
  rintro (n : Int) (i : Int) w4 ⟨k, rfl, hk, rfl, rfl⟩ J hJ
  rw [hl]
  refine BIf.dec (fun hlt => ?_) (fun hge => ?_)
  · obtain ⟨x, hx⟩ : ∃ x, m[k]? = some x := ⟨_, List.getElem?_eq_getElem (by omega)⟩
    obtain ⟨p, hp, hc⟩ := h.get hx
    have hxr := h.rng x (List.mem_of_getElem? hx)
    refine ⟨by omega, by omega, p, hp, _, hc, ?_⟩
    rw [wu64 (n := x) (by omega) (by omega)]
    have hr0 := xorI_rng (crcF m k) x
    refine LoopW.m2 (fun (y j : Int) w' => ∃ q : Nat, j = q ∧ q ≤ 8 ∧ y = crcB (xorI .u64 (crcF m k) x) q ∧ w' = w4) (fun _ (j : Int) _ => (8 - j).toNat) ⟨0, rfl, by omega, rfl, rfl⟩ ?_
    rintro (y : Int) (j : Int) w5 ⟨q, rfl, hq, rfl, rfl⟩ J2 hJ2
    have hr := crcB_rng hr0 q
    refine BIf.dec (fun hlt2 => ?_) (fun hge2 => ?_)
    · rw [w64 (n := (q : Int) + 1) (by omega) (by omega)]
      rw [andI_one hr.1 hr.2, shrI_one]
      refine ⟨by omega, BIf.of (fun hb => ?_) (fun hb => ?_)⟩
      · have hb : crcB (xorI .u64 (crcF m k) x) q % 2 = 1 := by simpa using hb
        exact hJ2 _ _ _ ⟨q + 1, by omega, by omega, by rw [crcB, if_pos hb], rfl⟩ (by omega)
      · have hb : ¬ crcB (xorI .u64 (crcF m k) x) q % 2 = 1 := by simpa using hb
        exact hJ2 _ _ _ ⟨q + 1, by omega, by omega, by rw [crcB, if_neg hb], rfl⟩ (by omega)
    · have hq8 : q = 8 := by omega
      subst hq8
      rw [w64 (by omega) (by omega)]
      exact hJ _ _ _ ⟨k + 1, by omega, by omega, (crcF_step hx).symm, rfl⟩ (by omega)
  · have hk2 : k = m.length := by omega
    subst hk2
    exact ⟨rfl, rfl⟩
theorem c82 {s : Sl} {m : List Int} {w : World} (h : Bytes w s m) : CallW Try.prog 82 #[.slice s.a s.len s.cap] w (fun v w' => v = .int .u64 (crc m) ∧ w' = w) := by
  refine go82 ?_
  unfold W82
  have hl := h.len
  have hs := h.small
  refine LoopW.m2 (fun (n i : Int) w' => ∃ k : Nat, i = k ∧ k ≤ m.length ∧ n = crcF m k ∧ w' = w) (fun _ (i : Int) _ => ((m.length : Int) - i).toNat) ⟨0, rfl, by omega, rfl, rfl⟩ ?_
  rintro (n : Int) (i : Int) w4 ⟨k, rfl, hk, rfl, rfl⟩ J hJ
  rw [hl]
  refine BIf.dec (fun hlt => ?_) (fun hge => ?_)
  · obtain ⟨x, hx⟩ : ∃ x, m[k]? = some x := ⟨_, List.getElem?_eq_getElem (by omega)⟩
    obtain ⟨p, hp, hc⟩ := h.get hx
    have hxr := h.rng x (List.mem_of_getElem? hx)
    refine ⟨by omega, by omega, p, hp, _, hc, ?_⟩
    rw [wu64 (n := x) (by omega) (by omega)]
    have hr0 := xorI_rng (crcF m k) x
    refine LoopW.m2 (fun (y j : Int) w' => ∃ q : Nat, j = q ∧ q ≤ 8 ∧ y = crcB (xorI .u64 (crcF m k) x) q ∧ w' = w4) (fun _ (j : Int) _ => (8 - j).toNat) ⟨0, rfl, by omega, rfl, rfl⟩ ?_
    rintro (y : Int) (j : Int) w5 ⟨q, rfl, hq, rfl, rfl⟩ J2 hJ2
    have hr := crcB_rng hr0 q
    refine BIf.dec (fun hlt2 => ?_) (fun hge2 => ?_)
    · rw [w64 (n := (q : Int) + 1) (by omega) (by omega)]
      rw [Int.tmod_eq_emod_of_nonneg hr.1, Int.tdiv_eq_ediv_of_nonneg hr.1, wu64 (n := crcB (xorI .u64 (crcF m k) x) q / 2) (by omega) (by omega)]
      refine ⟨by omega, by omega, BIf.of (fun hb => ?_) (fun hb => ?_)⟩
      · have hb : crcB (xorI .u64 (crcF m k) x) q % 2 = 1 := by simpa using hb
        exact hJ2 _ _ _ ⟨q + 1, by omega, by omega, by rw [crcB, if_pos hb], rfl⟩ (by omega)
      · have hb : ¬ crcB (xorI .u64 (crcF m k) x) q % 2 = 1 := by simpa using hb
        exact hJ2 _ _ _ ⟨q + 1, by omega, by omega, by rw [crcB, if_neg hb], rfl⟩ (by omega)
    · have hq8 : q = 8 := by omega
      subst hq8
      rw [w64 (by omega) (by omega)]
      exact hJ _ _ _ ⟨k + 1, by omega, by omega, (crcF_step hx).symm, rfl⟩ (by omega)
  · have hk2 : k = m.length := by omega
    subst hk2
    exact ⟨rfl, rfl⟩
end Go.Proofs.Ytenhcpjlkmbedaa

/- Numbers as eight bytes, both sides. Conditions: none. -/
set_option linter.unusedVariables false
set_option linter.unusedSimpArgs false
namespace Go.Proofs.Ytenhcpjlkmbedaa
open Go Go.Den
def le (x : Int) : Nat → List Int
  | 0 => []
  | k + 1 => le x k ++ [x / ((256 ^ k : Nat) : Int) % 256]
theorem le_len (x : Int) : ∀ k, (le x k).length = k
  | 0 => rfl
  | k + 1 => by unfold le; rw [List.length_append, le_len x k]; rfl
def putN (m : List Int) (a : Nat) (x : Int) : Nat → List Int
  | 0 => m
  | k + 1 => (putN m a x k).set (a + k) (x / ((256 ^ k : Nat) : Int) % 256)
theorem putN_len (m : List Int) (a : Nat) (x : Int) : ∀ k, (putN m a x k).length = m.length
  | 0 => rfl
  | k + 1 => by unfold putN; rw [List.length_set, putN_len m a x k]
theorem pow256 : ∀ k : Nat, ((2 ^ (8 * k) : Nat) : Int) = ((256 ^ k : Nat) : Int) := fun k => by rw [Nat.pow_mul]
end Go.Proofs.Ytenhcpjlkmbedaa

/- Words of eight bytes, read on both sides. Conditions: none. -/
set_option linter.unusedVariables false
set_option linter.unusedSimpArgs false
namespace Go.Proofs.Ytenhcpjlkmbedaa
open Go Go.Den
def byt (m : List Int) (i : Int) : Int := m.getD i.toNat 0
/-- Bytes that are lent. -/
theorem Bytes.at {w : World} {s : Sl} {m : List Int} (h : Bytes w s m) {i : Int} (h0 : 0 ≤ i) (h1 : i < m.length) : ∃ p, s.a = some p ∧ w.cell? (p.add (i.toNat * 1)) = some (.int .u8 (byt m i)) := by
  have hi : i.toNat < m.length := by omega
  obtain ⟨p, hp, hc⟩ := h.row.cell (i := i.toNat) (v := .int .u8 (byt m i)) (by rw [List.getElem?_map, List.getElem?_eq_getElem hi]; simp [byt, List.getD_eq_getElem?_getD, List.getElem?_eq_getElem hi])
  exact ⟨p, hp, by rw [Nat.mul_one]; exact hc⟩
theorem byt_rng {m : List Int} (h : ∀ x, x ∈ m → 0 ≤ x ∧ x ≤ 255) (i : Int) : 0 ≤ byt m i ∧ byt m i ≤ 255 := by
  unfold byt
  rw [List.getD_eq_getElem?_getD]
  cases hx : m[i.toNat]? with
  | none => simp
  | some x => exact h x (List.mem_of_getElem? hx)
def hornr (m : List Int) (at_ : Int) : Nat → Int → Int
  | 0, x => x
  | i + 1, x => hornr m at_ i (x * 256 + byt m (at_ + (i : Int)))
def B256 : Nat → Int
  | 0 => 1
  | n + 1 => 256 * B256 n
/-! ## Bits -/
theorem ofInt_nat {y : Int} (h0 : 0 ≤ y) (h1 : y < 18446744073709551616) : (BitVec.ofInt 64 y).toNat = y.toNat := by
  rw [BitVec.toNat_ofInt]
  have : y % ((2 ^ 64 : Nat) : Int) = y := Int.emod_eq_of_lt h0 (by simpa using h1)
  rw [this]
theorem shl_byte {v : Int} (h0 : 0 ≤ v) (h1 : v < 72057594037927936) : shlI .u64 v 8 = v * 256 := by
  unfold shlI
  show IntKind.u64.wrap (v * 2 ^ (min (Int.toNat 8) 64)) = _
  rw [show v * 2 ^ (min (Int.toNat 8) 64) = v * 256 from rfl, wu64 (by omega) (by omega)]
theorem or_byte {v b : Int} (h0 : 0 ≤ v) (h1 : v < 72057594037927936) (hb0 : 0 ≤ b) (hb1 : b ≤ 255) : orI .u64 (shlI .u64 v 8) (IntKind.wrap .u64 b) = v * 256 + b := by
  rw [shl_byte h0 h1, wu64 hb0 (by omega)]
  unfold orI
  show IntKind.u64.wrap ((BitVec.ofInt 64 (v * 256) ||| BitVec.ofInt 64 b).toNat : Int) = _
  rw [BitVec.toNat_or, ofInt_nat (by omega) (by omega), ofInt_nat (by omega) (by omega)]
  obtain ⟨n, rfl⟩ := Int.eq_ofNat_of_zero_le h0
  obtain ⟨c, rfl⟩ := Int.eq_ofNat_of_zero_le hb0
  have h := Nat.shiftLeft_add_eq_or_of_lt (show c < 2 ^ 8 by omega) n
  rw [show ((n : Int) * 256).toNat = n <<< 8 by rw [Nat.shiftLeft_eq]; omega, Int.toNat_natCast, ← h, Nat.shiftLeft_eq, wu64 (by omega) (by omega)]
  omega
end Go.Proofs.Ytenhcpjlkmbedaa

/- Sectors, both sides. Conditions: none. -/
set_option linter.unusedVariables false
set_option linter.unusedSimpArgs false
namespace Go.Proofs.Ytenhcpjlkmbedaa
open Go Go.Den
theorem plain_u8 {l : List Int} : ∀ v, v ∈ l.map (Value.int .u8) → plainB v = true := fun v hv => by obtain ⟨x, _, rfl⟩ := List.mem_map.1 hv; rfl
end Go.Proofs.Ytenhcpjlkmbedaa

/- Writes, zeros, comparisons. Conditions: none. -/
set_option linter.unusedVariables false
set_option linter.unusedSimpArgs false
namespace Go.Proofs.Ytenhcpjlkmbedaa
open Go Go.Den
end Go.Proofs.Ytenhcpjlkmbedaa

/- Comparisons, filling. Conditions: none. -/
set_option linter.unusedVariables false
set_option linter.unusedSimpArgs false
namespace Go.Proofs.Ytenhcpjlkmbedaa
open Go Go.Den
end Go.Proofs.Ytenhcpjlkmbedaa

/- The types of the laws' parameters, as values of Lean's. Conditions: none. -/
set_option linter.unusedVariables false
set_option maxRecDepth 100000
namespace Go.Proofs.Ytenhcpjlkmbedaa
open Go Go.Den
theorem o5 : Opens Try.prog 5 (cInt .u8) := opens_int Try.underlying5
theorem o41 : Opens Try.prog 41 (cSlice (cInt .u8)) := opens_slice Try.underlying41 (by kernel_rfl) o5
end Go.Proofs.Ytenhcpjlkmbedaa

/- The law's own functions over trees: copies, sizes, comparisons, marks; printed by a program. Conditions: none. -/
set_option linter.unusedVariables false
set_option linter.unusedSimpArgs false
set_option maxRecDepth 4000
namespace Go.Proofs.Ytenhcpjlkmbedaa
open Go Go.Den

/- szByteS -/
/- szDiskWrite -/
/- szDiskWriteS -/
/- toByteS -/
/- toDiskWrite -/
/- toDiskWriteS -/
/- eqByteS -/
/- eqDiskWrite -/
/- eqDiskWriteS -/
/- markByteS -/
/- markDiskWriteS -/
/- heldByteS -/
/- heldDiskWriteS -/
end Go.Proofs.Ytenhcpjlkmbedaa

/- The journal's heads, both sides. Conditions: none. -/
set_option linter.unusedVariables false
set_option linter.unusedSimpArgs false
namespace Go.Proofs.Ytenhcpjlkmbedaa
open Go Go.Den
theorem nums_set {k : IntKind} {m : List Int} {i : Nat} {x : Int} {a : Int} (h : m[i]? = some a) : (nums k m).set i ([Ce.v (.int k a)].set 0 (.v (.int k x))) = nums k (m.set i x) := by unfold nums; rw [List.map_set]; rfl
end Go.Proofs.Ytenhcpjlkmbedaa

/- The journal read: what is asked of it, both sides. Conditions: none. -/
set_option linter.unusedVariables false
set_option linter.unusedSimpArgs false
namespace Go.Proofs.Ytenhcpjlkmbedaa
open Go Go.Den
/-! ## Words and their bytes -/
/-! ## What is asked -/
theorem num_inj : ∀ {a b : List Int}, (∀ x, x ∈ a → 0 ≤ x ∧ x ≤ 255) → (∀ x, x ∈ b → 0 ≤ x ∧ x ≤ 255) → a.map (fun n => UInt8.ofNat n.toNat) = b.map (fun n => UInt8.ofNat n.toNat) → a = b
  | [], [], _, _, _ => rfl
  | [], y :: b, _, _, h => by simp at h
  | x :: a, [], _, _, h => by simp at h
  | x :: a, y :: b, ha, hb, h => by
    simp only [List.map_cons, List.cons.injEq] at h
    have hx := ha x (by simp)
    have hy := hb y (by simp)
    have h1 := congrArg UInt8.toNat h.1
    rw [UInt8.toNat_ofNat', UInt8.toNat_ofNat'] at h1
    rw [num_inj (fun z hz => ha z (by simp [hz])) (fun z hz => hb z (by simp [hz])) h.2, show x = y by omega]
theorem str_eq {a b : List Int} (ha : ∀ x, x ∈ a → 0 ≤ x ∧ x ≤ 255) (hb : ∀ x, x ∈ b → 0 ≤ x ∧ x ≤ 255) : strEq (strOfNums a) (strOfNums b) = true ↔ a = b := by
  rw [strEq_iff]
  constructor
  · intro h
    have := congrArg (fun s => s.data.toList) h
    simp only [strOfNums_data] at this
    exact num_inj ha hb this
  · rintro rfl; rfl
end Go.Proofs.Ytenhcpjlkmbedaa

/- The journal's plan, both sides. Conditions: none. -/
set_option linter.unusedVariables false
set_option linter.unusedSimpArgs false
namespace Go.Proofs.Ytenhcpjlkmbedaa
open Go Go.Den
end Go.Proofs.Ytenhcpjlkmbedaa

/- A cache of sectors (plain): what a step does, and that room does not matter. Conditions: none. -/
namespace Go.Cc
/-! ## What is kept -/
end Go.Cc

/- A cache of sectors (plain): fetching a sector changes nothing of what is seen. Conditions: none. -/
namespace Go.Cc
theorem set_id {α : Type} {l : List α} {i : Nat} {x : α} (h : l[i]? = some x) : l.set i x = l := by
  apply List.ext_getElem?
  intro j
  by_cases hij : i = j
  · subst hij
    rw [List.getElem?_set_self (List.getElem?_eq_some_iff.1 h).1, h]
  · rw [List.getElem?_set_ne hij]
end Go.Cc

/- A cache of sectors (plain): a step; what is read and what is in the end on the disk do not hang on the room. Conditions: none. -/
namespace Go.Cc
end Go.Cc

/- A cache of sectors (plain): a step and a run; the room does not matter. Conditions: none. -/
namespace Go.Cc
/-! ## A run -/
end Go.Cc

/- A cache of sectors (plain): two runs with other room read alike and leave one disk. Conditions: none. -/
namespace Go.Cc
end Go.Cc

/- A cache of sectors (plain): a step of the reference, of all kinds; what is safe stays so. Conditions: none. -/
namespace Go.Cc
end Go.Cc

/- A cache of sectors (plain): what the reference's step, of all kinds, keeps (for the draws). Conditions: none. -/
namespace Go.Cc
end Go.Cc

/- Draws: the cursor (seat a). Conditions: none. -/
set_option linter.unusedVariables false
set_option linter.unusedSimpArgs false
namespace Go.Proofs.Ytenhcpjlkmbedaa
open Go Go.Den
theorem s138 {w0 w : World} {As : List Asr} (h : SH w0 w As) (n : Nat) {cb : Nat} {s : Sl} (hA : As[n]? = some (aC cb s)) (hb : CurB w0 s) :
    CallW Try.prog 138 #[.pointer (some ⟨cb, 0, none⟩)] w (KD w0 As (fun x => 0 ≤ x ∧ x ≤ 255)) := by
  refine go138 ?_
  unfold W138
  have hn := (List.getElem?_eq_some_iff.1 hA).1
  obtain ⟨i, x, hi, h2⟩ := h.openC n hA
  have g : ∀ {A : Asr}, (As.set n A)[n]? = some A := List.getElem?_set_self hn
  refine ⟨_, rfl, _, h2.cellP n g rfl, _, rfl, ?_⟩
  refine h2.setVP n g rfl (fun w4 h4 _ => ?_)
  rw [List.set_set] at h4
  have h5 := h4.drew
  refine ⟨_, rfl, _, h5.cellP n g rfl, by decide, _, rfl, _, h5.cellP n g rfl, by decide, _, rfl, _, h5.drew.cellP n g rfl, _, rfl, s, h5.drew.cellP n g rfl, ?_⟩
  refine BIf.dec (fun hlt => ?_) (fun hge => ?_)
  · have h6 := h5.drew.drew
    obtain ⟨q, m, hq, hc, hm⟩ := hb.at_ i.toNat (by omega)
    have hfew := hb.few
    refine ⟨_, rfl, s, h6.cellP n g rfl, _, rfl, _, h6.cellP n g rfl, hi.1, hlt, q, hq, m, h6.ext.cell hc, _, rfl, _, h6.cellP n g rfl, _, rfl, ?_⟩
    refine h6.setVP n g rfl (fun w22 h7 _ => ?_)
    rw [List.set_set] at h7
    refine ⟨_, rfl, andI_255 _, h7.closeC n hA rfl ?_⟩
    rw [w64 (by omega) (by omega)]; omega
  · exact ⟨_, rfl, andI_255 _, h5.drew.closeC n hA rfl hi⟩
theorem s79 {w0 w : World} {As : List Asr} {k : Int} (h : SH w0 w As) (n : Nat) {cb : Nat} {s : Sl} (hA : As[n]? = some (aC cb s)) (hb : CurB w0 s) :
    CallW Try.prog 79 #[.pointer (some ⟨cb, 0, none⟩), .int .i64 k] w (KD w0 As (below k)) := by
  refine go79 ?_
  unfold W79
  refine BIf.dec (fun h0 => ⟨0, rfl, ⟨Int.le_refl 0, .inr ⟨h0, rfl⟩⟩, h⟩) (fun h0 => ?_)
  have hmod : ∀ x : Int, 0 ≤ x → below k (Int.tmod x k) := fun x hx => by
    have h1 : 0 ≤ x % k := Int.emod_nonneg x (by omega)
    have h2 : x % k < k := Int.emod_lt_of_pos x (by omega)
    rw [Int.tmod_eq_emod_of_nonneg hx]
    exact ⟨h1, .inl h2⟩
  refine BIf.dec (fun h1 => ?_) (fun h1 => ?_)
  · refine (s138 h n hA hb).mono ?_
    rintro _ w2 ⟨x, rfl, hx, h⟩
    exact ⟨x, rfl, by omega, _, rfl, hmod _ hx.1, h⟩
  · refine (s138 h n hA hb).mono ?_
    rintro _ w5 ⟨x, rfl, hx, h⟩
    refine ⟨x, rfl, (s138 h n hA hb).mono ?_⟩
    rintro _ w8 ⟨y, rfl, hy, h⟩
    refine ⟨y, rfl, (s138 h n hA hb).mono ?_⟩
    rintro _ w11 ⟨z, rfl, hz, h⟩
    refine ⟨z, rfl, by omega, _, rfl, ?_, h⟩
    rw [w64 (n := x * 65536) (by omega) (by omega), w64 (n := y * 256) (by omega) (by omega), w64 (n := x * 65536 + y * 256) (by omega) (by omega), w64 (by omega) (by omega)]
    exact hmod _ (by omega)
theorem s80 {w0 w : World} {As : List Asr} {k : Int} (h : SH w0 w As) (n : Nat) {cb : Nat} {s : Sl} (hA : As[n]? = some (aC cb s)) (hb : CurB w0 s) :
    CallW Try.prog 80 #[.pointer (some ⟨cb, 0, none⟩), .int .i64 k] w (KDb w0 As) := by
  refine go80 ?_
  unfold W80
  refine (s79 h n hA hb).mono ?_
  rintro _ w2 ⟨x, rfl, hx, h⟩
  exact ⟨x, rfl, _, rfl, h⟩
theorem s66 {w0 w : World} {F : List Asr} {s : Sl} (h : SH w0 w F) (hb : CurB w0 s) :
    CallW Try.prog 66 #[.slice s.a s.len s.cap] w (fun v w' => ∃ cb, v = .pointer (some ⟨cb, 0, none⟩) ∧ SH w0 w' (aC cb s :: F)) := by
  refine go66 ?_
  unfold W66
  have hfew := hb.few
  refine LoopW.m2 (fun (x i : Int) w' => ∃ m : Nat, i = m ∧ m ≤ s.len ∧ w' = w) (fun _ (i : Int) _ => (s.len - i).toNat) ⟨0, rfl, by omega, rfl⟩ ?_
  rintro (x : Int) (i : Int) w ⟨m, rfl, hm, rfl⟩ J hJ
  refine BIf.dec (fun hlt => ?_) (fun hge => ?_)
  · obtain ⟨q, y, hq, hc, hy⟩ := hb.at_ m (by omega)
    simp only [Int.toNat_natCast]
    refine ⟨by omega, hlt, q, hq, y, h.ext.cell hc, ?_⟩
    rw [w64 (n := (m : Int) + 1) (by omega) (by omega)]
    exact hJ _ _ _ ⟨m + 1, by omega, by omega, rfl⟩ (by omega)
  · refine h.alloc (fun w7 h e7 n7 => ?_)
    exact ⟨w.heap.size, rfl, SH.closeC (As := aC w.heap.size s :: _) 0 rfl h rfl (by omega)⟩
theorem c19 {s : Sl} {w : World} : CallW Try.prog 19 #[.slice s.a s.len s.cap] w (fun v w' => v = .bool (decide ((s.len : Int) > 1048576)) ∧ w' = w) := by
  refine go19 ?_
  unfold W19
  exact ⟨rfl, rfl⟩
end Go.Proofs.Ytenhcpjlkmbedaa

/- Draws: some bytes (seat a). Conditions: none. -/
set_option linter.unusedVariables false
set_option linter.unusedSimpArgs false
namespace Go.Proofs.Ytenhcpjlkmbedaa
open Go Go.Den
abbrev rD (t : Sl) (l : List Int) : Asr := aRow t 1 (nums .u8 l)
structure ByR (l : List Int) : Prop where
  rng : ∀ x, x ∈ l → 0 ≤ x ∧ x ≤ 255
  few : l.length ≤ 2000
theorem zeroD (n : Nat) : List.replicate n (([Value.int .u8 0] : List Value).map Ce.v) = nums .u8 (List.replicate n 0) := by
  unfold nums
  rw [List.map_replicate]; rfl
theorem wu8q {n : Int} (h0 : 0 ≤ n) (h1 : n ≤ 255) : IntKind.u8.wrap n = n := by
  show n % 256 = n
  omega
theorem s136 {w0 w : World} {As : List Asr} {n : Int} (h : SH w0 w As) (k : Nat) {cb : Nat} {s : Sl} (hA : As[k]? = some (aC cb s)) (hb : CurB w0 s) (hn : n ≤ 100) :
    CallW Try.prog 136 #[.pointer (some ⟨cb, 0, none⟩), .int .i64 n] w (fun v w' => ∃ (t : Sl) (l : List Int), v = .slice t.a t.len t.cap ∧ ByR l ∧ SH w0 w' (rD t l :: As)) := by
  refine go136 ?_
  unfold W136
  refine h.alloc (fun w1 h e1 n1 => ?_)
  have h := h.drop
  refine LoopW.m2 (fun (t : Sl) (i : Int) w' => ∃ (m : Nat) (l : List Int), i = m ∧ m ≤ 100 ∧ l.length = m ∧ (∀ x, x ∈ l → 0 ≤ x ∧ x ≤ 255) ∧ SH w0 w' (rD t l :: As)) (fun _ (i : Int) _ => (n - i).toNat) ⟨0, [], rfl, by omega, rfl, fun x hx => by simp at hx, h.nil _ 1⟩ ?_
  clear h
  rintro (t : Sl) (i : Int) w5 ⟨m, l, rfl, hm, hl, hr, h⟩ J hJ
  refine BIf.dec (fun hlt => ?_) (fun hge => ?_)
  · refine (s138 h (k + 1) (by simpa using hA) hb).mono ?_
    rintro _ w7 ⟨x, rfl, hx, h⟩
    refine ⟨x, rfl, ?_⟩
    rw [wu8q (n := x) hx.1 hx.2, w64 (n := (m : Int) + 1) (by omega) (by omega)]
    refine LetW_iff.2 (SH.appendN1 h rfl rfl (by decide) (by rw [hl]; show _ * 1 ≤ _; omega) (fun t2 w11 h hl2 _ => ?_))
    exact hJ _ _ _ ⟨m + 1, l ++ [x], by omega, by omega, by rw [List.length_append, hl]; rfl, fun z hz => by
      rcases List.mem_append.1 hz with hz | hz
      · exact hr z hz
      · rw [List.mem_singleton.1 hz]; exact hx, h⟩ (by omega)
  · exact ⟨t, l, rfl, ⟨hr, by omega⟩, h⟩
end Go.Proofs.Ytenhcpjlkmbedaa

/- A cache in memory: rows and bags; where a sector's line lies, both sides. Conditions: none. -/
set_option linter.unusedVariables false
set_option linter.unusedSimpArgs false
namespace Go.Proofs.Ytenhcpjlkmbedaa
open Go Go.Den Go.Cc
end Go.Proofs.Ytenhcpjlkmbedaa

/- A cache in memory: the program's write and drop. Conditions: none. -/
set_option linter.unusedVariables false
set_option linter.unusedSimpArgs false
namespace Go.Proofs.Ytenhcpjlkmbedaa
open Go Go.Den Go.Cc
abbrev N0 : Sl := ⟨none, 0, 0⟩
theorem cut_some {s : Sl} {q : Addr} {i z : Nat} (hq : s.a = some q) (hi : i < s.cap) : cutA s.a s.cap i z = some (q.add (i * z)) := by
  unfold cutA; rw [if_neg (by omega), hq]; rfl
end Go.Proofs.Ytenhcpjlkmbedaa

/- A cache in memory: a sector's bytes, both sides; the program fetches. Conditions: none. -/
set_option linter.unusedVariables false
set_option linter.unusedSimpArgs false
namespace Go.Proofs.Ytenhcpjlkmbedaa
open Go Go.Den Go.Cc
theorem row_cut {w : World} {s : Sl} {m : List Int} {a n : Nat} (h : RowAt w s.a s.len (m.map (Value.int .u8))) (hl : s.len = m.length) (hc : s.len ≤ s.cap) (ha : a + n ≤ m.length) : RowAt w (cutA s.a s.cap a 1) n (((m.drop a).take n).map (Value.int .u8)) := by
  refine ⟨by simp; omega, fun hn => ?_⟩
  obtain ⟨p, hp, hcell⟩ := h.2 (by omega)
  refine ⟨p.add (a * 1), cut_some hp (by omega), fun j v hj => ?_⟩
  rw [add_add, Nat.mul_one]
  refine hcell _ v ?_
  rw [List.getElem?_map] at hj ⊢
  have hjn : j < n := by
    rcases Nat.lt_or_ge j n with h1 | h1
    · exact h1
    · rw [List.getElem?_eq_none (by rw [List.length_take]; omega)] at hj; cases hj
  rw [List.getElem?_take_of_lt hjn, List.getElem?_drop] at hj
  exact hj
end Go.Proofs.Ytenhcpjlkmbedaa

/- A cache in memory: the program's step. Conditions: none. -/
set_option linter.unusedVariables false
set_option linter.unusedSimpArgs false
namespace Go.Proofs.Ytenhcpjlkmbedaa
open Go Go.Den Go.Cc
end Go.Proofs.Ytenhcpjlkmbedaa

/- A cache in memory: it is lent; the program's check and copy. Conditions: none. -/
set_option linter.unusedVariables false
set_option linter.unusedSimpArgs false
namespace Go.Proofs.Ytenhcpjlkmbedaa
open Go Go.Den Go.Cc
end Go.Proofs.Ytenhcpjlkmbedaa

/- A cache in memory: the program's copy, a new cache, a step of the interface. Conditions: none. -/
set_option linter.unusedVariables false
set_option linter.unusedSimpArgs false
namespace Go.Proofs.Ytenhcpjlkmbedaa
open Go Go.Den Go.Cc
end Go.Proofs.Ytenhcpjlkmbedaa

/- A cache in memory: the program's run. Conditions: none. -/
set_option linter.unusedVariables false
set_option linter.unusedSimpArgs false
namespace Go.Proofs.Ytenhcpjlkmbedaa
open Go Go.Den Go.Cc
end Go.Proofs.Ytenhcpjlkmbedaa

/- A cache in memory: the reference's line, write, cut. Conditions: none. -/
set_option linter.unusedVariables false
set_option linter.unusedSimpArgs false
namespace Go.Proofs.Ytenhcpjlkmbedaa
open Go Go.Den Go.Cc
end Go.Proofs.Ytenhcpjlkmbedaa

/- A cache in memory: the reference writes, cuts and fetches. Conditions: none. -/
set_option linter.unusedVariables false
set_option linter.unusedSimpArgs false
namespace Go.Proofs.Ytenhcpjlkmbedaa
open Go Go.Den Go.Cc
end Go.Proofs.Ytenhcpjlkmbedaa

/- A cache in memory: the reference fetches. Conditions: none. -/
set_option linter.unusedVariables false
set_option linter.unusedSimpArgs false
namespace Go.Proofs.Ytenhcpjlkmbedaa
open Go Go.Den Go.Cc
end Go.Proofs.Ytenhcpjlkmbedaa

/- A cache in memory: the reference's step of the kinds that fetch. Conditions: none. -/
set_option linter.unusedVariables false
set_option linter.unusedSimpArgs false
namespace Go.Proofs.Ytenhcpjlkmbedaa
open Go Go.Den Go.Cc
theorem row_get {w : World} {t : Sl} {l : List Int} {i : Nat} {x : Int} (hr : RowAt w t.a t.len (l.map (Value.int .u8))) (hx : l[i]? = some x) : ∃ p, t.a = some p ∧ w.cell? (p.add (i * 1)) = some (.int .u8 x) := by
  obtain ⟨p, hp, hc⟩ := hr.cell (i := i) (v := .int .u8 x) (by simp [hx])
  exact ⟨p, hp, by rw [Nat.mul_one]; exact hc⟩
end Go.Proofs.Ytenhcpjlkmbedaa

/- A cache in memory: the reference's step. Conditions: none. -/
set_option linter.unusedVariables false
set_option linter.unusedSimpArgs false
namespace Go.Proofs.Ytenhcpjlkmbedaa
open Go Go.Den Go.Cc
end Go.Proofs.Ytenhcpjlkmbedaa

/- A cache in memory: the reference's new cache and run. Conditions: none. -/
set_option linter.unusedVariables false
set_option linter.unusedSimpArgs false
namespace Go.Proofs.Ytenhcpjlkmbedaa
open Go Go.Den Go.Cc
end Go.Proofs.Ytenhcpjlkmbedaa

/- Draws: an operation on a cache, a disk, a room. Conditions: none. -/
set_option linter.unusedVariables false
set_option linter.unusedSimpArgs false
namespace Go.Proofs.Ytenhcpjlkmbedaa
open Go Go.Den Go.Cc
theorem tab_rd {w0 w : World} {As : List Asr} (h : SH w0 w As) (n : Nat) {b : Nat} (vs : List Int) (hA : As[n]? = some (aB b ((vs.map vInt).map Ce.v))) {i : Nat} (hi : i < vs.length) : ∃ x : Int, w.cell? ((⟨b, 0, none⟩ : Addr).add (i * 1)) = some (.int .i64 x) :=
  ⟨vs[i], by rw [Nat.mul_one]; exact h.cellP n hA (by rw [List.getElem?_map, List.getElem?_map, List.getElem?_eq_getElem hi]; rfl)⟩
end Go.Proofs.Ytenhcpjlkmbedaa

/- Draws: operations on a cache. Conditions: none. -/
set_option linter.unusedVariables false
set_option linter.unusedSimpArgs false
namespace Go.Proofs.Ytenhcpjlkmbedaa
open Go Go.Den Go.Cc
end Go.Proofs.Ytenhcpjlkmbedaa

/- FnCacheClear: the law's walk. Conditions: none. -/
set_option linter.unusedVariables false
set_option linter.unusedSimpArgs false
namespace Go.Proofs.Ytenhcpjlkmbedaa
open Go Go.Den Go.Cc
end Go.Proofs.Ytenhcpjlkmbedaa

/- FnCacheClear: the law's walk. Conditions: none. -/
set_option linter.unusedVariables false
set_option linter.unusedSimpArgs false
namespace Go.Proofs.Ytenhcpjlkmbedaa
open Go Go.Den Go.Cc
theorem curb_of {bs : List Int} {w : World} {s : Sl} (h : IsD w (.sl 1 (bs.map (Dat.int .u8))) [.slice s.a s.len s.cap]) (hl : s.len ≤ 1048576) : CurB w s := by
  refine ⟨hl, fun k hk => ?_⟩
  have hlen := (isD_len h).1
  have hget : bs[k]? = some bs[k] := List.getElem?_eq_getElem (by omega)
  obtain ⟨p, es, hp, _, hc, hi⟩ := isD_elem h hget
  obtain ⟨rfl, hwf⟩ := isD_int hi
  have h0 := hc 0 _ rfl
  refine ⟨p, _, hp, h0, ?_⟩
  simp [Lit.wf, IntKind.min, IntKind.max, IntKind.signed, IntKind.bits] at hwf
  omega
theorem pair_get {α β : Type} {f : α → β} {a b : List α} (h : a.map f = b.map f) {i : Nat} {x y : α} (hx : a[i]? = some x) (hy : b[i]? = some y) : f x = f y := by
  have h1 : (a.map f)[i]? = some (f x) := by rw [List.getElem?_map, hx]; rfl
  have h2 : (b.map f)[i]? = some (f y) := by rw [List.getElem?_map, hy]; rfl
  rw [h, h2] at h1
  exact (Option.some.inj h1).symm
end Go.Proofs.Ytenhcpjlkmbedaa

/- Images (plain): the bytes of an image, an image out of its bytes. Conditions: none. -/
set_option linter.unusedVariables false
set_option linter.unusedSimpArgs false
namespace Go.Proofs.Ytenhcpjlkmbedaa
open Go Go.Den
structure ISeg where
  Va : Int
  Prot : Int
  Size : Int
  Data : List Int
structure IImg where
  Entry : Int
  Segs : List ISeg
def inBy (l : List Int) : Prop := ∀ x, x ∈ l → 0 ≤ x ∧ x ≤ 255
def pagesF (n : Int) : Int := (n + 255) / 256 * 256
def SegOk (s : ISeg) : Prop := 256 ≤ s.Va ∧ s.Va ≤ 4194304 ∧ s.Va % 256 = 0 ∧ 1 ≤ s.Size ∧ s.Size ≤ 65536 ∧ s.Va + s.Size ≤ 4194304 ∧ (s.Data.length : Int) ≤ s.Size ∧ (s.Prot = 1 ∨ s.Prot = 3 ∨ s.Prot = 5)
def SegsOk : Int → List ISeg → Prop
  | _, [] => True
  | e, s :: r => e ≤ s.Va ∧ SegOk s ∧ SegsOk (s.Va + pagesF s.Size) r
def holdsF (e : Int) (s : ISeg) : Bool := decide (s.Prot = 5 ∧ s.Va ≤ e ∧ e < s.Va + s.Size)
structure ImgOk (m : IImg) : Prop where
  n1 : 1 ≤ m.Segs.length
  n8 : m.Segs.length ≤ 8
  four : m.Entry % 4 = 0
  segs : SegsOk 256 m.Segs
  entry : m.Segs.any (holdsF m.Entry) = true
theorem segs_each : ∀ {l : List ISeg} {e : Int}, SegsOk e l → ∀ s, s ∈ l → SegOk s
  | [], _, _, s, hs => by simp at hs
  | x :: r, e, h, s, hs => by
    rcases List.mem_cons.1 hs with rfl | hs
    · exact h.2.1
    · exact segs_each h.2.2 s hs
def hdrF (s : ISeg) : List Int := le s.Va 4 ++ le s.Size 4 ++ le (s.Data.length : Int) 4 ++ [s.Prot % 256, 0, 0, 0]
def bodyF (m : IImg) : List Int := [75, 73, 77, 71] ++ [1, (m.Segs.length : Int) % 256, 0, 0] ++ le m.Entry 8 ++ m.Segs.flatMap hdrF ++ m.Segs.flatMap ISeg.Data
def packF (m : IImg) : List Int := bodyF m ++ le (crc (bodyF m)) 4
def wordN (b : List Int) (p : Nat) (k : Nat) : Int := hornr b (p : Int) k 0
/-- The segments that the bytes tell of. -/
def takeS (b : List Int) (L : Nat) : Nat → Nat → Nat → Option (List ISeg)
  | 0, _, _ => some []
  | c + 1, i, p => if p + (wordN b (16 + 16 * i + 8) 4).toNat ≤ L then
      match takeS b L c (i + 1) (p + (wordN b (16 + 16 * i + 8) 4).toNat) with
      | none => none
      | some r => some (⟨wordN b (16 + 16 * i) 4, byt b ((16 + 16 * i + 12 : Nat) : Int), wordN b (16 + 16 * i + 4) 4, (b.drop p).take (wordN b (16 + 16 * i + 8) 4).toNat⟩ :: r)
    else none
def takeF (b : List Int) : Option IImg :=
  if b.length - 4 < 16 + 16 * (byt b 5).toNat then none
  else (takeS b (b.length - 4) (byt b 5).toNat 0 (16 + 16 * (byt b 5).toNat)).map (fun l => ⟨IntKind.i64.wrap (wordN b 8 8), l⟩)
open Classical in
/-- An image out of its bytes, with a code. -/
noncomputable def readF (b : List Int) : IImg × Int :=
  if b.length < 20 then (⟨0, []⟩, 1)
  else if b.take 4 ≠ [75, 73, 77, 71] then (⟨0, []⟩, 2)
  else if byt b 4 ≠ 1 then (⟨0, []⟩, 3)
  else if wordN b (b.length - 4) 4 ≠ crc (b.take (b.length - 4)) then (⟨0, []⟩, 4)
  else match takeF b with
    | none => (⟨0, []⟩, 5)
    | some m => if ImgOk m ∧ packF m = b then (m, 0) else (⟨0, []⟩, 5)
/-! ## Bytes -/
theorem byt_drop {b r : List Int} {p : Nat} (h : b.drop p = r) (j : Nat) : byt b ((p + j : Nat) : Int) = r.getD j 0 := by
  unfold byt
  rw [Int.toNat_natCast, ← h, List.getD_eq_getElem?_getD, List.getD_eq_getElem?_getD, List.getElem?_drop]
theorem le4 (x : Int) : le x 4 = [x / 1 % 256, x / 256 % 256, x / 65536 % 256, x / 16777216 % 256] := rfl
theorem le8 (x : Int) : le x 8 = [x / 1 % 256, x / 256 % 256, x / 65536 % 256, x / 16777216 % 256, x / 4294967296 % 256, x / 1099511627776 % 256, x / 281474976710656 % 256, x / 72057594037927936 % 256] := rfl
theorem horn4 (b : List Int) (p : Nat) : wordN b p 4 = ((byt b ((p + 3 : Nat) : Int) * 256 + byt b ((p + 2 : Nat) : Int)) * 256 + byt b ((p + 1 : Nat) : Int)) * 256 + byt b ((p + 0 : Nat) : Int) := by
  unfold wordN
  simp only [hornr, Int.natCast_add]
  simp
theorem horn8 (b : List Int) (p : Nat) : wordN b p 8 = ((((((byt b ((p + 7 : Nat) : Int) * 256 + byt b ((p + 6 : Nat) : Int)) * 256 + byt b ((p + 5 : Nat) : Int)) * 256 + byt b ((p + 4 : Nat) : Int)) * 256 + byt b ((p + 3 : Nat) : Int)) * 256 + byt b ((p + 2 : Nat) : Int)) * 256 + byt b ((p + 1 : Nat) : Int)) * 256 + byt b ((p + 0 : Nat) : Int) := by
  unfold wordN
  simp only [hornr, Int.natCast_add]
  simp
theorem word4_at {b post : List Int} {p : Nat} {x : Int} (h : b.drop p = le x 4 ++ post) (h0 : 0 ≤ x) (h1 : x < 4294967296) : wordN b p 4 = x := by
  rw [horn4, byt_drop h, byt_drop h, byt_drop h, byt_drop h, le4]
  simp only [List.cons_append, List.nil_append, List.getD_cons_zero, List.getD_cons_succ]
  omega
theorem word8_at {b post : List Int} {p : Nat} {x : Int} (h : b.drop p = le x 8 ++ post) (h0 : 0 ≤ x) (h1 : x < 4294967296) : wordN b p 8 = x := by
  rw [horn8, byt_drop h, byt_drop h, byt_drop h, byt_drop h, byt_drop h, byt_drop h, byt_drop h, byt_drop h, le8]
  simp only [List.cons_append, List.nil_append, List.getD_cons_zero, List.getD_cons_succ]
  omega
theorem drop_more {b r s : List Int} {p : Nat} (h : b.drop p = r ++ s) : b.drop (p + r.length) = s := by
  rw [← List.drop_drop, h, List.drop_left]
theorem hdr_len (s : ISeg) : (hdrF s).length = 16 := by
  unfold hdrF
  rw [List.length_append, List.length_append, List.length_append, le_len, le_len, le_len]; rfl
/-- What lies behind the heads is read back. -/
theorem takeS_at {b : List Int} {L : Nat} : ∀ (l : List ISeg) (i p : Nat) (q1 q2 : List Int), (∀ s, s ∈ l → SegOk s) → b.drop (16 + 16 * i) = l.flatMap hdrF ++ q1 → b.drop p = l.flatMap ISeg.Data ++ q2 → p + (l.flatMap ISeg.Data).length ≤ L → takeS b L l.length i p = some l
  | [], i, p, q1, q2, _, _, _, _ => rfl
  | s :: r, i, p, q1, q2, hok, h1, h2, hL => by
    obtain ⟨a1, a2, a3, a4, a5, a6, a7, a8⟩ := hok s (by simp)
    rw [List.flatMap_cons, List.append_assoc] at h1 h2
    rw [List.flatMap_cons, List.length_append] at hL
    have h1' := h1
    unfold hdrF at h1'
    simp only [List.append_assoc] at h1'
    have d1 := drop_more h1'
    rw [le_len] at d1
    have d2 := drop_more d1
    rw [le_len] at d2
    have d3 := drop_more d2
    rw [le_len] at d3
    have w1 : wordN b (16 + 16 * i) 4 = s.Va := word4_at h1' (by omega) (by omega)
    have w2 : wordN b (16 + 16 * i + 4) 4 = s.Size := word4_at d1 (by omega) (by omega)
    have w3 : wordN b (16 + 16 * i + 8) 4 = (s.Data.length : Int) := word4_at d2 (by omega) (by omega)
    have w4 : byt b ((16 + 16 * i + 12 : Nat) : Int) = s.Prot := by
      have := byt_drop d3 0
      rw [show 16 + 16 * i + 4 + 4 + 4 + 0 = 16 + 16 * i + 12 by omega] at this
      rw [this]
      simp only [List.cons_append, List.getD_cons_zero]
      omega
    have e1 := drop_more h1
    rw [hdr_len, show 16 + 16 * i + 16 = 16 + 16 * (i + 1) by omega] at e1
    have e2 := drop_more h2
    have ih := takeS_at (b := b) (L := L) r (i + 1) (p + s.Data.length) q1 q2 (fun x hx => hok x (by simp [hx])) e1 e2 (by omega)
    show takeS b L (r.length + 1) i p = _
    unfold takeS
    rw [w3, Int.toNat_natCast, if_pos (by omega), ih, w1, w2, w4]
    simp only
    rw [h2, List.take_left]
/-! ## Checksums -/
theorem xor_lt {a b : Int} {k : Nat} (hk : k ≤ 64) (ha : 0 ≤ a ∧ a < ((2 ^ k : Nat) : Int)) (hb : 0 ≤ b ∧ b < ((2 ^ k : Nat) : Int)) : xorI .u64 a b = ((a.toNat ^^^ b.toNat : Nat) : Int) ∧ a.toNat ^^^ b.toNat < 2 ^ k := by
  have h1 : a.toNat ^^^ b.toNat < 2 ^ k := Nat.xor_lt_two_pow (by omega) (by omega)
  have hp : 2 ^ k ≤ 2 ^ 64 := Nat.pow_le_pow_right (by omega) hk
  have hc : (2 : Nat) ^ 64 = 18446744073709551616 := by decide
  refine ⟨?_, h1⟩
  unfold xorI
  show IntKind.u64.wrap ((BitVec.ofInt 64 a ^^^ BitVec.ofInt 64 b).toNat : Int) = _
  rw [BitVec.toNat_xor, ofInt_nat (by omega) (by omega), ofInt_nat (by omega) (by omega), wu64 (by omega) (by omega)]
abbrev R32 (x : Int) : Prop := 0 ≤ x ∧ x < 4294967296
theorem xor32 {a b : Int} (ha : R32 a) (hb : R32 b) : R32 (xorI .u64 a b) ∧ xorI .u64 a b = ((a.toNat ^^^ b.toNat : Nat) : Int) := by
  have h32 : (2 : Nat) ^ 32 = 4294967296 := by decide
  obtain ⟨h1, h2⟩ := xor_lt (k := 32) (by omega) (by rw [h32]; exact ha) (by rw [h32]; exact hb)
  rw [h1]
  exact ⟨⟨by omega, by omega⟩, rfl⟩
theorem xor_inj {a b c : Int} (ha : R32 a) (hb : R32 b) (hc : R32 c) (h : xorI .u64 a c = xorI .u64 b c) : a = b := by
  rw [(xor32 ha hc).2, (xor32 hb hc).2] at h
  have h : a.toNat ^^^ c.toNat = b.toNat ^^^ c.toNat := by exact_mod_cast h
  have h2 := congrArg (· ^^^ c.toNat) h
  simp only [Nat.xor_assoc, Nat.xor_self, Nat.xor_zero] at h2
  have := ha.1
  have := hb.1
  omega
theorem crcB_succ (x : Int) (k : Nat) : crcB x (k + 1) = if crcB x k % 2 = 1 then xorI .u64 (crcB x k / 2) 3988292384 else crcB x k / 2 := by rw [crcB]
theorem crcB32 {x : Int} (h : R32 x) : ∀ k, R32 (crcB x k)
  | 0 => h
  | k + 1 => by
    have ih := crcB32 h k
    rw [crcB_succ]
    split
    · exact (xor32 ⟨by omega, by omega⟩ ⟨by decide, by decide⟩).1
    · exact ⟨by omega, by omega⟩
theorem top_bit {a : Int} (ha : 0 ≤ a ∧ a < 2147483648) : 2147483648 ≤ xorI .u64 a 3988292384 := by
  rw [(xor32 (b := 3988292384) ⟨ha.1, by omega⟩ ⟨by decide, by decide⟩).2]
  have h31 : (2 : Nat) ^ 31 = 2147483648 := by decide
  have hb : (a.toNat ^^^ (3988292384 : Int).toNat).testBit 31 = true := by
    rw [Nat.testBit_xor, Nat.testBit_lt_two_pow (by omega : a.toNat < 2 ^ 31)]
    decide
  have := Nat.ge_two_pow_of_testBit hb
  omega
theorem crcB_inj {x y : Int} (hx : R32 x) (hy : R32 y) : ∀ k, crcB x k = crcB y k → x = y
  | 0, h => h
  | k + 1, h => by
    have a := crcB32 hx k
    have b := crcB32 hy k
    refine crcB_inj hx hy k ?_
    rw [crcB_succ, crcB_succ] at h
    generalize crcB x k = u at *
    generalize crcB y k = v at *
    by_cases hu : u % 2 = 1
    · by_cases hv : v % 2 = 1
      · rw [if_pos hu, if_pos hv] at h
        have := xor_inj (a := u / 2) (b := v / 2) ⟨by omega, by omega⟩ ⟨by omega, by omega⟩ ⟨by decide, by decide⟩ h
        omega
      · rw [if_pos hu, if_neg hv] at h
        have := top_bit (a := u / 2) ⟨by omega, by omega⟩
        omega
    · by_cases hv : v % 2 = 1
      · rw [if_neg hu, if_pos hv] at h
        have := top_bit (a := v / 2) ⟨by omega, by omega⟩
        omega
      · rw [if_neg hu, if_neg hv] at h
        omega
theorem crcF32 {m : List Int} (hm : inBy m) : ∀ k, R32 (crcF m k)
  | 0 => by rw [crcF]; exact ⟨by decide, by decide⟩
  | k + 1 => by
    rw [crcF]
    split
    · rename_i x hx
      have := hm x (List.mem_of_getElem? hx)
      exact crcB32 (xor32 (crcF32 hm k) ⟨by omega, by omega⟩).1 8
    · exact crcF32 hm k
theorem crc32 {m : List Int} (hm : inBy m) : R32 (crc m) := (xor32 (crcF32 hm _) ⟨by decide, by decide⟩).1
/-- One byte turned: the sum is another one. -/
theorem crc_set {m : List Int} {p : Nat} {y : Int} (hm : inBy m) (hp : p < m.length) (hy : 0 ≤ y ∧ y ≤ 255) (hne : m[p]? ≠ some y) : crc (m.set p y) ≠ crc m := by
  have hm2 : inBy (m.set p y) := fun x hx => by
    rcases List.mem_or_eq_of_mem_set hx with hx | rfl
    · exact hm x hx
    · exact hy
  have pre : ∀ k, k ≤ p → crcF (m.set p y) k = crcF m k := fun k => by
    induction k with
    | zero => intro _; rfl
    | succ k ih =>
      intro hk
      rw [crcF, crcF, List.getElem?_set_ne (by omega), ih (by omega)]
  have at_ : crcF (m.set p y) (p + 1) ≠ crcF m (p + 1) := by
    have hx : m[p]? = some m[p] := List.getElem?_eq_getElem hp
    generalize m[p] = x at hx
    have hxr := hm x (List.mem_of_getElem? hx)
    rw [crcF_step hx, crcF_step (List.getElem?_set_self hp), pre p (Nat.le_refl _)]
    intro h
    have c := crcF32 hm p
    have h2 := crcB_inj (xor32 c ⟨hy.1, by omega⟩).1 (xor32 c ⟨hxr.1, by omega⟩).1 8 h
    rw [(xor32 c ⟨hy.1, by omega⟩).2, (xor32 c ⟨hxr.1, by omega⟩).2] at h2
    have h2 : (crcF m p).toNat ^^^ y.toNat = (crcF m p).toNat ^^^ x.toNat := by exact_mod_cast h2
    have h3 := congrArg ((crcF m p).toNat ^^^ ·) h2
    simp only [← Nat.xor_assoc, Nat.xor_self, Nat.zero_xor] at h3
    apply hne
    rw [hx]; congr 1; omega
  have post : ∀ k, p + 1 ≤ k → k ≤ m.length → crcF (m.set p y) k ≠ crcF m k := fun k => by
    induction k with
    | zero => intro h; omega
    | succ k ih =>
      intro h1 h2
      by_cases hk : k = p
      · subst hk; exact at_
      · have hx : m[k]? = some m[k] := List.getElem?_eq_getElem (by omega)
        generalize m[k] = x at hx
        have hxr := hm x (List.mem_of_getElem? hx)
        have hx2 : (m.set p y)[k]? = some x := by rw [List.getElem?_set_ne (by omega)]; exact hx
        rw [crcF_step hx, crcF_step hx2]
        intro h
        have c := crcF32 hm k
        have c2 := crcF32 hm2 k
        have h3 := crcB_inj (xor32 c2 ⟨hxr.1, by omega⟩).1 (xor32 c ⟨hxr.1, by omega⟩).1 8 h
        exact ih (by omega) (by omega) (xor_inj c2 c ⟨hxr.1, by omega⟩ h3)
  intro h
  unfold crc at h
  rw [List.length_set] at h
  exact post m.length (by omega) (Nat.le_refl _) (xor_inj (crcF32 hm2 _) (crcF32 hm _) ⟨by decide, by decide⟩ h)
end Go.Proofs.Ytenhcpjlkmbedaa

/- Images (plain): what is packed is read back; a turned byte is told. Conditions: none. -/
set_option linter.unusedVariables false
set_option linter.unusedSimpArgs false
namespace Go.Proofs.Ytenhcpjlkmbedaa
open Go Go.Den
theorem inBy_app {a b : List Int} (ha : inBy a) (hb : inBy b) : inBy (a ++ b) := fun x hx => by
  rcases List.mem_append.1 hx with hx | hx
  · exact ha x hx
  · exact hb x hx
theorem inBy_le (x : Int) : ∀ k, inBy (le x k)
  | 0 => fun y hy => by simp [le] at hy
  | k + 1 => by
    unfold le
    refine inBy_app (inBy_le x k) (fun y hy => ?_)
    rw [List.mem_singleton.1 hy]
    omega
theorem inBy_flat {α : Type} {f : α → List Int} {l : List α} (h : ∀ x, x ∈ l → inBy (f x)) : inBy (l.flatMap f) := fun y hy => by
  obtain ⟨x, hx, hy⟩ := List.mem_flatMap.1 hy
  exact h x hx y hy
theorem inBy_hdr (s : ISeg) : inBy (hdrF s) := by
  unfold hdrF
  refine inBy_app (inBy_app (inBy_app (inBy_le _ _) (inBy_le _ _)) (inBy_le _ _)) (fun y hy => ?_)
  simp only [List.mem_cons, List.not_mem_nil, or_false] at hy
  rcases hy with rfl | rfl | rfl | rfl <;> omega
theorem inBy_body {m : IImg} (hb : ∀ s, s ∈ m.Segs → inBy s.Data) : inBy (bodyF m) := by
  unfold bodyF
  refine inBy_app (inBy_app (inBy_app (inBy_app (fun y hy => ?_) (fun y hy => ?_)) (inBy_le _ _)) (inBy_flat fun s _ => inBy_hdr s)) (inBy_flat hb)
  · simp only [List.mem_cons, List.not_mem_nil, or_false] at hy
    rcases hy with rfl | rfl | rfl | rfl <;> omega
  · simp only [List.mem_cons, List.not_mem_nil, or_false] at hy
    rcases hy with rfl | rfl | rfl | rfl <;> omega
theorem hdrs_len : ∀ l : List ISeg, (l.flatMap hdrF).length = 16 * l.length
  | [] => rfl
  | s :: r => by rw [List.flatMap_cons, List.length_append, hdr_len, hdrs_len r, List.length_cons]; omega
theorem body_len (m : IImg) : (bodyF m).length = 16 + 16 * m.Segs.length + (m.Segs.flatMap ISeg.Data).length := by
  unfold bodyF
  rw [List.length_append, List.length_append, List.length_append, List.length_append, le_len, hdrs_len]
  simp
theorem pack_len (m : IImg) : (packF m).length = (bodyF m).length + 4 := by
  unfold packF
  rw [List.length_append, le_len]
theorem pack_read {m : IImg} (h : ImgOk m) (hb : ∀ s, s ∈ m.Segs → inBy s.Data) : readF (packF m) = (m, 0) := by
  have hn := h.n1
  have hn8 := h.n8
  have hbl := body_len m
  have hpl := pack_len m
  have hL : (packF m).length - 4 = (bodyF m).length := by omega
  have hc := crc32 (inBy_body hb)
  have hent : 0 ≤ m.Entry ∧ m.Entry < 4294967296 := by
    obtain ⟨s, hs, hh⟩ := List.any_eq_true.1 h.entry
    have hh := of_decide_eq_true hh
    obtain ⟨a1, a2, a3, a4, a5, a6, a7, a8⟩ := segs_each h.segs s hs
    omega
  have dr : (packF m).drop (bodyF m).length = le (crc (bodyF m)) 4 ++ [] := by unfold packF; rw [List.drop_left, List.append_nil]
  have ex : packF m = [75, 73, 77, 71] ++ ([1, (m.Segs.length : Int) % 256, 0, 0] ++ (le m.Entry 8 ++ (m.Segs.flatMap hdrF ++ (m.Segs.flatMap ISeg.Data ++ le (crc (bodyF m)) 4)))) := by
    show bodyF m ++ le (crc (bodyF m)) 4 = _
    conv => lhs; unfold bodyF
    simp only [List.append_assoc]
    rfl
  have d0 : (packF m).drop 0 = _ := ex
  have d1 := drop_more d0
  have d2 := drop_more d1
  have d3 := drop_more d2
  have d4 := drop_more d3
  rw [le_len] at d3 d4
  have d2 : (packF m).drop 8 = le m.Entry 8 ++ (m.Segs.flatMap hdrF ++ (m.Segs.flatMap ISeg.Data ++ le (crc (bodyF m)) 4)) := d2
  have d3 : (packF m).drop (16 + 16 * 0) = m.Segs.flatMap hdrF ++ (m.Segs.flatMap ISeg.Data ++ le (crc (bodyF m)) 4) := d3
  have d4 : (packF m).drop (16 + 16 * m.Segs.length) = m.Segs.flatMap ISeg.Data ++ le (crc (bodyF m)) 4 := by
    rw [hdrs_len] at d4; exact d4
  have b4 : byt (packF m) 4 = 1 := by have := byt_drop d1 0; exact this
  have b5 : byt (packF m) 5 = (m.Segs.length : Int) := by
    have := byt_drop d1 1
    have e : byt (packF m) 5 = (m.Segs.length : Int) % 256 := this
    rw [e]; omega
  have htk : takeF (packF m) = some m := by
    unfold takeF
    rw [b5, Int.toNat_natCast, hL, if_neg (by omega), takeS_at m.Segs 0 (16 + 16 * m.Segs.length) _ _ (segs_each h.segs) d3 d4 (by omega), word8_at d2 hent.1 hent.2]
    have : IntKind.i64.wrap m.Entry = m.Entry := w64 (by omega) (by omega)
    simp only [Option.map_some, this]
  unfold readF
  rw [if_neg (by omega), if_neg (by rw [ex]; simp), if_neg (by rw [b4]; simp), hL, if_neg (by rw [word4_at dr hc.1 hc.2]; unfold packF; rw [List.take_left]; simp), htk]
  simp only
  rw [if_pos ⟨h, rfl⟩]
theorem read_zero {b : List Int} (h : (readF b).2 = 0) : ImgOk (readF b).1 ∧ packF (readF b).1 = b ∧ wordN b (b.length - 4) 4 = crc (b.take (b.length - 4)) := by
  unfold readF at *
  split at h
  · cases h
  · rename_i h1
    rw [if_neg h1]
    split at h
    · cases h
    · rename_i h2
      rw [if_neg h2]
      split at h
      · cases h
      · rename_i h3
        rw [if_neg h3]
        split at h
        · cases h
        · rename_i h4
          rw [if_neg h4]
          cases ht : takeF b with
          | none => rw [ht] at h; cases h
          | some m =>
            rw [ht] at h
            simp only at h ⊢
            split at h
            · rename_i h5
              rw [if_pos h5]
              exact ⟨h5.1, h5.2, Decidable.not_not.1 h4⟩
            · cases h
theorem read_none {b : List Int} (h : (readF b).2 ≠ 0) : (readF b).1 = ⟨0, []⟩ := by
  unfold readF at *
  split
  · rfl
  · rename_i h1
    rw [if_neg h1] at h
    split
    · rfl
    · rename_i h2
      rw [if_neg h2] at h
      split
      · rfl
      · rename_i h3
        rw [if_neg h3] at h
        split
        · rfl
        · rename_i h4
          rw [if_neg h4] at h
          cases ht : takeF b with
          | none => rfl
          | some m =>
            rw [ht] at h
            simp only at h ⊢
            split
            · rename_i h5
              rw [if_pos h5] at h; exact absurd rfl h
            · rfl
theorem byt_get {b : List Int} {i : Nat} {x : Int} (h : b[i]? = some x) : byt b (i : Int) = x := by
  unfold byt
  rw [Int.toNat_natCast, List.getD_eq_getElem?_getD, h]; rfl
theorem byt_set_ne {b : List Int} {i p : Nat} {y : Int} (h : p ≠ i) : byt (b.set p y) (i : Int) = byt b (i : Int) := by
  unfold byt
  rw [Int.toNat_natCast, List.getD_eq_getElem?_getD, List.getD_eq_getElem?_getD, List.getElem?_set_ne h]
/-- One byte turned: no image. -/
theorem pack_set {m : IImg} (hb : ∀ s, s ∈ m.Segs → inBy s.Data) {p : Nat} {y : Int} (hp : p < (packF m).length) (hy : 0 ≤ y ∧ y ≤ 255) (hne : (packF m)[p]? ≠ some y) : (readF ((packF m).set p y)).2 ≠ 0 := by
  intro h0
  obtain ⟨_, _, h4⟩ := read_zero h0
  have hpl := pack_len m
  have hin := inBy_body hb
  have hc := crc32 hin
  rw [List.length_set, show (packF m).length - 4 = (bodyF m).length by omega] at h4
  have dr : (packF m).drop (bodyF m).length = le (crc (bodyF m)) 4 ++ [] := by unfold packF; rw [List.drop_left, List.append_nil]
  have w0 := word4_at dr hc.1 hc.2
  have hin2 : inBy (packF m) := inBy_app hin (inBy_le _ _)
  by_cases hpb : p < (bodyF m).length
  · have e1 : wordN ((packF m).set p y) (bodyF m).length 4 = wordN (packF m) (bodyF m).length 4 := by
      rw [horn4, horn4, byt_set_ne (by omega), byt_set_ne (by omega), byt_set_ne (by omega), byt_set_ne (by omega)]
    have e2 : ((packF m).set p y).take (bodyF m).length = (bodyF m).set p y := by
      unfold packF
      rw [List.set_append_left _ _ hpb, List.take_left' (by rw [List.length_set])]
    rw [e1, e2, w0] at h4
    refine crc_set hin hpb hy (fun e => hne ?_) h4.symm
    unfold packF
    rw [List.getElem?_append_left hpb]; exact e
  · have e2 : ((packF m).set p y).take (bodyF m).length = bodyF m := by
      rw [List.take_set_of_le (by omega)]
      unfold packF
      rw [List.take_left]
    rw [e2, ← w0] at h4
    obtain ⟨j, rfl⟩ : ∃ j, p = (bodyF m).length + j := ⟨p - (bodyF m).length, by omega⟩
    have hx : (packF m)[(bodyF m).length + j]? = some (packF m)[(bodyF m).length + j] := List.getElem?_eq_getElem hp
    generalize (packF m)[(bodyF m).length + j] = x at hx
    have hxr := hin2 x (List.mem_of_getElem? hx)
    have hyx : y ≠ x := fun e => hne (by rw [hx, e])
    have gx := byt_get hx
    have gy := byt_get (List.getElem?_set_self (a := y) hp)
    rw [horn4, horn4] at h4
    have hr : ∀ i, 0 ≤ byt (packF m) i ∧ byt (packF m) i ≤ 255 := byt_rng hin2
    have r0 := hr (((bodyF m).length + 0 : Nat) : Int)
    have r1 := hr (((bodyF m).length + 1 : Nat) : Int)
    have r2 := hr (((bodyF m).length + 2 : Nat) : Int)
    have r3 := hr (((bodyF m).length + 3 : Nat) : Int)
    have hj : j = 0 ∨ j = 1 ∨ j = 2 ∨ j = 3 := by omega
    rcases hj with rfl | rfl | rfl | rfl
    · rw [byt_set_ne (i := (bodyF m).length + 3) (by omega), byt_set_ne (i := (bodyF m).length + 2) (by omega), byt_set_ne (i := (bodyF m).length + 1) (by omega), gy, gx] at h4
      omega
    · rw [byt_set_ne (i := (bodyF m).length + 3) (by omega), byt_set_ne (i := (bodyF m).length + 2) (by omega), byt_set_ne (i := (bodyF m).length + 0) (by omega), gy, gx] at h4
      omega
    · rw [byt_set_ne (i := (bodyF m).length + 3) (by omega), byt_set_ne (i := (bodyF m).length + 1) (by omega), byt_set_ne (i := (bodyF m).length + 0) (by omega), gy, gx] at h4
      omega
    · rw [byt_set_ne (i := (bodyF m).length + 2) (by omega), byt_set_ne (i := (bodyF m).length + 1) (by omega), byt_set_ne (i := (bodyF m).length + 0) (by omega), gy, gx] at h4
      omega
end Go.Proofs.Ytenhcpjlkmbedaa
