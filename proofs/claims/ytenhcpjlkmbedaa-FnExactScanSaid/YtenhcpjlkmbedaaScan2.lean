/- Part 2 of 2: plain readings of code, rules for them, and a proof over them, joined by a program. Conditions: none. -/
import Derived.Test.YtenhcpjlkmbedaaScan1
import Derived.Test.YtenhcpjlkmbedaaRows
import Derived.WalkKit
import Derived.ProofKit
import Derived.OpenShut
import Derived.ShutString
import Derived.ChangeOld
import Derived.Below
import Derived.SizedLaws
/- The plainer reading of functions of the program, each held against its code. Conditions: none. -/
set_option linter.unusedVariables false
set_option maxRecDepth 100000
namespace Go.Proofs.Ytenhcpjlkmbedaa
open Go Go.Den
/- loop.example/g00008/laws.FnExactScan -/
def an4 : Ann := (.seq .leaf (.seq (.seq .leaf (.cond (.seq .leaf .leaf) .leaf)) (.seq .leaf (.seq .leaf (.seq (.seq (.reg [(5, none), (4, some (57, [(32, .bool)]))]) (.cond (.seq .leaf .leaf) .leaf)) (.seq .leaf (.seq .leaf (.seq .leaf (.seq .leaf (.seq (.seq .leaf (.cond (.seq .leaf .leaf) .leaf)) (.seq (.seq .leaf (.cond (.seq .leaf .leaf) .leaf)) (.seq .leaf (.seq (.seq (.reg [(5, none), (4, some (160, [(57, .bool)]))]) (.cond (.seq .leaf .leaf) .leaf)) (.seq .leaf (.seq .leaf (.seq (.seq .leaf (.cond (.seq .leaf .leaf) .leaf)) (.seq (.seq .leaf (.cond (.seq .leaf .leaf) .leaf)) (.seq .leaf .leaf))))))))))))))))))
def W4 (a0 : ByteArray) (w : World) (K : Value → World → Prop) : Prop :=
  BIf (decide (((a0.size : Int) : Int) > 1048576)) (K (.bool true) w) (CallW Try.prog 14 #[.string a0] w fun v1 w2 => ∃ l3 : Sl, ∃ n4 : Int, v1 = .tuple #[.slice l3.a l3.len l3.cap, .int .i64 n4] ∧ CallW Try.prog 15 #[.string a0] w2 fun v5 w6 => ∃ l7 : Sl, ∃ n8 : Int, v5 = .tuple #[.slice l7.a l7.len l7.cap, .int .i64 n8] ∧ CallW Try.prog 16 #[.slice l7.a l7.len l7.cap, .slice l3.a l3.len l3.cap] w6 fun v9 w10 => ∃ b11 : Bool, v9 = .bool b11 ∧ JoinW [.bool] (fun J13 => BIf (!b11) (J13 true w10) (J13 ((n8 : Int) != n4) w10)) (fun (b12 : Bool) w14 => BIf b12 (K (.bool false) w14) (CallW Try.prog 17 #[.slice l7.a l7.len l7.cap, .int .i64 1] w14 fun v15 w16 => ∃ n17 : Int, v15 = .int .i64 n17 ∧ CallW Try.prog 18 #[.slice l7.a l7.len l7.cap, .int .i64 1] w16 fun v18 w19 => ∃ n20 : Int, v18 = .int .i64 n20 ∧ BIf (decide ((n20 : Int) < 0)) (K (.bool false) w19) (BIf ((n20 : Int) != n17) (K (.bool false) w19) (CallW Try.prog 15 #[.string a0] w19 fun v21 w22 => ∃ l23 : Sl, ∃ n24 : Int, v21 = .tuple #[.slice l23.a l23.len l23.cap, .int .i64 n24] ∧ CallW Try.prog 16 #[.slice l23.a l23.len l23.cap, .slice l3.a l3.len l3.cap] w22 fun v25 w26 => ∃ b27 : Bool, v25 = .bool b27 ∧ JoinW [.bool] (fun J29 => BIf (!b27) (J29 true w26) (J29 ((n24 : Int) != n4) w26)) (fun (b28 : Bool) w30 => BIf b28 (K (.bool false) w30) (CallW Try.prog 18 #[.slice l7.a l7.len l7.cap, .int .i64 1] w30 fun v31 w32 => ∃ n33 : Int, v31 = .int .i64 n33 ∧ BIf (decide ((n33 : Int) < 0)) (K (.bool false) w32) (BIf ((n33 : Int) != n17) (K (.bool false) w32) (K (.bool true) w32)))))))))
theorem eq4 (a0 : ByteArray) (w : World) (K : Value → World → Prop) : denFn Try.prog tt Try.f4 an4 [.string a0] w K = W4 a0 w K := by kernel_rfl
theorem ok4 : OkFn Try.prog 4 := ⟨Try.f4, Try.func4, by kernel_rfl, by kernel_rfl⟩
theorem go4 {a0 : ByteArray} {w : World} {K : Value → World → Prop} (h : W4 a0 w K) : CallW Try.prog 4 #[.string a0] w K :=
  .inl ⟨ok4, denFn_sound tt_ok mix Try.func4 (by kernel_rfl) (eq4 a0 w K ▸ h)⟩

/- loop.example/g00008/spec.Scan -/
def an14 : Ann := (.seq .leaf (.seq .leaf (.seq (.seq .leaf (.cond (.seq .leaf .leaf) .leaf)) (.seq .leaf (.seq (.in_ (.loop 1 [(4, .slice), (5, .int .i64)] (.seq (.seq .leaf (.cond .leaf .leaf)) (.in_ (.seq (.seq (.reg [(5, none), (5, some (49, [(26, .bool)]))]) (.cond (.seq .leaf .leaf) .leaf)) (.seq (.seq .leaf (.cond (.seq .leaf .leaf) .leaf)) (.seq .leaf (.seq (.seq .leaf (.cond (.seq .leaf .leaf) .leaf)) (.seq .leaf .leaf))))))))) (.seq .leaf .leaf))))))
def W14 (a0 : ByteArray) (w : World) (K : Value → World → Prop) : Prop :=
  LetW (w.alloc (.cells #[] 90)) fun w1 => BIf (decide (((a0.size : Int) : Int) > 400)) (K (.tuple #[.slice (some ⟨w.heap.size, 0, none⟩) 0 0, .int .i64 0]) w1) (LoopW [.slice, .int .i64] (fun J4 => fun (l2 : Sl) (n3 : Int) w5 => BIf (decide ((n3 : Int) < (a0.size : Int))) (0 ≤ (n3 : Int) ∧ (n3 : Int) < (a0.size : Int) ∧ JoinW [.bool] (fun J7 => BIf ((btI a0 n3 : Int) == 32) (J7 true w5) (0 ≤ (n3 : Int) ∧ (n3 : Int) < (a0.size : Int) ∧ J7 ((btI a0 n3 : Int) == 9) w5)) (fun (b6 : Bool) w8 => BIf b6 (J4 l2 (IntKind.wrap .i64 (n3 + 1)) w8) (0 ≤ (n3 : Int) ∧ (n3 : Int) < (a0.size : Int) ∧ BIf ((btI a0 n3 : Int) == 35) (K (.tuple #[.slice l2.a l2.len l2.cap, .int .i64 (-1)]) w8) (CallW Try.prog 56 #[.string a0, .int .i64 n3] w8 fun v9 w10 => ∃ n11 : Int, ∃ s12 : ByteArray, ∃ n13 : Int, ∃ n14 : Int, v9 = .tuple #[.agg #[.int .i64 n11, .string s12, .int .i64 n13], .int .i64 n14] ∧ LetW (w10.alloc (.cells #[.int .i64 0, .string (⟨#[]⟩ : ByteArray), .int .i64 0] 90)) fun w15 => MayN w15 ⟨w10.heap.size, 0, none⟩ 3 ∧ LetW (puts w15 ⟨w10.heap.size, 0, none⟩ 0 [.int .i64 n11, .string s12, .int .i64 n13]) fun w16 => BIf ((n14 : Int) == 0) (K (.tuple #[.slice l2.a l2.len l2.cap, .int .i64 n3]) w16) (∃ n17 : Int, w16.cell? ⟨w10.heap.size, 0, none⟩ = some (.int .i64 n17) ∧ ∃ s18 : ByteArray, w16.cell? ⟨w10.heap.size, 1, none⟩ = some (.string s18) ∧ ∃ n19 : Int, w16.cell? ⟨w10.heap.size, 2, none⟩ = some (.int .i64 n19) ∧ LetW (w16.alloc (.cells #[.int .i64 n17, .string s18, .int .i64 n19] 90)) fun w20 => AppendW 90 ti90 l2 ⟨some ⟨w16.heap.size, 0, none⟩, 1, 1⟩ w20 fun l21 w22 => J4 l21 n14 w22))))) (K (.tuple #[.slice l2.a l2.len l2.cap, .int .i64 (-1)]) w5)) ((⟨some ⟨w.heap.size, 0, none⟩, 0, 0⟩ : Sl), ((0 : Int), ())) w1)
theorem eq14 (a0 : ByteArray) (w : World) (K : Value → World → Prop) : denFn Try.prog tt Try.f14 an14 [.string a0] w K = W14 a0 w K := by kernel_rfl
theorem ok14 : OkFn Try.prog 14 := ⟨Try.f14, Try.func14, by kernel_rfl, by kernel_rfl⟩
theorem go14 {a0 : ByteArray} {w : World} {K : Value → World → Prop} (h : W14 a0 w K) : CallW Try.prog 14 #[.string a0] w K :=
  .inl ⟨ok14, denFn_sound tt_ok mix Try.func14 (by kernel_rfl) (eq14 a0 w K ▸ h)⟩

/- loop.example/g00008/impl.Scan -/
def an15 : Ann := (.seq .leaf (.seq (.seq .leaf (.cond (.seq .leaf .leaf) .leaf)) (.seq .leaf (.seq (.seq .leaf (.in_ (.loop 1 [(4, .slice), (5, .int .i64)] (.seq (.seq .leaf (.cond .leaf .leaf)) (.in_ (.seq .leaf (.seq .leaf (.seq (.in_ (.seq (.reg [(3, none), (3, some (241, [(44, .bool)])), (1, none)]) (.cond (.seq .leaf .leaf) (.seq .leaf (.cond (.seq .leaf .leaf) (.seq .leaf (.cond (.seq (.in_ (.loop 49 [(7, .int .i64)] (.seq (.seq (.reg [(5, none), (5, some (177, [(63, .bool)]))]) (.cond .leaf .leaf)) (.in_ .leaf)))) (.seq (.seq .leaf (.cond (.seq .leaf .leaf) .leaf)) .leaf)) (.seq (.reg [(3, none), (3, some (241, [(86, .bool)])), (1, none), (3, some (241, [(90, .bool)])), (1, none)]) (.cond (.join 49 [(7, .int .i64)] (.seq .leaf (.cond (.seq .leaf (.seq .leaf (.cond (.seq .leaf .leaf) .leaf))) (.join 49 [(7, .int .i64)] (.seq .leaf (.cond (.seq .leaf (.seq (.reg [(5, none), (6, some (177, [(114, .bool)]))]) (.cond (.seq .leaf .leaf) .leaf))) .leaf)) (.in_ (.loop 49 [(7, .int .i64)] (.seq (.seq (.reg [(5, none), (5, some (177, [(126, .bool)]))]) (.cond .leaf .leaf)) (.in_ .leaf))))))) (.seq .leaf (.seq (.seq .leaf (.cond (.seq .leaf .leaf) .leaf)) .leaf))) (.seq .leaf (.cond (.seq .leaf (.seq (.seq .leaf (.cond (.seq .leaf .leaf) .leaf)) (.seq .leaf (.seq (.seq .leaf (.cond (.seq .leaf .leaf) .leaf)) .leaf)))) (.seq .leaf (.seq (.seq .leaf (.cond (.seq .leaf .leaf) .leaf)) (.seq .leaf .leaf)))))))))))))) .leaf)))))))) (.seq .leaf .leaf)))))
def W15 (a0 : ByteArray) (w : World) (K : Value → World → Prop) : Prop :=
  BIf (decide (((a0.size : Int) : Int) > 400)) (K (.tuple #[.slice none 0 0, .int .i64 0]) w) (LoopW [.slice, .int .i64] (fun J3 => fun (l1 : Sl) (n2 : Int) w4 => BIf (decide ((n2 : Int) < (a0.size : Int))) (0 ≤ (n2 : Int) ∧ (n2 : Int) < (a0.size : Int) ∧ JoinW [.bool] (fun J6 => BIf ((btI a0 n2 : Int) == 32) (J6 true w4) (J6 ((btI a0 n2 : Int) == 9) w4)) (fun (b5 : Bool) w7 => BIf b5 (J3 l1 (IntKind.wrap .i64 (n2 + 1)) w7) (BIf ((btI a0 n2 : Int) == 35) (K (.tuple #[.slice l1.a l1.len l1.cap, .int .i64 (-1)]) w7) (CallW Try.prog 57 #[.int .u8 (btI a0 n2)] w7 fun v8 w9 => ∃ b10 : Bool, v8 = .bool b10 ∧ BIf b10 (LoopW [.int .i64] (fun J12 => fun (n11 : Int) w13 => JoinW [.bool] (fun J15 => BIf (decide ((n11 : Int) < (a0.size : Int))) (0 ≤ (n11 : Int) ∧ (n11 : Int) < (a0.size : Int) ∧ CallW Try.prog 58 #[.int .u8 (btI a0 n11)] w13 fun v20 w21 => ∃ b22 : Bool, v20 = .bool b22 ∧ J15 b22 w21) (J15 false w13)) (fun (b14 : Bool) w16 => BIf b14 (J12 (IntKind.wrap .i64 (n11 + 1)) w16) (BIf (decide ((IntKind.wrap .i64 (n11 - n2) : Int) > 32)) (K (.tuple #[.slice l1.a l1.len l1.cap, .int .i64 n2]) w16) (0 ≤ (n11 : Int) ∧ (n11 : Int) ≤ (a0.size : Int) ∧ 0 ≤ (n2 : Int) ∧ (n2 : Int) ≤ (n11 : Int) ∧ LetW (w16.alloc (.cells #[.int .i64 1, .string (ByteArray.extract a0 (Int.toNat n2) (Int.toNat n11)), .int .i64 0] 90)) fun w17 => AppendW 90 ti90 l1 ⟨some ⟨w16.heap.size, 0, none⟩, 1, 1⟩ w17 fun l18 w19 => J3 l18 n11 w19)))) ((n2 : Int), ()) w9) (CallW Try.prog 59 #[.int .u8 (btI a0 n2)] w9 fun v23 w24 => ∃ b25 : Bool, v23 = .bool b25 ∧ JoinW [.bool] (fun J27 => BIf b25 (J27 true w24) (J27 ((btI a0 n2 : Int) == 45) w24)) (fun (b26 : Bool) w28 => JoinW [.bool] (fun J30 => BIf b26 (J30 true w28) (J30 ((btI a0 n2 : Int) == 39) w28)) (fun (b29 : Bool) w31 => BIf b29 (JoinW [.int .i64] (fun J33 => BIf ((btI a0 n2 : Int) == 39) (CallW Try.prog 60 #[.string a0, .int .i64 n2] w31 fun v42 w43 => ∃ n44 : Int, v42 = .int .i64 n44 ∧ BIf (decide ((n44 : Int) < 0)) (K (.tuple #[.slice l1.a l1.len l1.cap, .int .i64 n2]) w43) (J33 n44 w43)) (JoinW [.int .i64] (fun J46 => BIf ((btI a0 n2 : Int) == 45) (JoinW [.bool] (fun J58 => BIf (decide ((IntKind.wrap .i64 (n2 + 1) : Int) ≥ (a0.size : Int))) (J58 true w31) (0 ≤ (IntKind.wrap .i64 (n2 + 1) : Int) ∧ (IntKind.wrap .i64 (n2 + 1) : Int) < (a0.size : Int) ∧ CallW Try.prog 59 #[.int .u8 (btI a0 (IntKind.wrap .i64 (n2 + 1)))] w31 fun v60 w61 => ∃ b62 : Bool, v60 = .bool b62 ∧ J58 (!b62) w61)) (fun (b57 : Bool) w59 => BIf b57 (K (.tuple #[.slice l1.a l1.len l1.cap, .int .i64 n2]) w59) (J46 (IntKind.wrap .i64 (n2 + 1)) w59))) (J46 n2 w31)) (fun (n45 : Int) w47 => LoopW [.int .i64] (fun J49 => fun (n48 : Int) w50 => JoinW [.bool] (fun J52 => BIf (decide ((n48 : Int) < (a0.size : Int))) (0 ≤ (n48 : Int) ∧ (n48 : Int) < (a0.size : Int) ∧ CallW Try.prog 58 #[.int .u8 (btI a0 n48)] w50 fun v54 w55 => ∃ b56 : Bool, v54 = .bool b56 ∧ J52 b56 w55) (J52 false w50)) (fun (b51 : Bool) w53 => BIf b51 (J49 (IntKind.wrap .i64 (n48 + 1)) w53) (J33 n48 w53))) ((n45 : Int), ()) w47))) (fun (n32 : Int) w34 => 0 ≤ (n32 : Int) ∧ (n32 : Int) ≤ (a0.size : Int) ∧ 0 ≤ (n2 : Int) ∧ (n2 : Int) ≤ (n32 : Int) ∧ CallW Try.prog 61 #[.string (ByteArray.extract a0 (Int.toNat n2) (Int.toNat n32))] w34 fun v35 w36 => ∃ n37 : Int, ∃ b38 : Bool, v35 = .tuple #[.int .i64 n37, .bool b38] ∧ BIf (!b38) (K (.tuple #[.slice l1.a l1.len l1.cap, .int .i64 n2]) w36) (LetW (w36.alloc (.cells #[.int .i64 2, .string (⟨#[]⟩ : ByteArray), .int .i64 n37] 90)) fun w39 => AppendW 90 ti90 l1 ⟨some ⟨w36.heap.size, 0, none⟩, 1, 1⟩ w39 fun l40 w41 => J3 l40 n32 w41))) (BIf ((btI a0 n2 : Int) == 34) (CallW Try.prog 60 #[.string a0, .int .i64 n2] w31 fun v63 w64 => ∃ n65 : Int, v63 = .int .i64 n65 ∧ BIf (decide ((n65 : Int) < 0)) (K (.tuple #[.slice l1.a l1.len l1.cap, .int .i64 n2]) w64) (0 ≤ (IntKind.wrap .i64 (n65 - 1) : Int) ∧ (IntKind.wrap .i64 (n65 - 1) : Int) ≤ (a0.size : Int) ∧ 0 ≤ (IntKind.wrap .i64 (n2 + 1) : Int) ∧ (IntKind.wrap .i64 (n2 + 1) : Int) ≤ (IntKind.wrap .i64 (n65 - 1) : Int) ∧ CallW Try.prog 62 #[.string (ByteArray.extract a0 (Int.toNat (IntKind.wrap .i64 (n2 + 1))) (Int.toNat (IntKind.wrap .i64 (n65 - 1))))] w64 fun v66 w67 => ∃ s68 : ByteArray, ∃ b69 : Bool, v66 = .tuple #[.string s68, .bool b69] ∧ BIf (!b69) (K (.tuple #[.slice l1.a l1.len l1.cap, .int .i64 n2]) w67) (LetW (w67.alloc (.cells #[.int .i64 3, .string s68, .int .i64 0] 90)) fun w70 => AppendW 90 ti90 l1 ⟨some ⟨w67.heap.size, 0, none⟩, 1, 1⟩ w70 fun l71 w72 => J3 l71 n65 w72))) (CallW Try.prog 63 #[.string (⟨#[44, 58, 40, 41]⟩ : ByteArray), .int .u8 (btI a0 n2)] w31 fun v73 w74 => ∃ n75 : Int, v73 = .int .i64 n75 ∧ BIf (decide ((n75 : Int) < 0)) (K (.tuple #[.slice l1.a l1.len l1.cap, .int .i64 n2]) w74) (LetW (w74.alloc (.cells #[.int .i64 (IntKind.wrap .i64 (4 + n75)), .string (⟨#[]⟩ : ByteArray), .int .i64 0] 90)) fun w76 => AppendW 90 ti90 l1 ⟨some ⟨w74.heap.size, 0, none⟩, 1, 1⟩ w76 fun l77 w78 => J3 l77 (IntKind.wrap .i64 (n2 + 1)) w78)))))))))) (K (.tuple #[.slice l1.a l1.len l1.cap, .int .i64 (-1)]) w4)) ((⟨none, 0, 0⟩ : Sl), ((0 : Int), ())) w)
theorem eq15 (a0 : ByteArray) (w : World) (K : Value → World → Prop) : denFn Try.prog tt Try.f15 an15 [.string a0] w K = W15 a0 w K := by kernel_rfl
theorem ok15 : OkFn Try.prog 15 := ⟨Try.f15, Try.func15, by kernel_rfl, by kernel_rfl⟩
theorem go15 {a0 : ByteArray} {w : World} {K : Value → World → Prop} (h : W15 a0 w K) : CallW Try.prog 15 #[.string a0] w K :=
  .inl ⟨ok15, denFn_sound tt_ok mix Try.func15 (by kernel_rfl) (eq15 a0 w K ▸ h)⟩

/- loop.example/g00008/laws.eqTokenS -/
def an16 : Ann := (.seq .leaf (.seq (.seq .leaf (.cond (.seq .leaf .leaf) .leaf)) (.seq (.seq .leaf (.in_ (.loop 3 [(5, .int .i64)] (.seq (.seq .leaf (.cond .leaf .leaf)) (.seq (.in_ (.seq (.draw [0, 0, 3, 7, 0, 0, 48, 112, 255, 511] [0, 1, 2, 3, 4, 5, 6, 7, 8, 9]) (.cond (.seq .leaf .leaf) .leaf))) .leaf))))) (.seq .leaf .leaf))))
def W16 (a0 : Sl) (a1 : Sl) (w : World) (K : Value → World → Prop) : Prop :=
  BIf ((((a0.len : Nat) : Int) : Int) != ((a1.len : Nat) : Int)) (K (.bool false) w) (LoopW [.int .i64] (fun J2 => fun (n1 : Int) w3 => BIf (decide ((n1 : Int) < ((a0.len : Nat) : Int))) (0 ≤ (n1 : Int) ∧ (n1 : Int) < ((a0.len : Nat) : Int) ∧ ∃ q4 : Addr, (a0.a : Option Addr) = some q4 ∧ ∃ n5 : Int, w3.drew.cell? ((q4.add (Int.toNat n1 * 3)).add 0) = some (.int .i64 n5) ∧ ∃ s6 : ByteArray, w3.drew.cell? ((q4.add (Int.toNat n1 * 3)).add 1) = some (.string s6) ∧ ∃ n7 : Int, w3.drew.cell? ((q4.add (Int.toNat n1 * 3)).add 2) = some (.int .i64 n7) ∧ 0 ≤ (n1 : Int) ∧ (n1 : Int) < ((a1.len : Nat) : Int) ∧ ∃ q8 : Addr, (a1.a : Option Addr) = some q8 ∧ ∃ n9 : Int, w3.drew.cell? ((q8.add (Int.toNat n1 * 3)).add 0) = some (.int .i64 n9) ∧ ∃ s10 : ByteArray, w3.drew.cell? ((q8.add (Int.toNat n1 * 3)).add 1) = some (.string s10) ∧ ∃ n11 : Int, w3.drew.cell? ((q8.add (Int.toNat n1 * 3)).add 2) = some (.int .i64 n11) ∧ CallW Try.prog 64 #[.agg #[.int .i64 n5, .string s6, .int .i64 n7], .agg #[.int .i64 n9, .string s10, .int .i64 n11]] w3.drew fun v12 w13 => ∃ b14 : Bool, v12 = .bool b14 ∧ BIf (!b14) (K (.bool false) w13) (J2 (IntKind.wrap .i64 (n1 + 1)) w13)) (K (.bool true) w3)) ((0 : Int), ()) w)
theorem eq16 (a0 : Sl) (a1 : Sl) (w : World) (K : Value → World → Prop) : denFn Try.prog tt Try.f16 an16 [.slice a0.a a0.len a0.cap, .slice a1.a a1.len a1.cap] w K = W16 a0 a1 w K := by kernel_rfl
theorem ok16 : OkFn Try.prog 16 := ⟨Try.f16, Try.func16, by kernel_rfl, by kernel_rfl⟩
theorem go16 {a0 : Sl} {a1 : Sl} {w : World} {K : Value → World → Prop} (h : W16 a0 a1 w K) : CallW Try.prog 16 #[.slice a0.a a0.len a0.cap, .slice a1.a a1.len a1.cap] w K :=
  .inl ⟨ok16, denFn_sound tt_ok mix Try.func16 (by kernel_rfl) (eq16 a0 a1 w K ▸ h)⟩

/- loop.example/g00008/laws.markTokenS -/
def an17 : Ann := (.seq .leaf (.seq (.seq .leaf (.in_ (.loop 1 [(1, .int .i64), (5, .int .i64)] (.seq (.seq .leaf (.cond .leaf .leaf)) (.seq (.in_ (.seq .leaf (.seq .leaf (.seq .leaf (.seq .leaf (.seq .leaf .leaf)))))) .leaf))))) (.seq .leaf .leaf)))
def W17 (a0 : Sl) (a1 : Int) (w : World) (K : Value → World → Prop) : Prop :=
  LoopW [.int .i64, .int .i64] (fun J3 => fun (n1 : Int) (n2 : Int) w4 => BIf (decide ((n2 : Int) < ((a0.len : Nat) : Int))) (0 ≤ (n2 : Int) ∧ (n2 : Int) < ((a0.len : Nat) : Int) ∧ ∃ q5 : Addr, (a0.a : Option Addr) = some q5 ∧ May w4 ((q5.add (Int.toNat n2 * 3)).add 0) ∧ LetW (w4.setCell ((q5.add (Int.toNat n2 * 3)).add 0) (.int .i64 n1)) fun w6 => CallW Try.prog 65 #[.int .i64 (IntKind.wrap .i64 (n1 + 1))] w6 fun v7 w8 => ∃ s9 : ByteArray, v7 = .string s9 ∧ 0 ≤ (n2 : Int) ∧ (n2 : Int) < ((a0.len : Nat) : Int) ∧ ∃ q10 : Addr, (a0.a : Option Addr) = some q10 ∧ May w8 ((q10.add (Int.toNat n2 * 3)).add 1) ∧ LetW (w8.setCell ((q10.add (Int.toNat n2 * 3)).add 1) (.string s9)) fun w11 => 0 ≤ (n2 : Int) ∧ (n2 : Int) < ((a0.len : Nat) : Int) ∧ ∃ q12 : Addr, (a0.a : Option Addr) = some q12 ∧ May w11 ((q12.add (Int.toNat n2 * 3)).add 2) ∧ LetW (w11.setCell ((q12.add (Int.toNat n2 * 3)).add 2) (.int .i64 (IntKind.wrap .i64 ((IntKind.wrap .i64 (n1 + 1)) + 1)))) fun w13 => J3 (IntKind.wrap .i64 ((IntKind.wrap .i64 ((IntKind.wrap .i64 (n1 + 1)) + 1)) + 1)) (IntKind.wrap .i64 (n2 + 1)) w13) (K (.int .i64 n1) w4)) ((a1 : Int), ((0 : Int), ())) w
theorem eq17 (a0 : Sl) (a1 : Int) (w : World) (K : Value → World → Prop) : denFn Try.prog tt Try.f17 an17 [.slice a0.a a0.len a0.cap, .int .i64 a1] w K = W17 a0 a1 w K := by kernel_rfl
theorem ok17 : OkFn Try.prog 17 := ⟨Try.f17, Try.func17, by kernel_rfl, by kernel_rfl⟩
theorem go17 {a0 : Sl} {a1 : Int} {w : World} {K : Value → World → Prop} (h : W17 a0 a1 w K) : CallW Try.prog 17 #[.slice a0.a a0.len a0.cap, .int .i64 a1] w K :=
  .inl ⟨ok17, denFn_sound tt_ok mix Try.func17 (by kernel_rfl) (eq17 a0 a1 w K ▸ h)⟩

/- loop.example/g00008/laws.heldTokenS -/
def an18 : Ann := (.seq .leaf (.seq (.seq .leaf (.in_ (.loop 1 [(1, .int .i64), (5, .int .i64)] (.seq (.seq .leaf (.cond .leaf .leaf)) (.seq (.in_ (.seq (.seq .leaf (.cond (.seq .leaf .leaf) .leaf)) (.seq .leaf (.seq (.seq (.draw [0, 0, 3, 7, 15, 0, 32, 127] [0, 1, 2, 3, 4, 5, 6, 7]) (.cond (.seq .leaf .leaf) .leaf)) (.seq .leaf (.seq (.seq .leaf (.cond (.seq .leaf .leaf) .leaf)) .leaf)))))) .leaf))))) (.seq .leaf .leaf)))
def W18 (a0 : Sl) (a1 : Int) (w : World) (K : Value → World → Prop) : Prop :=
  LoopW [.int .i64, .int .i64] (fun J3 => fun (n1 : Int) (n2 : Int) w4 => BIf (decide ((n2 : Int) < ((a0.len : Nat) : Int))) (0 ≤ (n2 : Int) ∧ (n2 : Int) < ((a0.len : Nat) : Int) ∧ ∃ q5 : Addr, (a0.a : Option Addr) = some q5 ∧ ∃ n6 : Int, w4.cell? ((q5.add (Int.toNat n2 * 3)).add 0) = some (.int .i64 n6) ∧ BIf ((n6 : Int) != n1) (K (.int .i64 (-1)) w4) (0 ≤ (n2 : Int) ∧ (n2 : Int) < ((a0.len : Nat) : Int) ∧ ∃ q7 : Addr, (a0.a : Option Addr) = some q7 ∧ ∃ s8 : ByteArray, w4.drew.cell? ((q7.add (Int.toNat n2 * 3)).add 1) = some (.string s8) ∧ CallW Try.prog 65 #[.int .i64 (IntKind.wrap .i64 (n1 + 1))] w4.drew fun v9 w10 => ∃ s11 : ByteArray, v9 = .string s11 ∧ (∃ s12 : ByteArray, w10.cell? ((q7.add (Int.toNat n2 * 3)).add 1) = some (.string s12) ∧ (.string s12 : Value) = (.string s8 : Value)) ∧ BIf (!strEq s8 s11) (K (.int .i64 (-1)) w10) (0 ≤ (n2 : Int) ∧ (n2 : Int) < ((a0.len : Nat) : Int) ∧ ∃ q13 : Addr, (a0.a : Option Addr) = some q13 ∧ ∃ n14 : Int, w10.cell? ((q13.add (Int.toNat n2 * 3)).add 2) = some (.int .i64 n14) ∧ BIf ((n14 : Int) != (IntKind.wrap .i64 ((IntKind.wrap .i64 (n1 + 1)) + 1))) (K (.int .i64 (-1)) w10) (J3 (IntKind.wrap .i64 ((IntKind.wrap .i64 ((IntKind.wrap .i64 (n1 + 1)) + 1)) + 1)) (IntKind.wrap .i64 (n2 + 1)) w10)))) (K (.int .i64 n1) w4)) ((a1 : Int), ((0 : Int), ())) w
theorem eq18 (a0 : Sl) (a1 : Int) (w : World) (K : Value → World → Prop) : denFn Try.prog tt Try.f18 an18 [.slice a0.a a0.len a0.cap, .int .i64 a1] w K = W18 a0 a1 w K := by kernel_rfl
theorem ok18 : OkFn Try.prog 18 := ⟨Try.f18, Try.func18, by kernel_rfl, by kernel_rfl⟩
theorem go18 {a0 : Sl} {a1 : Int} {w : World} {K : Value → World → Prop} (h : W18 a0 a1 w K) : CallW Try.prog 18 #[.slice a0.a a0.len a0.cap, .int .i64 a1] w K :=
  .inl ⟨ok18, denFn_sound tt_ok mix Try.func18 (by kernel_rfl) (eq18 a0 a1 w K ▸ h)⟩

/- loop.example/g00008/spec.l4One -/
def an56 : Ann := (.seq .leaf (.seq .leaf (.seq .leaf (.seq (.seq .leaf (.in_ (.seq .leaf (.cond (.seq .leaf .leaf) (.seq .leaf (.cond (.seq .leaf .leaf) (.seq .leaf (.cond (.seq .leaf .leaf) (.seq .leaf (.cond (.seq .leaf .leaf) .leaf)))))))))) (.seq (.seq .leaf (.cond (.seq .leaf (.seq (.seq .leaf (.cond (.seq .leaf .leaf) .leaf)) (.seq .leaf .leaf))) .leaf)) (.seq .leaf (.seq (.seq .leaf (.cond (.seq .leaf (.seq (.seq .leaf (.cond (.seq .leaf .leaf) .leaf)) (.seq .leaf (.seq (.seq .leaf (.cond (.seq .leaf .leaf) .leaf)) (.seq .leaf .leaf))))) .leaf)) (.join 83 [(9, .int .i64)] (.seq .leaf (.cond .leaf (.seq (.reg [(3, none), (7, some (595, [(95, .bool)]))]) (.cond .leaf .leaf)))) (.seq (.seq .leaf (.cond (.seq .leaf .leaf) .leaf)) (.seq .leaf (.seq (.seq .leaf (.cond (.seq .leaf .leaf) .leaf)) (.seq .leaf .leaf))))))))))))
def W56 (a0 : ByteArray) (a1 : Int) (w : World) (K : Value → World → Prop) : Prop :=
  LetW (w.alloc (.cells #[.int .i64 0, .string (⟨#[]⟩ : ByteArray), .int .i64 0] 90)) fun w1 => LetW (w1.alloc (.cells #[.int .i64 0, .string (⟨#[]⟩ : ByteArray), .int .i64 0] 90)) fun w2 => MayN w2 ⟨w1.heap.size, 0, none⟩ 3 ∧ LetW (puts w2 ⟨w1.heap.size, 0, none⟩ 0 [.int .i64 0, .string (⟨#[]⟩ : ByteArray), .int .i64 0]) fun w3 => 0 ≤ (a1 : Int) ∧ (a1 : Int) < (a0.size : Int) ∧ BIf ((btI a0 a1 : Int) == 44) (MayN w3 ⟨w.heap.size, 0, none⟩ 3 ∧ LetW (puts w3 ⟨w.heap.size, 0, none⟩ 0 [.int .i64 4, .string (⟨#[]⟩ : ByteArray), .int .i64 0]) fun w4 => ∃ n5 : Int, w4.cell? ⟨w.heap.size, 0, none⟩ = some (.int .i64 n5) ∧ ∃ s6 : ByteArray, w4.cell? ⟨w.heap.size, 1, none⟩ = some (.string s6) ∧ ∃ n7 : Int, w4.cell? ⟨w.heap.size, 2, none⟩ = some (.int .i64 n7) ∧ K (.tuple #[.agg #[.int .i64 n5, .string s6, .int .i64 n7], .int .i64 (IntKind.wrap .i64 (a1 + 1))]) w4) (BIf ((btI a0 a1 : Int) == 58) (MayN w3 ⟨w.heap.size, 0, none⟩ 3 ∧ LetW (puts w3 ⟨w.heap.size, 0, none⟩ 0 [.int .i64 5, .string (⟨#[]⟩ : ByteArray), .int .i64 0]) fun w8 => ∃ n9 : Int, w8.cell? ⟨w.heap.size, 0, none⟩ = some (.int .i64 n9) ∧ ∃ s10 : ByteArray, w8.cell? ⟨w.heap.size, 1, none⟩ = some (.string s10) ∧ ∃ n11 : Int, w8.cell? ⟨w.heap.size, 2, none⟩ = some (.int .i64 n11) ∧ K (.tuple #[.agg #[.int .i64 n9, .string s10, .int .i64 n11], .int .i64 (IntKind.wrap .i64 (a1 + 1))]) w8) (BIf ((btI a0 a1 : Int) == 40) (MayN w3 ⟨w.heap.size, 0, none⟩ 3 ∧ LetW (puts w3 ⟨w.heap.size, 0, none⟩ 0 [.int .i64 6, .string (⟨#[]⟩ : ByteArray), .int .i64 0]) fun w12 => ∃ n13 : Int, w12.cell? ⟨w.heap.size, 0, none⟩ = some (.int .i64 n13) ∧ ∃ s14 : ByteArray, w12.cell? ⟨w.heap.size, 1, none⟩ = some (.string s14) ∧ ∃ n15 : Int, w12.cell? ⟨w.heap.size, 2, none⟩ = some (.int .i64 n15) ∧ K (.tuple #[.agg #[.int .i64 n13, .string s14, .int .i64 n15], .int .i64 (IntKind.wrap .i64 (a1 + 1))]) w12) (BIf ((btI a0 a1 : Int) == 41) (MayN w3 ⟨w.heap.size, 0, none⟩ 3 ∧ LetW (puts w3 ⟨w.heap.size, 0, none⟩ 0 [.int .i64 7, .string (⟨#[]⟩ : ByteArray), .int .i64 0]) fun w16 => ∃ n17 : Int, w16.cell? ⟨w.heap.size, 0, none⟩ = some (.int .i64 n17) ∧ ∃ s18 : ByteArray, w16.cell? ⟨w.heap.size, 1, none⟩ = some (.string s18) ∧ ∃ n19 : Int, w16.cell? ⟨w.heap.size, 2, none⟩ = some (.int .i64 n19) ∧ K (.tuple #[.agg #[.int .i64 n17, .string s18, .int .i64 n19], .int .i64 (IntKind.wrap .i64 (a1 + 1))]) w16) (CallW Try.prog 121 #[.int .u8 (btI a0 a1)] w3 fun v20 w21 => ∃ b22 : Bool, v20 = .bool b22 ∧ BIf b22 (CallW Try.prog 122 #[.string a0, .int .i64 a1] w21 fun v23 w24 => ∃ n25 : Int, v23 = .int .i64 n25 ∧ BIf (decide ((IntKind.wrap .i64 (n25 - a1) : Int) > 32)) (∃ n26 : Int, w24.cell? ⟨w1.heap.size, 0, none⟩ = some (.int .i64 n26) ∧ ∃ s27 : ByteArray, w24.cell? ⟨w1.heap.size, 1, none⟩ = some (.string s27) ∧ ∃ n28 : Int, w24.cell? ⟨w1.heap.size, 2, none⟩ = some (.int .i64 n28) ∧ MayN w24 ⟨w.heap.size, 0, none⟩ 3 ∧ LetW (puts w24 ⟨w.heap.size, 0, none⟩ 0 [.int .i64 n26, .string s27, .int .i64 n28]) fun w29 => ∃ n30 : Int, w29.cell? ⟨w.heap.size, 0, none⟩ = some (.int .i64 n30) ∧ ∃ s31 : ByteArray, w29.cell? ⟨w.heap.size, 1, none⟩ = some (.string s31) ∧ ∃ n32 : Int, w29.cell? ⟨w.heap.size, 2, none⟩ = some (.int .i64 n32) ∧ K (.tuple #[.agg #[.int .i64 n30, .string s31, .int .i64 n32], .int .i64 0]) w29) (0 ≤ (n25 : Int) ∧ (n25 : Int) ≤ (a0.size : Int) ∧ 0 ≤ (a1 : Int) ∧ (a1 : Int) ≤ (n25 : Int) ∧ MayN w24 ⟨w.heap.size, 0, none⟩ 3 ∧ LetW (puts w24 ⟨w.heap.size, 0, none⟩ 0 [.int .i64 1, .string (ByteArray.extract a0 (Int.toNat a1) (Int.toNat n25)), .int .i64 0]) fun w33 => ∃ n34 : Int, w33.cell? ⟨w.heap.size, 0, none⟩ = some (.int .i64 n34) ∧ ∃ s35 : ByteArray, w33.cell? ⟨w.heap.size, 1, none⟩ = some (.string s35) ∧ ∃ n36 : Int, w33.cell? ⟨w.heap.size, 2, none⟩ = some (.int .i64 n36) ∧ K (.tuple #[.agg #[.int .i64 n34, .string s35, .int .i64 n36], .int .i64 n25]) w33)) (BIf ((btI a0 a1 : Int) == 34) (CallW Try.prog 123 #[.string a0, .int .i64 (IntKind.wrap .i64 (a1 + 1)), .int .u8 34] w21 fun v37 w38 => ∃ n39 : Int, v37 = .int .i64 n39 ∧ BIf (decide ((n39 : Int) < 0)) (∃ n40 : Int, w38.cell? ⟨w1.heap.size, 0, none⟩ = some (.int .i64 n40) ∧ ∃ s41 : ByteArray, w38.cell? ⟨w1.heap.size, 1, none⟩ = some (.string s41) ∧ ∃ n42 : Int, w38.cell? ⟨w1.heap.size, 2, none⟩ = some (.int .i64 n42) ∧ MayN w38 ⟨w.heap.size, 0, none⟩ 3 ∧ LetW (puts w38 ⟨w.heap.size, 0, none⟩ 0 [.int .i64 n40, .string s41, .int .i64 n42]) fun w43 => ∃ n44 : Int, w43.cell? ⟨w.heap.size, 0, none⟩ = some (.int .i64 n44) ∧ ∃ s45 : ByteArray, w43.cell? ⟨w.heap.size, 1, none⟩ = some (.string s45) ∧ ∃ n46 : Int, w43.cell? ⟨w.heap.size, 2, none⟩ = some (.int .i64 n46) ∧ K (.tuple #[.agg #[.int .i64 n44, .string s45, .int .i64 n46], .int .i64 0]) w43) (0 ≤ (IntKind.wrap .i64 (n39 - 1) : Int) ∧ (IntKind.wrap .i64 (n39 - 1) : Int) ≤ (a0.size : Int) ∧ 0 ≤ (IntKind.wrap .i64 (a1 + 1) : Int) ∧ (IntKind.wrap .i64 (a1 + 1) : Int) ≤ (IntKind.wrap .i64 (n39 - 1) : Int) ∧ CallW Try.prog 124 #[.string (ByteArray.extract a0 (Int.toNat (IntKind.wrap .i64 (a1 + 1))) (Int.toNat (IntKind.wrap .i64 (n39 - 1))))] w38 fun v47 w48 => ∃ s49 : ByteArray, ∃ b50 : Bool, v47 = .tuple #[.string s49, .bool b50] ∧ BIf (!b50) (∃ n51 : Int, w48.cell? ⟨w1.heap.size, 0, none⟩ = some (.int .i64 n51) ∧ ∃ s52 : ByteArray, w48.cell? ⟨w1.heap.size, 1, none⟩ = some (.string s52) ∧ ∃ n53 : Int, w48.cell? ⟨w1.heap.size, 2, none⟩ = some (.int .i64 n53) ∧ MayN w48 ⟨w.heap.size, 0, none⟩ 3 ∧ LetW (puts w48 ⟨w.heap.size, 0, none⟩ 0 [.int .i64 n51, .string s52, .int .i64 n53]) fun w54 => ∃ n55 : Int, w54.cell? ⟨w.heap.size, 0, none⟩ = some (.int .i64 n55) ∧ ∃ s56 : ByteArray, w54.cell? ⟨w.heap.size, 1, none⟩ = some (.string s56) ∧ ∃ n57 : Int, w54.cell? ⟨w.heap.size, 2, none⟩ = some (.int .i64 n57) ∧ K (.tuple #[.agg #[.int .i64 n55, .string s56, .int .i64 n57], .int .i64 0]) w54) (MayN w48 ⟨w.heap.size, 0, none⟩ 3 ∧ LetW (puts w48 ⟨w.heap.size, 0, none⟩ 0 [.int .i64 3, .string s49, .int .i64 0]) fun w58 => ∃ n59 : Int, w58.cell? ⟨w.heap.size, 0, none⟩ = some (.int .i64 n59) ∧ ∃ s60 : ByteArray, w58.cell? ⟨w.heap.size, 1, none⟩ = some (.string s60) ∧ ∃ n61 : Int, w58.cell? ⟨w.heap.size, 2, none⟩ = some (.int .i64 n61) ∧ K (.tuple #[.agg #[.int .i64 n59, .string s60, .int .i64 n61], .int .i64 n39]) w58))) (JoinW [.int .i64] (fun J63 => BIf ((btI a0 a1 : Int) == 39) (CallW Try.prog 123 #[.string a0, .int .i64 (IntKind.wrap .i64 (a1 + 1)), .int .u8 39] w21 fun v87 w88 => ∃ n89 : Int, v87 = .int .i64 n89 ∧ J63 n89 w88) (JoinW [.bool] (fun J91 => BIf ((btI a0 a1 : Int) == 45) (J91 true w21) (BIf (decide ((btI a0 a1 : Int) ≥ 48)) (J91 (decide ((btI a0 a1 : Int) ≤ 57)) w21) (J91 false w21))) (fun (b90 : Bool) w92 => BIf b90 (CallW Try.prog 122 #[.string a0, .int .i64 (IntKind.wrap .i64 (a1 + 1))] w92 fun v93 w94 => ∃ n95 : Int, v93 = .int .i64 n95 ∧ J63 n95 w94) (J63 0 w92)))) (fun (n62 : Int) w64 => BIf (decide ((n62 : Int) ≤ 0)) (∃ n65 : Int, w64.cell? ⟨w1.heap.size, 0, none⟩ = some (.int .i64 n65) ∧ ∃ s66 : ByteArray, w64.cell? ⟨w1.heap.size, 1, none⟩ = some (.string s66) ∧ ∃ n67 : Int, w64.cell? ⟨w1.heap.size, 2, none⟩ = some (.int .i64 n67) ∧ MayN w64 ⟨w.heap.size, 0, none⟩ 3 ∧ LetW (puts w64 ⟨w.heap.size, 0, none⟩ 0 [.int .i64 n65, .string s66, .int .i64 n67]) fun w68 => ∃ n69 : Int, w68.cell? ⟨w.heap.size, 0, none⟩ = some (.int .i64 n69) ∧ ∃ s70 : ByteArray, w68.cell? ⟨w.heap.size, 1, none⟩ = some (.string s70) ∧ ∃ n71 : Int, w68.cell? ⟨w.heap.size, 2, none⟩ = some (.int .i64 n71) ∧ K (.tuple #[.agg #[.int .i64 n69, .string s70, .int .i64 n71], .int .i64 0]) w68) (0 ≤ (n62 : Int) ∧ (n62 : Int) ≤ (a0.size : Int) ∧ 0 ≤ (a1 : Int) ∧ (a1 : Int) ≤ (n62 : Int) ∧ CallW Try.prog 125 #[.string (ByteArray.extract a0 (Int.toNat a1) (Int.toNat n62))] w64 fun v72 w73 => ∃ n74 : Int, ∃ b75 : Bool, v72 = .tuple #[.int .i64 n74, .bool b75] ∧ BIf (!b75) (∃ n76 : Int, w73.cell? ⟨w1.heap.size, 0, none⟩ = some (.int .i64 n76) ∧ ∃ s77 : ByteArray, w73.cell? ⟨w1.heap.size, 1, none⟩ = some (.string s77) ∧ ∃ n78 : Int, w73.cell? ⟨w1.heap.size, 2, none⟩ = some (.int .i64 n78) ∧ MayN w73 ⟨w.heap.size, 0, none⟩ 3 ∧ LetW (puts w73 ⟨w.heap.size, 0, none⟩ 0 [.int .i64 n76, .string s77, .int .i64 n78]) fun w79 => ∃ n80 : Int, w79.cell? ⟨w.heap.size, 0, none⟩ = some (.int .i64 n80) ∧ ∃ s81 : ByteArray, w79.cell? ⟨w.heap.size, 1, none⟩ = some (.string s81) ∧ ∃ n82 : Int, w79.cell? ⟨w.heap.size, 2, none⟩ = some (.int .i64 n82) ∧ K (.tuple #[.agg #[.int .i64 n80, .string s81, .int .i64 n82], .int .i64 0]) w79) (MayN w73 ⟨w.heap.size, 0, none⟩ 3 ∧ LetW (puts w73 ⟨w.heap.size, 0, none⟩ 0 [.int .i64 2, .string (⟨#[]⟩ : ByteArray), .int .i64 n74]) fun w83 => ∃ n84 : Int, w83.cell? ⟨w.heap.size, 0, none⟩ = some (.int .i64 n84) ∧ ∃ s85 : ByteArray, w83.cell? ⟨w.heap.size, 1, none⟩ = some (.string s85) ∧ ∃ n86 : Int, w83.cell? ⟨w.heap.size, 2, none⟩ = some (.int .i64 n86) ∧ K (.tuple #[.agg #[.int .i64 n84, .string s85, .int .i64 n86], .int .i64 n62]) w83)))))))))
theorem eq56 (a0 : ByteArray) (a1 : Int) (w : World) (K : Value → World → Prop) : denFn Try.prog tt Try.f56 an56 [.string a0, .int .i64 a1] w K = W56 a0 a1 w K := by kernel_rfl
theorem ok56 : OkFn Try.prog 56 := ⟨Try.f56, Try.func56, by kernel_rfl, by kernel_rfl⟩
theorem go56 {a0 : ByteArray} {a1 : Int} {w : World} {K : Value → World → Prop} (h : W56 a0 a1 w K) : CallW Try.prog 56 #[.string a0, .int .i64 a1] w K :=
  .inl ⟨ok56, denFn_sound tt_ok mix Try.func56 (by kernel_rfl) (eq56 a0 a1 w K ▸ h)⟩

/- loop.example/g00008/impl.wordStart -/
def an57 : Ann := (.seq .leaf (.seq (.reg [(3, none), (3, some (1, [(8, .bool)])), (1, none), (7, some (1, [(16, .bool)])), (1, none), (3, some (1, [(20, .bool)])), (1, none), (3, some (0, [(24, .bool)])), (1, none)]) .leaf))
def W57 (a0 : Int) (w : World) (K : Value → World → Prop) : Prop :=
  JoinW [.bool] (fun J2 => BIf (decide ((a0 : Int) ≥ 97)) (J2 (decide ((a0 : Int) ≤ 122)) w) (J2 false w)) (fun (b1 : Bool) w3 => JoinW [.bool] (fun J5 => BIf b1 (J5 true w3) (BIf (decide ((a0 : Int) ≥ 65)) (J5 (decide ((a0 : Int) ≤ 90)) w3) (J5 false w3))) (fun (b4 : Bool) w6 => JoinW [.bool] (fun J8 => BIf b4 (J8 true w6) (J8 ((a0 : Int) == 46) w6)) (fun (b7 : Bool) w9 => JoinW [.bool] (fun J11 => BIf b7 (J11 true w9) (J11 ((a0 : Int) == 95) w9)) (fun (b10 : Bool) w12 => K (.bool b10) w12))))
theorem eq57 (a0 : Int) (w : World) (K : Value → World → Prop) : denFn Try.prog tt Try.f57 an57 [.int .u8 a0] w K = W57 a0 w K := by kernel_rfl
theorem ok57 : OkFn Try.prog 57 := ⟨Try.f57, Try.func57, by kernel_rfl, by kernel_rfl⟩
theorem go57 {a0 : Int} {w : World} {K : Value → World → Prop} (h : W57 a0 w K) : CallW Try.prog 57 #[.int .u8 a0] w K :=
  .inl ⟨ok57, denFn_sound tt_ok mix Try.func57 (by kernel_rfl) (eq57 a0 w K ▸ h)⟩

/- loop.example/g00008/impl.wordByte -/
def an58 : Ann := (.seq .leaf (.seq (.reg [(3, none), (7, some (0, [(12, .bool)])), (1, none)]) .leaf))
def W58 (a0 : Int) (w : World) (K : Value → World → Prop) : Prop :=
  CallW Try.prog 57 #[.int .u8 a0] w fun v1 w2 => ∃ b3 : Bool, v1 = .bool b3 ∧ JoinW [.bool] (fun J5 => BIf b3 (J5 true w2) (BIf (decide ((a0 : Int) ≥ 48)) (J5 (decide ((a0 : Int) ≤ 57)) w2) (J5 false w2))) (fun (b4 : Bool) w6 => K (.bool b4) w6)
theorem eq58 (a0 : Int) (w : World) (K : Value → World → Prop) : denFn Try.prog tt Try.f58 an58 [.int .u8 a0] w K = W58 a0 w K := by kernel_rfl
theorem ok58 : OkFn Try.prog 58 := ⟨Try.f58, Try.func58, by kernel_rfl, by kernel_rfl⟩
theorem go58 {a0 : Int} {w : World} {K : Value → World → Prop} (h : W58 a0 w K) : CallW Try.prog 58 #[.int .u8 a0] w K :=
  .inl ⟨ok58, denFn_sound tt_ok mix Try.func58 (by kernel_rfl) (eq58 a0 w K ▸ h)⟩

/- loop.example/g00008/impl.digit -/
def an59 : Ann := (.seq .leaf (.seq (.reg [(3, none), (3, some (0, [(8, .bool)])), (1, none)]) .leaf))
def W59 (a0 : Int) (w : World) (K : Value → World → Prop) : Prop :=
  JoinW [.bool] (fun J2 => BIf (decide ((a0 : Int) ≥ 48)) (J2 (decide ((a0 : Int) ≤ 57)) w) (J2 false w)) (fun (b1 : Bool) w3 => K (.bool b1) w3)
theorem eq59 (a0 : Int) (w : World) (K : Value → World → Prop) : denFn Try.prog tt Try.f59 an59 [.int .u8 a0] w K = W59 a0 w K := by kernel_rfl
theorem ok59 : OkFn Try.prog 59 := ⟨Try.f59, Try.func59, by kernel_rfl, by kernel_rfl⟩
theorem go59 {a0 : Int} {w : World} {K : Value → World → Prop} (h : W59 a0 w K) : CallW Try.prog 59 #[.int .u8 a0] w K :=
  .inl ⟨ok59, denFn_sound tt_ok mix Try.func59 (by kernel_rfl) (eq59 a0 w K ▸ h)⟩

/- loop.example/g00008/impl.quotedEnd -/
def an60 : Ann := (.seq .leaf (.seq .leaf (.seq (.seq .leaf (.in_ (.loop 33 [(6, .int .i64)] (.seq (.seq .leaf (.cond .leaf .leaf)) (.seq (.in_ (.seq .leaf (.in_ (.seq .leaf (.cond .leaf (.seq .leaf (.cond (.seq .leaf .leaf) .leaf))))))) .leaf))))) (.seq .leaf .leaf))))
def W60 (a0 : ByteArray) (a1 : Int) (w : World) (K : Value → World → Prop) : Prop :=
  0 ≤ (a1 : Int) ∧ (a1 : Int) < (a0.size : Int) ∧ LoopW [.int .i64] (fun J2 => fun (n1 : Int) w3 => BIf (decide ((n1 : Int) < (a0.size : Int))) (0 ≤ (n1 : Int) ∧ (n1 : Int) < (a0.size : Int) ∧ BIf ((btI a0 n1 : Int) == 92) (J2 (IntKind.wrap .i64 ((IntKind.wrap .i64 (n1 + 1)) + 1)) w3) (BIf ((btI a0 n1 : Int) == (btI a0 a1)) (K (.int .i64 (IntKind.wrap .i64 (n1 + 1))) w3) (J2 (IntKind.wrap .i64 (n1 + 1)) w3))) (K (.int .i64 (-1)) w3)) ((IntKind.wrap .i64 (a1 + 1) : Int), ()) w
theorem eq60 (a0 : ByteArray) (a1 : Int) (w : World) (K : Value → World → Prop) : denFn Try.prog tt Try.f60 an60 [.string a0, .int .i64 a1] w K = W60 a0 a1 w K := by kernel_rfl
theorem ok60 : OkFn Try.prog 60 := ⟨Try.f60, Try.func60, by kernel_rfl, by kernel_rfl⟩
theorem go60 {a0 : ByteArray} {a1 : Int} {w : World} {K : Value → World → Prop} (h : W60 a0 a1 w K) : CallW Try.prog 60 #[.string a0, .int .i64 a1] w K :=
  .inl ⟨ok60, denFn_sound tt_ok mix Try.func60 (by kernel_rfl) (eq60 a0 a1 w K ▸ h)⟩

/- loop.example/g00008/impl.Number -/
def an61 : Ann := (.seq .leaf (.seq (.seq .leaf (.cond (.seq .leaf .leaf) .leaf)) (.seq (.seq .leaf (.cond (.seq (.in_ (.seq (.reg [(4, none), (4, some (1, [(30, .bool)])), (1, none), (4, some (1, [(35, .bool)])), (1, none), (4, some (1, [(40, .bool)])), (1, none), (4, some (1, [(45, .bool)])), (1, none), (4, some (1, [(50, .bool)])), (1, none)]) (.cond (.seq .leaf .leaf) (.seq (.reg [(4, none), (4, some (1, [(62, .bool)])), (1, none), (4, some (1, [(67, .bool)])), (1, none)]) (.cond (.seq .leaf (.in_ (.seq .leaf (.cond (.seq .leaf .leaf) (.seq .leaf (.cond (.seq .leaf .leaf) (.seq .leaf (.cond (.seq .leaf .leaf) (.join 1 [(76, .bool)] (.seq .leaf (.cond .leaf .leaf)) (.cond (.seq .leaf .leaf) .leaf)))))))))) .leaf))))) (.seq .leaf .leaf)) .leaf)) (.seq .leaf (.seq .leaf (.join 32 [(4, .str), (6, .int .u64)] (.seq .leaf (.seq .leaf (.cond .leaf .leaf))) (.seq (.seq .leaf (.cond (.seq .leaf .leaf) .leaf)) (.seq .leaf (.seq (.seq .leaf (.in_ (.loop 158456325028528675187087900784 [(9, .int .u64), (98, .int .i64)] (.seq .leaf (.seq (.cond .leaf .leaf) (.seq (.in_ (.seq .leaf (.seq .leaf (.join 475368975085586025561263702640 [(11, .int .u64)] (.seq .leaf (.in_ (.seq (.reg [(3, none), (3, some (475368975085586025561263708784, [(110, .bool)])), (1, none)]) (.cond .leaf (.seq (.reg [(3, none), (3, some (475368975085586025561263708784, [(120, .bool)])), (1, none)]) (.cond .leaf .leaf)))))) (.seq (.seq .leaf (.cond (.seq .leaf .leaf) .leaf)) (.seq .leaf (.seq .leaf (.seq (.seq .leaf (.cond (.seq .leaf .leaf) .leaf)) .leaf)))))))) .leaf)))))) (.seq (.seq .leaf (.cond (.seq (.seq .leaf (.cond (.seq .leaf .leaf) .leaf)) .leaf) .leaf)) (.seq .leaf .leaf)))))))))))
def W61 (a0 : ByteArray) (w : World) (K : Value → World → Prop) : Prop :=
  BIf (decide (((a0.size : Int) : Int) > 40)) (K (.tuple #[.int .i64 0, .bool false]) w) (CallW Try.prog 126 #[.string a0, .string (⟨#[39]⟩ : ByteArray)] w fun v1 w2 => ∃ b3 : Bool, v1 = .bool b3 ∧ BIf b3 (JoinW [.bool] (fun J5 => BIf (((a0.size : Int) : Int) == 3) (0 ≤ (2 : Int) ∧ (2 : Int) < (a0.size : Int) ∧ J5 ((btI a0 2 : Int) == 39) w2) (J5 false w2)) (fun (b4 : Bool) w6 => JoinW [.bool] (fun J8 => BIf b4 (0 ≤ (1 : Int) ∧ (1 : Int) < (a0.size : Int) ∧ J8 (decide ((btI a0 1 : Int) ≥ 32)) w6) (J8 false w6)) (fun (b7 : Bool) w9 => JoinW [.bool] (fun J11 => BIf b7 (0 ≤ (1 : Int) ∧ (1 : Int) < (a0.size : Int) ∧ J11 (decide ((btI a0 1 : Int) ≤ 126)) w9) (J11 false w9)) (fun (b10 : Bool) w12 => JoinW [.bool] (fun J14 => BIf b10 (0 ≤ (1 : Int) ∧ (1 : Int) < (a0.size : Int) ∧ J14 ((btI a0 1 : Int) != 39) w12) (J14 false w12)) (fun (b13 : Bool) w15 => JoinW [.bool] (fun J17 => BIf b13 (0 ≤ (1 : Int) ∧ (1 : Int) < (a0.size : Int) ∧ J17 ((btI a0 1 : Int) != 92) w15) (J17 false w15)) (fun (b16 : Bool) w18 => BIf b16 (0 ≤ (1 : Int) ∧ (1 : Int) < (a0.size : Int) ∧ K (.tuple #[.int .i64 (IntKind.wrap .i64 (btI a0 1)), .bool true]) w18) (JoinW [.bool] (fun J20 => BIf (((a0.size : Int) : Int) == 4) (0 ≤ (3 : Int) ∧ (3 : Int) < (a0.size : Int) ∧ J20 ((btI a0 3 : Int) == 39) w18) (J20 false w18)) (fun (b19 : Bool) w21 => JoinW [.bool] (fun J23 => BIf b19 (0 ≤ (1 : Int) ∧ (1 : Int) < (a0.size : Int) ∧ J23 ((btI a0 1 : Int) == 92) w21) (J23 false w21)) (fun (b22 : Bool) w24 => BIf b22 (0 ≤ (2 : Int) ∧ (2 : Int) < (a0.size : Int) ∧ BIf ((btI a0 2 : Int) == 110) (K (.tuple #[.int .i64 10, .bool true]) w24) (BIf ((btI a0 2 : Int) == 116) (K (.tuple #[.int .i64 9, .bool true]) w24) (BIf ((btI a0 2 : Int) == 48) (K (.tuple #[.int .i64 0, .bool true]) w24) (JoinW [.bool] (fun J26 => BIf ((btI a0 2 : Int) == 92) (J26 ((btI a0 2 : Int) == 92) w24) (J26 ((btI a0 2 : Int) == 39) w24)) (fun (b25 : Bool) w27 => BIf b25 (0 ≤ (2 : Int) ∧ (2 : Int) < (a0.size : Int) ∧ K (.tuple #[.int .i64 (IntKind.wrap .i64 (btI a0 2)), .bool true]) w27) (K (.tuple #[.int .i64 0, .bool false]) w27)))))) (K (.tuple #[.int .i64 0, .bool false]) w24)))))))))) (CallW Try.prog 127 #[.string a0, .string (⟨#[45]⟩ : ByteArray)] w2 fun v28 w29 => ∃ s30 : ByteArray, ∃ b31 : Bool, v28 = .tuple #[.string s30, .bool b31] ∧ JoinW [.str, .int .u64] (fun J34 => CallW Try.prog 127 #[.string s30, .string (⟨#[48, 120]⟩ : ByteArray)] w29 fun v57 w58 => ∃ s59 : ByteArray, ∃ b60 : Bool, v57 = .tuple #[.string s59, .bool b60] ∧ BIf b60 (J34 s59 16 w58) (J34 s30 10 w58)) (fun (s32 : ByteArray) (n33 : Int) w35 => BIf (strEq s32 (⟨#[]⟩ : ByteArray)) (K (.tuple #[.int .i64 0, .bool false]) w35) (LoopW [.int .u64, .int .i64] (fun J38 => fun (n36 : Int) (n37 : Int) w39 => BIf (decide ((n37 : Int) < (s32.size : Int))) (JoinW [.int .u64] (fun J41 => 0 ≤ (n37 : Int) ∧ (n37 : Int) < (s32.size : Int) ∧ JoinW [.bool] (fun J52 => BIf (decide ((btI s32 n37 : Int) ≥ 48)) (J52 (decide ((btI s32 n37 : Int) ≤ 57)) w39) (J52 false w39)) (fun (b51 : Bool) w53 => BIf b51 (J41 (IntKind.wrap .u64 (IntKind.wrap .u8 ((btI s32 n37) - 48))) w53) (JoinW [.bool] (fun J55 => BIf (decide ((btI s32 n37 : Int) ≥ 97)) (J55 (decide ((btI s32 n37 : Int) ≤ 102)) w53) (J55 false w53)) (fun (b54 : Bool) w56 => BIf b54 (J41 (IntKind.wrap .u64 ((IntKind.wrap .u64 (IntKind.wrap .u8 ((btI s32 n37) - 97))) + 10)) w56) (J41 99 w56))))) (fun (n40 : Int) w42 => BIf (decide ((n40 : Int) ≥ n33)) (K (.tuple #[.int .i64 0, .bool false]) w42) (CallW Try.prog 128 #[.int .u64 n36, .int .u64 n33] w42 fun v43 w44 => ∃ n45 : Int, ∃ n46 : Int, v43 = .tuple #[.int .u64 n45, .int .u64 n46] ∧ CallW Try.prog 129 #[.int .u64 n46, .int .u64 n40, .int .u64 0] w44 fun v47 w48 => ∃ n49 : Int, ∃ n50 : Int, v47 = .tuple #[.int .u64 n49, .int .u64 n50] ∧ BIf ((IntKind.wrap .u64 (n45 + n50) : Int) != 0) (K (.tuple #[.int .i64 0, .bool false]) w48) (J38 n49 (IntKind.wrap .i64 (n37 + 1)) w48)))) (BIf b31 (BIf (decide ((n36 : Int) > 9223372036854775808)) (K (.tuple #[.int .i64 0, .bool false]) w39) (K (.tuple #[.int .i64 (IntKind.wrap .i64 (IntKind.wrap .u64 (0 - n36))), .bool true]) w39)) (K (.tuple #[.int .i64 (IntKind.wrap .i64 n36), .bool true]) w39))) ((0 : Int), ((0 : Int), ())) w35))))
theorem eq61 (a0 : ByteArray) (w : World) (K : Value → World → Prop) : denFn Try.prog tt Try.f61 an61 [.string a0] w K = W61 a0 w K := by kernel_rfl
theorem ok61 : OkFn Try.prog 61 := ⟨Try.f61, Try.func61, by kernel_rfl, by kernel_rfl⟩
theorem go61 {a0 : ByteArray} {w : World} {K : Value → World → Prop} (h : W61 a0 w K) : CallW Try.prog 61 #[.string a0] w K :=
  .inl ⟨ok61, denFn_sound tt_ok mix Try.func61 (by kernel_rfl) (eq61 a0 w K ▸ h)⟩

/- loop.example/g00008/impl.textOf -/
def an62 : Ann := (.seq .leaf (.seq .leaf (.seq (.seq .leaf (.in_ (.loop 1 [(4, .slice), (5, .int .i64)] (.seq (.seq .leaf (.cond .leaf .leaf)) (.seq (.in_ (.seq .leaf (.seq (.seq (.reg [(3, none), (3, some (113, [(21, .bool)]))]) (.cond (.seq .leaf .leaf) .leaf)) (.join 17 [(5, .int .i64), (6, .int .u8)] (.seq .leaf (.cond (.seq .leaf (.seq (.seq .leaf (.cond (.seq .leaf .leaf) .leaf)) (.seq .leaf (.in_ (.seq .leaf (.cond .leaf (.seq .leaf (.cond .leaf (.seq .leaf (.cond .leaf (.join 49 [(39, .bool)] (.seq .leaf (.cond .leaf .leaf)) (.cond .leaf (.seq .leaf .leaf))))))))))))) .leaf)) .leaf)))) .leaf))))) (.seq .leaf .leaf))))
def W62 (a0 : ByteArray) (w : World) (K : Value → World → Prop) : Prop :=
  LoopW [.slice, .int .i64] (fun J3 => fun (l1 : Sl) (n2 : Int) w4 => BIf (decide ((n2 : Int) < (a0.size : Int))) (0 ≤ (n2 : Int) ∧ (n2 : Int) < (a0.size : Int) ∧ JoinW [.bool] (fun J6 => BIf (decide ((btI a0 n2 : Int) < 32)) (J6 true w4) (J6 (decide ((btI a0 n2 : Int) > 126)) w4)) (fun (b5 : Bool) w7 => BIf b5 (K (.tuple #[.string (⟨#[]⟩ : ByteArray), .bool false]) w7) (JoinW [.int .i64, .int .u8] (fun J10 => BIf ((btI a0 n2 : Int) == 92) (BIf (decide ((IntKind.wrap .i64 (n2 + 1) : Int) ≥ (a0.size : Int))) (K (.tuple #[.string (⟨#[]⟩ : ByteArray), .bool false]) w7) (0 ≤ (IntKind.wrap .i64 (n2 + 1) : Int) ∧ (IntKind.wrap .i64 (n2 + 1) : Int) < (a0.size : Int) ∧ BIf ((btI a0 (IntKind.wrap .i64 (n2 + 1)) : Int) == 110) (J10 (IntKind.wrap .i64 (n2 + 1)) 10 w7) (BIf ((btI a0 (IntKind.wrap .i64 (n2 + 1)) : Int) == 116) (J10 (IntKind.wrap .i64 (n2 + 1)) 9 w7) (BIf ((btI a0 (IntKind.wrap .i64 (n2 + 1)) : Int) == 48) (J10 (IntKind.wrap .i64 (n2 + 1)) 0 w7) (JoinW [.bool] (fun J16 => BIf ((btI a0 (IntKind.wrap .i64 (n2 + 1)) : Int) == 92) (J16 ((btI a0 (IntKind.wrap .i64 (n2 + 1)) : Int) == 92) w7) (J16 ((btI a0 (IntKind.wrap .i64 (n2 + 1)) : Int) == 34) w7)) (fun (b15 : Bool) w17 => BIf b15 (0 ≤ (IntKind.wrap .i64 (n2 + 1) : Int) ∧ (IntKind.wrap .i64 (n2 + 1) : Int) < (a0.size : Int) ∧ J10 (IntKind.wrap .i64 (n2 + 1)) (btI a0 (IntKind.wrap .i64 (n2 + 1))) w17) (K (.tuple #[.string (⟨#[]⟩ : ByteArray), .bool false]) w17))))))) (J10 n2 (btI a0 n2) w7)) (fun (n8 : Int) (n9 : Int) w11 => LetW (w11.alloc (.cells #[.int .u8 n9] 5)) fun w12 => AppendW 5 ti5 l1 ⟨some ⟨w11.heap.size, 0, none⟩, 1, 1⟩ w12 fun l13 w14 => J3 l13 (IntKind.wrap .i64 (n8 + 1)) w14)))) (∃ xs18 : List Int, RowAt w4 l1.a l1.len (xs18.map (Value.int .u8)) ∧ K (.tuple #[.string (strOfNums xs18), .bool true]) w4)) ((⟨none, 0, 0⟩ : Sl), ((0 : Int), ())) w
theorem eq62 (a0 : ByteArray) (w : World) (K : Value → World → Prop) : denFn Try.prog tt Try.f62 an62 [.string a0] w K = W62 a0 w K := by kernel_rfl
theorem ok62 : OkFn Try.prog 62 := ⟨Try.f62, Try.func62, by kernel_rfl, by kernel_rfl⟩
theorem go62 {a0 : ByteArray} {w : World} {K : Value → World → Prop} (h : W62 a0 w K) : CallW Try.prog 62 #[.string a0] w K :=
  .inl ⟨ok62, denFn_sound tt_ok mix Try.func62 (by kernel_rfl) (eq62 a0 w K ▸ h)⟩

/- strings.IndexByte -/
def an63 : Ann := (.seq .leaf (.seq .leaf .leaf))
def W63 (a0 : ByteArray) (a1 : Int) (w : World) (K : Value → World → Prop) : Prop :=
  CallW Try.prog 130 #[.string a0, .int .u8 a1] w fun v1 w2 => ∃ n3 : Int, v1 = .int .i64 n3 ∧ K (.int .i64 n3) w2
theorem eq63 (a0 : ByteArray) (a1 : Int) (w : World) (K : Value → World → Prop) : denFn Try.prog tt Try.f63 an63 [.string a0, .int .u8 a1] w K = W63 a0 a1 w K := by kernel_rfl
theorem ok63 : OkFn Try.prog 63 := ⟨Try.f63, Try.func63, by kernel_rfl, by kernel_rfl⟩
theorem go63 {a0 : ByteArray} {a1 : Int} {w : World} {K : Value → World → Prop} (h : W63 a0 a1 w K) : CallW Try.prog 63 #[.string a0, .int .u8 a1] w K :=
  .inl ⟨ok63, denFn_sound tt_ok mix Try.func63 (by kernel_rfl) (eq63 a0 a1 w K ▸ h)⟩

/- loop.example/g00008/laws.eqToken -/
def an64 : Ann := (.seq .leaf (.seq (.seq .leaf (.cond (.seq .leaf .leaf) .leaf)) (.seq (.seq .leaf (.cond (.seq .leaf .leaf) .leaf)) (.seq (.seq .leaf (.cond (.seq .leaf .leaf) .leaf)) (.seq .leaf .leaf)))))
def W64 (a0_0 : Int) (a0_1 : ByteArray) (a0_2 : Int) (a1_0 : Int) (a1_1 : ByteArray) (a1_2 : Int) (w : World) (K : Value → World → Prop) : Prop :=
  LetW (w.alloc (.cells #[.int .i64 a0_0, .string a0_1, .int .i64 a0_2] 90)) fun w1 => LetW (w1.alloc (.cells #[.int .i64 a1_0, .string a1_1, .int .i64 a1_2] 90)) fun w2 => ∃ n3 : Int, w2.cell? ⟨w.heap.size, 0, none⟩ = some (.int .i64 n3) ∧ ∃ n4 : Int, w2.cell? ⟨w1.heap.size, 0, none⟩ = some (.int .i64 n4) ∧ BIf ((n3 : Int) != n4) (K (.bool false) w2) (∃ s5 : ByteArray, w2.cell? ⟨w.heap.size, 1, none⟩ = some (.string s5) ∧ ∃ s6 : ByteArray, w2.cell? ⟨w1.heap.size, 1, none⟩ = some (.string s6) ∧ BIf (!strEq s5 s6) (K (.bool false) w2) (∃ n7 : Int, w2.cell? ⟨w.heap.size, 2, none⟩ = some (.int .i64 n7) ∧ ∃ n8 : Int, w2.cell? ⟨w1.heap.size, 2, none⟩ = some (.int .i64 n8) ∧ BIf ((n7 : Int) != n8) (K (.bool false) w2) (K (.bool true) w2)))
theorem eq64 (a0_0 : Int) (a0_1 : ByteArray) (a0_2 : Int) (a1_0 : Int) (a1_1 : ByteArray) (a1_2 : Int) (w : World) (K : Value → World → Prop) : denFn Try.prog tt Try.f64 an64 [.agg #[.int .i64 a0_0, .string a0_1, .int .i64 a0_2], .agg #[.int .i64 a1_0, .string a1_1, .int .i64 a1_2]] w K = W64 a0_0 a0_1 a0_2 a1_0 a1_1 a1_2 w K := by kernel_rfl
theorem ok64 : OkFn Try.prog 64 := ⟨Try.f64, Try.func64, by kernel_rfl, by kernel_rfl⟩
theorem go64 {a0_0 : Int} {a0_1 : ByteArray} {a0_2 : Int} {a1_0 : Int} {a1_1 : ByteArray} {a1_2 : Int} {w : World} {K : Value → World → Prop} (h : W64 a0_0 a0_1 a0_2 a1_0 a1_1 a1_2 w K) : CallW Try.prog 64 #[.agg #[.int .i64 a0_0, .string a0_1, .int .i64 a0_2], .agg #[.int .i64 a1_0, .string a1_1, .int .i64 a1_2]] w K :=
  .inl ⟨ok64, denFn_sound tt_ok mix Try.func64 (by kernel_rfl) (eq64 a0_0 a0_1 a0_2 a1_0 a1_1 a1_2 w K ▸ h)⟩

/- loop.example/g00008/laws.markText -/
def an65 : Ann := (.seq .leaf (.seq (.seq .leaf (.cond (.seq .leaf .leaf) .leaf)) (.seq .leaf (.seq (.in_ (.loop 0 [(0, .int .i64), (3, .str)] (.seq (.seq .leaf (.cond .leaf .leaf)) (.in_ (.seq .leaf .leaf))))) (.seq .leaf .leaf)))))
def W65 (a0 : Int) (w : World) (K : Value → World → Prop) : Prop :=
  BIf (decide ((a0 : Int) ≤ 0)) (K (.string (⟨#[109, 48]⟩ : ByteArray)) w) (LoopW [.int .i64, .str] (fun J3 => fun (n1 : Int) (s2 : ByteArray) w4 => BIf (decide ((n1 : Int) > 0)) ((10 : Int) ≠ 0 ∧ LetW (w4.alloc (.cells #[.int .u8 (IntKind.wrap .u8 (IntKind.wrap .i64 (48 + (Int.tmod n1 10))))] 5)) fun w5 => ∃ xs6 : List Int, RowAt w5 (some ⟨w4.heap.size, 0, none⟩) 1 (xs6.map (Value.int .u8)) ∧ (((strOfNums xs6).size + s2.size : Nat) : Int) ≤ IntKind.i64.max ∧ (10 : Int) ≠ 0 ∧ J3 (IntKind.wrap .i64 (Int.tdiv n1 10)) ((strOfNums xs6) ++ s2) w5) ((((⟨#[109]⟩ : ByteArray).size + s2.size : Nat) : Int) ≤ IntKind.i64.max ∧ K (.string ((⟨#[109]⟩ : ByteArray) ++ s2)) w4)) ((a0 : Int), (((⟨#[]⟩ : ByteArray) : ByteArray), ())) w)
theorem eq65 (a0 : Int) (w : World) (K : Value → World → Prop) : denFn Try.prog tt Try.f65 an65 [.int .i64 a0] w K = W65 a0 w K := by kernel_rfl
theorem ok65 : OkFn Try.prog 65 := ⟨Try.f65, Try.func65, by kernel_rfl, by kernel_rfl⟩
theorem go65 {a0 : Int} {w : World} {K : Value → World → Prop} (h : W65 a0 w K) : CallW Try.prog 65 #[.int .i64 a0] w K :=
  .inl ⟨ok65, denFn_sound tt_ok mix Try.func65 (by kernel_rfl) (eq65 a0 w K ▸ h)⟩

/- loop.example/g00008/spec.l4Letter -/
def an121 : Ann := (.seq .leaf (.seq (.reg [(3, none), (3, some (1, [(8, .bool)])), (1, none), (7, some (1, [(16, .bool)])), (1, none), (3, some (1, [(20, .bool)])), (1, none), (3, some (0, [(24, .bool)])), (1, none)]) .leaf))
def W121 (a0 : Int) (w : World) (K : Value → World → Prop) : Prop :=
  JoinW [.bool] (fun J2 => BIf (decide ((a0 : Int) ≥ 97)) (J2 (decide ((a0 : Int) ≤ 122)) w) (J2 false w)) (fun (b1 : Bool) w3 => JoinW [.bool] (fun J5 => BIf b1 (J5 true w3) (BIf (decide ((a0 : Int) ≥ 65)) (J5 (decide ((a0 : Int) ≤ 90)) w3) (J5 false w3))) (fun (b4 : Bool) w6 => JoinW [.bool] (fun J8 => BIf b4 (J8 true w6) (J8 ((a0 : Int) == 46) w6)) (fun (b7 : Bool) w9 => JoinW [.bool] (fun J11 => BIf b7 (J11 true w9) (J11 ((a0 : Int) == 95) w9)) (fun (b10 : Bool) w12 => K (.bool b10) w12))))
theorem eq121 (a0 : Int) (w : World) (K : Value → World → Prop) : denFn Try.prog tt Try.f121 an121 [.int .u8 a0] w K = W121 a0 w K := by kernel_rfl
theorem ok121 : OkFn Try.prog 121 := ⟨Try.f121, Try.func121, by kernel_rfl, by kernel_rfl⟩
theorem go121 {a0 : Int} {w : World} {K : Value → World → Prop} (h : W121 a0 w K) : CallW Try.prog 121 #[.int .u8 a0] w K :=
  .inl ⟨ok121, denFn_sound tt_ok mix Try.func121 (by kernel_rfl) (eq121 a0 w K ▸ h)⟩

/- loop.example/g00008/spec.l4Run -/
def an122 : Ann := (.seq .leaf (.seq (.in_ (.loop 1 [(1, .int .i64)] (.seq (.seq (.reg [(5, none), (5, some (3, [(14, .bool)]))]) (.cond .leaf .leaf)) (.in_ .leaf)))) (.seq .leaf .leaf)))
def W122 (a0 : ByteArray) (a1 : Int) (w : World) (K : Value → World → Prop) : Prop :=
  LoopW [.int .i64] (fun J2 => fun (n1 : Int) w3 => JoinW [.bool] (fun J5 => BIf (decide ((n1 : Int) < (a0.size : Int))) (0 ≤ (n1 : Int) ∧ (n1 : Int) < (a0.size : Int) ∧ CallW Try.prog 162 #[.int .u8 (btI a0 n1)] w3 fun v7 w8 => ∃ b9 : Bool, v7 = .bool b9 ∧ J5 b9 w8) (J5 false w3)) (fun (b4 : Bool) w6 => BIf b4 (J2 (IntKind.wrap .i64 (n1 + 1)) w6) (K (.int .i64 n1) w6))) ((a1 : Int), ()) w
theorem eq122 (a0 : ByteArray) (a1 : Int) (w : World) (K : Value → World → Prop) : denFn Try.prog tt Try.f122 an122 [.string a0, .int .i64 a1] w K = W122 a0 a1 w K := by kernel_rfl
theorem ok122 : OkFn Try.prog 122 := ⟨Try.f122, Try.func122, by kernel_rfl, by kernel_rfl⟩
theorem go122 {a0 : ByteArray} {a1 : Int} {w : World} {K : Value → World → Prop} (h : W122 a0 a1 w K) : CallW Try.prog 122 #[.string a0, .int .i64 a1] w K :=
  .inl ⟨ok122, denFn_sound tt_ok mix Try.func122 (by kernel_rfl) (eq122 a0 a1 w K ▸ h)⟩

/- loop.example/g00008/spec.l4Close -/
def an123 : Ann := (.seq .leaf (.seq (.seq .leaf (.in_ (.loop 5 [(7, .int .i64)] (.seq (.seq .leaf (.cond .leaf .leaf)) (.seq (.in_ (.seq (.seq .leaf (.cond (.seq .leaf .leaf) .leaf)) (.seq .leaf (.cond .leaf .leaf)))) .leaf))))) (.seq .leaf .leaf)))
def W123 (a0 : ByteArray) (a1 : Int) (a2 : Int) (w : World) (K : Value → World → Prop) : Prop :=
  LoopW [.int .i64] (fun J2 => fun (n1 : Int) w3 => BIf (decide ((n1 : Int) < (a0.size : Int))) (0 ≤ (n1 : Int) ∧ (n1 : Int) < (a0.size : Int) ∧ BIf ((btI a0 n1 : Int) == a2) (K (.int .i64 (IntKind.wrap .i64 (n1 + 1))) w3) (0 ≤ (n1 : Int) ∧ (n1 : Int) < (a0.size : Int) ∧ BIf ((btI a0 n1 : Int) == 92) (J2 (IntKind.wrap .i64 ((IntKind.wrap .i64 (n1 + 1)) + 1)) w3) (J2 (IntKind.wrap .i64 (n1 + 1)) w3))) (K (.int .i64 (-1)) w3)) ((a1 : Int), ()) w
theorem eq123 (a0 : ByteArray) (a1 : Int) (a2 : Int) (w : World) (K : Value → World → Prop) : denFn Try.prog tt Try.f123 an123 [.string a0, .int .i64 a1, .int .u8 a2] w K = W123 a0 a1 a2 w K := by kernel_rfl
theorem ok123 : OkFn Try.prog 123 := ⟨Try.f123, Try.func123, by kernel_rfl, by kernel_rfl⟩
theorem go123 {a0 : ByteArray} {a1 : Int} {a2 : Int} {w : World} {K : Value → World → Prop} (h : W123 a0 a1 a2 w K) : CallW Try.prog 123 #[.string a0, .int .i64 a1, .int .u8 a2] w K :=
  .inl ⟨ok123, denFn_sound tt_ok mix Try.func123 (by kernel_rfl) (eq123 a0 a1 a2 w K ▸ h)⟩

/- loop.example/g00008/spec.l4Meant -/
def an124 : Ann := (.seq .leaf (.seq .leaf (.seq (.seq .leaf (.in_ (.loop 1 [(4, .slice), (5, .int .i64)] (.seq (.seq .leaf (.cond .leaf .leaf)) (.seq (.in_ (.seq .leaf (.seq (.seq (.reg [(3, none), (3, some (113, [(22, .bool)]))]) (.cond (.seq .leaf .leaf) .leaf)) (.seq (.seq .leaf (.cond (.seq .leaf .leaf) .leaf)) (.seq .leaf (.seq (.seq .leaf (.cond (.seq .leaf .leaf) .leaf)) (.seq .leaf (.in_ (.seq .leaf (.cond .leaf (.seq .leaf (.cond .leaf (.seq .leaf (.cond .leaf (.join 49 [(53, .bool)] (.seq .leaf (.cond .leaf .leaf)) (.cond .leaf (.seq .leaf .leaf))))))))))))))))) .leaf))))) (.seq .leaf .leaf))))
def W124 (a0 : ByteArray) (w : World) (K : Value → World → Prop) : Prop :=
  LetW (w.alloc (.cells #[] 5)) fun w1 => LoopW [.slice, .int .i64] (fun J4 => fun (l2 : Sl) (n3 : Int) w5 => BIf (decide ((n3 : Int) < (a0.size : Int))) (0 ≤ (n3 : Int) ∧ (n3 : Int) < (a0.size : Int) ∧ JoinW [.bool] (fun J7 => BIf (decide ((btI a0 n3 : Int) < 32)) (J7 true w5) (J7 (decide ((btI a0 n3 : Int) > 126)) w5)) (fun (b6 : Bool) w8 => BIf b6 (K (.tuple #[.string (⟨#[]⟩ : ByteArray), .bool false]) w8) (BIf ((btI a0 n3 : Int) != 92) (LetW (w8.alloc (.cells #[.int .u8 (btI a0 n3)] 5)) fun w9 => AppendW 5 ti5 l2 ⟨some ⟨w8.heap.size, 0, none⟩, 1, 1⟩ w9 fun l10 w11 => J4 l10 (IntKind.wrap .i64 (n3 + 1)) w11) (BIf ((IntKind.wrap .i64 (n3 + 1) : Int) == (a0.size : Int)) (K (.tuple #[.string (⟨#[]⟩ : ByteArray), .bool false]) w8) (0 ≤ (IntKind.wrap .i64 (n3 + 1) : Int) ∧ (IntKind.wrap .i64 (n3 + 1) : Int) < (a0.size : Int) ∧ BIf ((btI a0 (IntKind.wrap .i64 (n3 + 1)) : Int) == 110) (LetW (w8.alloc (.cells #[.int .u8 10] 5)) fun w12 => AppendW 5 ti5 l2 ⟨some ⟨w8.heap.size, 0, none⟩, 1, 1⟩ w12 fun l13 w14 => J4 l13 (IntKind.wrap .i64 ((IntKind.wrap .i64 (n3 + 1)) + 1)) w14) (BIf ((btI a0 (IntKind.wrap .i64 (n3 + 1)) : Int) == 116) (LetW (w8.alloc (.cells #[.int .u8 9] 5)) fun w15 => AppendW 5 ti5 l2 ⟨some ⟨w8.heap.size, 0, none⟩, 1, 1⟩ w15 fun l16 w17 => J4 l16 (IntKind.wrap .i64 ((IntKind.wrap .i64 (n3 + 1)) + 1)) w17) (BIf ((btI a0 (IntKind.wrap .i64 (n3 + 1)) : Int) == 48) (LetW (w8.alloc (.cells #[.int .u8 0] 5)) fun w18 => AppendW 5 ti5 l2 ⟨some ⟨w8.heap.size, 0, none⟩, 1, 1⟩ w18 fun l19 w20 => J4 l19 (IntKind.wrap .i64 ((IntKind.wrap .i64 (n3 + 1)) + 1)) w20) (JoinW [.bool] (fun J22 => BIf ((btI a0 (IntKind.wrap .i64 (n3 + 1)) : Int) == 92) (J22 ((btI a0 (IntKind.wrap .i64 (n3 + 1)) : Int) == 92) w8) (J22 ((btI a0 (IntKind.wrap .i64 (n3 + 1)) : Int) == 34) w8)) (fun (b21 : Bool) w23 => BIf b21 (0 ≤ (IntKind.wrap .i64 (n3 + 1) : Int) ∧ (IntKind.wrap .i64 (n3 + 1) : Int) < (a0.size : Int) ∧ LetW (w23.alloc (.cells #[.int .u8 (btI a0 (IntKind.wrap .i64 (n3 + 1)))] 5)) fun w24 => AppendW 5 ti5 l2 ⟨some ⟨w23.heap.size, 0, none⟩, 1, 1⟩ w24 fun l25 w26 => J4 l25 (IntKind.wrap .i64 ((IntKind.wrap .i64 (n3 + 1)) + 1)) w26) (K (.tuple #[.string (⟨#[]⟩ : ByteArray), .bool false]) w23)))))))))) (∃ xs27 : List Int, RowAt w5 l2.a l2.len (xs27.map (Value.int .u8)) ∧ K (.tuple #[.string (strOfNums xs27), .bool true]) w5)) ((⟨some ⟨w.heap.size, 0, none⟩, 0, 0⟩ : Sl), ((0 : Int), ())) w1
theorem eq124 (a0 : ByteArray) (w : World) (K : Value → World → Prop) : denFn Try.prog tt Try.f124 an124 [.string a0] w K = W124 a0 w K := by kernel_rfl
theorem ok124 : OkFn Try.prog 124 := ⟨Try.f124, Try.func124, by kernel_rfl, by kernel_rfl⟩
theorem go124 {a0 : ByteArray} {w : World} {K : Value → World → Prop} (h : W124 a0 w K) : CallW Try.prog 124 #[.string a0] w K :=
  .inl ⟨ok124, denFn_sound tt_ok mix Try.func124 (by kernel_rfl) (eq124 a0 w K ▸ h)⟩

/- loop.example/g00008/spec.Number -/
def an125 : Ann := (.seq .leaf (.seq (.seq (.reg [(4, none), (4, some (1, [(16, .bool)]))]) (.cond (.seq .leaf .leaf) .leaf)) (.seq (.seq .leaf (.cond (.seq .leaf (.seq .leaf .leaf)) .leaf)) (.seq .leaf (.join 64 [(0, .str)] (.seq .leaf (.cond .leaf .leaf)) (.seq .leaf (.seq .leaf (.join 64 [(7, .int .u64), (8, .bool)] (.seq (.reg [(4, none), (4, some (65, [(40, .bool)])), (1, none), (4, some (65, [(45, .bool)]))]) (.cond .leaf .leaf)) (.seq (.seq .leaf (.cond (.seq .leaf .leaf) .leaf)) (.seq (.seq .leaf (.cond (.seq .leaf .leaf) .leaf)) (.seq (.seq .leaf (.cond (.seq .leaf .leaf) .leaf)) (.seq .leaf .leaf))))))))))))
def W125 (a0 : ByteArray) (w : World) (K : Value → World → Prop) : Prop :=
  JoinW [.bool] (fun J2 => BIf (((a0.size : Int) : Int) == 0) (J2 true w) (J2 (decide (((a0.size : Int) : Int) > 40)) w)) (fun (b1 : Bool) w3 => BIf b1 (K (.tuple #[.int .i64 0, .bool false]) w3) (0 ≤ (0 : Int) ∧ (0 : Int) < (a0.size : Int) ∧ BIf ((btI a0 0 : Int) == 39) (CallW Try.prog 163 #[.string a0] w3 fun v4 w5 => ∃ n6 : Int, ∃ b7 : Bool, v4 = .tuple #[.int .i64 n6, .bool b7] ∧ K (.tuple #[.int .i64 n6, .bool b7]) w5) (0 ≤ (0 : Int) ∧ (0 : Int) < (a0.size : Int) ∧ JoinW [.str] (fun J9 => BIf ((btI a0 0 : Int) == 45) (0 ≤ (1 : Int) ∧ (1 : Int) ≤ (a0.size : Int) ∧ J9 (ByteArray.extract a0 (Int.toNat 1) (Int.toNat (a0.size : Int))) w3) (J9 a0 w3)) (fun (s8 : ByteArray) w10 => JoinW [.int .u64, .bool] (fun J13 => JoinW [.bool] (fun J16 => BIf (decide (((s8.size : Int) : Int) > 2)) (0 ≤ (0 : Int) ∧ (0 : Int) < (s8.size : Int) ∧ J16 ((btI s8 0 : Int) == 48) w10) (J16 false w10)) (fun (b15 : Bool) w17 => JoinW [.bool] (fun J19 => BIf b15 (0 ≤ (1 : Int) ∧ (1 : Int) < (s8.size : Int) ∧ J19 ((btI s8 1 : Int) == 120) w17) (J19 false w17)) (fun (b18 : Bool) w20 => BIf b18 (0 ≤ (2 : Int) ∧ (2 : Int) ≤ (s8.size : Int) ∧ CallW Try.prog 164 #[.string (ByteArray.extract s8 (Int.toNat 2) (Int.toNat (s8.size : Int))), .int .i64 16] w20 fun v21 w22 => ∃ n23 : Int, ∃ b24 : Bool, v21 = .tuple #[.int .u64 n23, .bool b24] ∧ J13 n23 b24 w22) (CallW Try.prog 164 #[.string s8, .int .i64 10] w20 fun v25 w26 => ∃ n27 : Int, ∃ b28 : Bool, v25 = .tuple #[.int .u64 n27, .bool b28] ∧ J13 n27 b28 w26)))) (fun (n11 : Int) (b12 : Bool) w14 => BIf (!b12) (K (.tuple #[.int .i64 0, .bool false]) w14) (BIf (!((btI a0 0 : Int) == 45)) (K (.tuple #[.int .i64 (IntKind.wrap .i64 n11), .bool true]) w14) (BIf (decide ((n11 : Int) > 9223372036854775808)) (K (.tuple #[.int .i64 0, .bool false]) w14) (K (.tuple #[.int .i64 (IntKind.wrap .i64 (IntKind.wrap .u64 (0 - n11))), .bool true]) w14))))))))
theorem eq125 (a0 : ByteArray) (w : World) (K : Value → World → Prop) : denFn Try.prog tt Try.f125 an125 [.string a0] w K = W125 a0 w K := by kernel_rfl
theorem ok125 : OkFn Try.prog 125 := ⟨Try.f125, Try.func125, by kernel_rfl, by kernel_rfl⟩
theorem go125 {a0 : ByteArray} {w : World} {K : Value → World → Prop} (h : W125 a0 w K) : CallW Try.prog 125 #[.string a0] w K :=
  .inl ⟨ok125, denFn_sound tt_ok mix Try.func125 (by kernel_rfl) (eq125 a0 w K ▸ h)⟩

/- strings.HasPrefix -/
def an126 : Ann := (.seq .leaf (.seq .leaf .leaf))
def W126 (a0 : ByteArray) (a1 : ByteArray) (w : World) (K : Value → World → Prop) : Prop :=
  CallW Try.prog 165 #[.string a0, .string a1] w fun v1 w2 => ∃ b3 : Bool, v1 = .bool b3 ∧ K (.bool b3) w2
theorem eq126 (a0 : ByteArray) (a1 : ByteArray) (w : World) (K : Value → World → Prop) : denFn Try.prog tt Try.f126 an126 [.string a0, .string a1] w K = W126 a0 a1 w K := by kernel_rfl
theorem ok126 : OkFn Try.prog 126 := ⟨Try.f126, Try.func126, by kernel_rfl, by kernel_rfl⟩
theorem go126 {a0 : ByteArray} {a1 : ByteArray} {w : World} {K : Value → World → Prop} (h : W126 a0 a1 w K) : CallW Try.prog 126 #[.string a0, .string a1] w K :=
  .inl ⟨ok126, denFn_sound tt_ok mix Try.func126 (by kernel_rfl) (eq126 a0 a1 w K ▸ h)⟩

/- strings.CutPrefix -/
def an127 : Ann := (.seq .leaf (.seq .leaf .leaf))
def W127 (a0 : ByteArray) (a1 : ByteArray) (w : World) (K : Value → World → Prop) : Prop :=
  CallW Try.prog 166 #[.string a0, .string a1] w fun v1 w2 => ∃ s3 : ByteArray, ∃ b4 : Bool, v1 = .tuple #[.string s3, .bool b4] ∧ K (.tuple #[.string s3, .bool b4]) w2
theorem eq127 (a0 : ByteArray) (a1 : ByteArray) (w : World) (K : Value → World → Prop) : denFn Try.prog tt Try.f127 an127 [.string a0, .string a1] w K = W127 a0 a1 w K := by kernel_rfl
theorem ok127 : OkFn Try.prog 127 := ⟨Try.f127, Try.func127, by kernel_rfl, by kernel_rfl⟩
theorem go127 {a0 : ByteArray} {a1 : ByteArray} {w : World} {K : Value → World → Prop} (h : W127 a0 a1 w K) : CallW Try.prog 127 #[.string a0, .string a1] w K :=
  .inl ⟨ok127, denFn_sound tt_ok mix Try.func127 (by kernel_rfl) (eq127 a0 a1 w K ▸ h)⟩

/- math/bits.Mul64 -/
def an128 : Ann := (.seq .leaf (.seq .leaf (.seq .leaf (.seq .leaf (.seq .leaf (.seq .leaf (.seq .leaf (.seq .leaf (.seq .leaf (.seq .leaf (.seq .leaf (.seq .leaf .leaf))))))))))))
def W128 (a0 : Int) (a1 : Int) (w : World) (K : Value → World → Prop) : Prop :=
  0 ≤ (32 : Int) ∧ 0 ≤ (32 : Int) ∧ 0 ≤ (32 : Int) ∧ 0 ≤ (32 : Int) ∧ 0 ≤ (32 : Int) ∧ K (.tuple #[.int .u64 (IntKind.wrap .u64 ((IntKind.wrap .u64 ((IntKind.wrap .u64 ((shrI .u64 a0 32) * (shrI .u64 a1 32))) + (shrI .u64 (IntKind.wrap .u64 ((IntKind.wrap .u64 ((shrI .u64 a0 32) * (andI .u64 a1 4294967295))) + (shrI .u64 (IntKind.wrap .u64 ((andI .u64 a0 4294967295) * (andI .u64 a1 4294967295))) 32))) 32))) + (shrI .u64 (IntKind.wrap .u64 ((andI .u64 (IntKind.wrap .u64 ((IntKind.wrap .u64 ((shrI .u64 a0 32) * (andI .u64 a1 4294967295))) + (shrI .u64 (IntKind.wrap .u64 ((andI .u64 a0 4294967295) * (andI .u64 a1 4294967295))) 32))) 4294967295) + (IntKind.wrap .u64 ((andI .u64 a0 4294967295) * (shrI .u64 a1 32))))) 32))), .int .u64 (IntKind.wrap .u64 (a0 * a1))]) w
theorem eq128 (a0 : Int) (a1 : Int) (w : World) (K : Value → World → Prop) : denFn Try.prog tt Try.f128 an128 [.int .u64 a0, .int .u64 a1] w K = W128 a0 a1 w K := by kernel_rfl
theorem ok128 : OkFn Try.prog 128 := ⟨Try.f128, Try.func128, by kernel_rfl, by kernel_rfl⟩
theorem go128 {a0 : Int} {a1 : Int} {w : World} {K : Value → World → Prop} (h : W128 a0 a1 w K) : CallW Try.prog 128 #[.int .u64 a0, .int .u64 a1] w K :=
  .inl ⟨ok128, denFn_sound tt_ok mix Try.func128 (by kernel_rfl) (eq128 a0 a1 w K ▸ h)⟩

/- internal/stringslite.IndexByte -/
def an130 : Ann := (.seq .leaf (.seq .leaf .leaf))
def W130 (a0 : ByteArray) (a1 : Int) (w : World) (K : Value → World → Prop) : Prop :=
  CallW Try.prog 167 #[.string a0, .int .u8 a1] w fun v1 w2 => ∃ n3 : Int, v1 = .int .i64 n3 ∧ K (.int .i64 n3) w2
theorem eq130 (a0 : ByteArray) (a1 : Int) (w : World) (K : Value → World → Prop) : denFn Try.prog tt Try.f130 an130 [.string a0, .int .u8 a1] w K = W130 a0 a1 w K := by kernel_rfl
theorem ok130 : OkFn Try.prog 130 := ⟨Try.f130, Try.func130, by kernel_rfl, by kernel_rfl⟩
theorem go130 {a0 : ByteArray} {a1 : Int} {w : World} {K : Value → World → Prop} (h : W130 a0 a1 w K) : CallW Try.prog 130 #[.string a0, .int .u8 a1] w K :=
  .inl ⟨ok130, denFn_sound tt_ok mix Try.func130 (by kernel_rfl) (eq130 a0 a1 w K ▸ h)⟩

/- loop.example/g00008/spec.l4Wordy -/
def an162 : Ann := (.seq .leaf (.seq (.reg [(3, none), (7, some (0, [(12, .bool)])), (1, none)]) .leaf))
def W162 (a0 : Int) (w : World) (K : Value → World → Prop) : Prop :=
  CallW Try.prog 121 #[.int .u8 a0] w fun v1 w2 => ∃ b3 : Bool, v1 = .bool b3 ∧ JoinW [.bool] (fun J5 => BIf b3 (J5 true w2) (BIf (decide ((a0 : Int) ≥ 48)) (J5 (decide ((a0 : Int) ≤ 57)) w2) (J5 false w2))) (fun (b4 : Bool) w6 => K (.bool b4) w6)
theorem eq162 (a0 : Int) (w : World) (K : Value → World → Prop) : denFn Try.prog tt Try.f162 an162 [.int .u8 a0] w K = W162 a0 w K := by kernel_rfl
theorem ok162 : OkFn Try.prog 162 := ⟨Try.f162, Try.func162, by kernel_rfl, by kernel_rfl⟩
theorem go162 {a0 : Int} {w : World} {K : Value → World → Prop} (h : W162 a0 w K) : CallW Try.prog 162 #[.int .u8 a0] w K :=
  .inl ⟨ok162, denFn_sound tt_ok mix Try.func162 (by kernel_rfl) (eq162 a0 w K ▸ h)⟩

/- loop.example/g00008/spec.l1Char -/
def an163 : Ann := (.seq .leaf (.seq (.seq (.reg [(4, none), (4, some (1, [(11, .bool)])), (1, none), (4, some (1, [(16, .bool)])), (1, none), (4, some (1, [(21, .bool)])), (1, none), (4, some (1, [(26, .bool)])), (1, none), (4, some (1, [(31, .bool)])), (1, none), (4, some (1, [(36, .bool)]))]) (.cond (.seq .leaf .leaf) .leaf)) (.seq (.seq (.reg [(4, none), (4, some (1, [(47, .bool)])), (1, none), (4, some (1, [(52, .bool)])), (1, none), (4, some (1, [(57, .bool)]))]) (.cond (.seq .leaf (.in_ (.seq .leaf (.cond (.seq .leaf .leaf) (.seq .leaf (.cond (.seq .leaf .leaf) (.seq .leaf (.cond (.seq .leaf .leaf) (.join 1 [(66, .bool)] (.seq .leaf (.cond .leaf .leaf)) (.cond (.seq .leaf .leaf) .leaf)))))))))) .leaf)) (.seq .leaf .leaf))))
def W163 (a0 : ByteArray) (w : World) (K : Value → World → Prop) : Prop :=
  JoinW [.bool] (fun J2 => BIf (((a0.size : Int) : Int) == 3) (0 ≤ (0 : Int) ∧ (0 : Int) < (a0.size : Int) ∧ J2 ((btI a0 0 : Int) == 39) w) (J2 false w)) (fun (b1 : Bool) w3 => JoinW [.bool] (fun J5 => BIf b1 (0 ≤ (2 : Int) ∧ (2 : Int) < (a0.size : Int) ∧ J5 ((btI a0 2 : Int) == 39) w3) (J5 false w3)) (fun (b4 : Bool) w6 => JoinW [.bool] (fun J8 => BIf b4 (0 ≤ (1 : Int) ∧ (1 : Int) < (a0.size : Int) ∧ J8 (decide ((btI a0 1 : Int) ≥ 32)) w6) (J8 false w6)) (fun (b7 : Bool) w9 => JoinW [.bool] (fun J11 => BIf b7 (0 ≤ (1 : Int) ∧ (1 : Int) < (a0.size : Int) ∧ J11 (decide ((btI a0 1 : Int) ≤ 126)) w9) (J11 false w9)) (fun (b10 : Bool) w12 => JoinW [.bool] (fun J14 => BIf b10 (0 ≤ (1 : Int) ∧ (1 : Int) < (a0.size : Int) ∧ J14 ((btI a0 1 : Int) != 39) w12) (J14 false w12)) (fun (b13 : Bool) w15 => JoinW [.bool] (fun J17 => BIf b13 (0 ≤ (1 : Int) ∧ (1 : Int) < (a0.size : Int) ∧ J17 ((btI a0 1 : Int) != 92) w15) (J17 false w15)) (fun (b16 : Bool) w18 => BIf b16 (0 ≤ (1 : Int) ∧ (1 : Int) < (a0.size : Int) ∧ K (.tuple #[.int .i64 (IntKind.wrap .i64 (btI a0 1)), .bool true]) w18) (JoinW [.bool] (fun J20 => BIf (((a0.size : Int) : Int) == 4) (0 ≤ (0 : Int) ∧ (0 : Int) < (a0.size : Int) ∧ J20 ((btI a0 0 : Int) == 39) w18) (J20 false w18)) (fun (b19 : Bool) w21 => JoinW [.bool] (fun J23 => BIf b19 (0 ≤ (1 : Int) ∧ (1 : Int) < (a0.size : Int) ∧ J23 ((btI a0 1 : Int) == 92) w21) (J23 false w21)) (fun (b22 : Bool) w24 => JoinW [.bool] (fun J26 => BIf b22 (0 ≤ (3 : Int) ∧ (3 : Int) < (a0.size : Int) ∧ J26 ((btI a0 3 : Int) == 39) w24) (J26 false w24)) (fun (b25 : Bool) w27 => BIf b25 (0 ≤ (2 : Int) ∧ (2 : Int) < (a0.size : Int) ∧ BIf ((btI a0 2 : Int) == 110) (K (.tuple #[.int .i64 10, .bool true]) w27) (BIf ((btI a0 2 : Int) == 116) (K (.tuple #[.int .i64 9, .bool true]) w27) (BIf ((btI a0 2 : Int) == 48) (K (.tuple #[.int .i64 0, .bool true]) w27) (JoinW [.bool] (fun J29 => BIf ((btI a0 2 : Int) == 92) (J29 ((btI a0 2 : Int) == 92) w27) (J29 ((btI a0 2 : Int) == 39) w27)) (fun (b28 : Bool) w30 => BIf b28 (0 ≤ (2 : Int) ∧ (2 : Int) < (a0.size : Int) ∧ K (.tuple #[.int .i64 (IntKind.wrap .i64 (btI a0 2)), .bool true]) w30) (K (.tuple #[.int .i64 0, .bool false]) w30)))))) (K (.tuple #[.int .i64 0, .bool false]) w27)))))))))))
theorem eq163 (a0 : ByteArray) (w : World) (K : Value → World → Prop) : denFn Try.prog tt Try.f163 an163 [.string a0] w K = W163 a0 w K := by kernel_rfl
theorem ok163 : OkFn Try.prog 163 := ⟨Try.f163, Try.func163, by kernel_rfl, by kernel_rfl⟩
theorem go163 {a0 : ByteArray} {w : World} {K : Value → World → Prop} (h : W163 a0 w K) : CallW Try.prog 163 #[.string a0] w K :=
  .inl ⟨ok163, denFn_sound tt_ok mix Try.func163 (by kernel_rfl) (eq163 a0 w K ▸ h)⟩

/- loop.example/g00008/spec.l1Digits -/
def an164 : Ann := (.seq .leaf (.seq (.seq .leaf (.cond (.seq .leaf .leaf) .leaf)) (.seq .leaf (.seq (.seq .leaf (.in_ (.loop 3 [(6, .int .u64), (7, .int .i64)] (.seq (.seq .leaf (.cond .leaf .leaf)) (.seq (.in_ (.seq .leaf (.seq (.seq .leaf (.cond (.seq .leaf .leaf) .leaf)) (.seq .leaf (.seq (.seq .leaf (.cond (.seq .leaf .leaf) .leaf)) .leaf))))) .leaf))))) (.seq .leaf .leaf)))))
def W164 (a0 : ByteArray) (a1 : Int) (w : World) (K : Value → World → Prop) : Prop :=
  BIf (((a0.size : Int) : Int) == 0) (K (.tuple #[.int .u64 0, .bool false]) w) (LoopW [.int .u64, .int .i64] (fun J3 => fun (n1 : Int) (n2 : Int) w4 => BIf (decide ((n2 : Int) < (a0.size : Int))) (0 ≤ (n2 : Int) ∧ (n2 : Int) < (a0.size : Int) ∧ CallW Try.prog 178 #[.int .u8 (btI a0 n2)] w4 fun v5 w6 => ∃ n7 : Int, v5 = .int .i64 n7 ∧ BIf (decide ((n7 : Int) ≥ a1)) (K (.tuple #[.int .u64 0, .bool false]) w6) ((IntKind.wrap .u64 a1 : Int) ≠ 0 ∧ BIf (decide ((n1 : Int) > (IntKind.wrap .u64 (Int.tdiv (IntKind.wrap .u64 (18446744073709551615 - (IntKind.wrap .u64 n7))) (IntKind.wrap .u64 a1))))) (K (.tuple #[.int .u64 0, .bool false]) w6) (J3 (IntKind.wrap .u64 ((IntKind.wrap .u64 (n1 * (IntKind.wrap .u64 a1))) + (IntKind.wrap .u64 n7))) (IntKind.wrap .i64 (n2 + 1)) w6))) (K (.tuple #[.int .u64 n1, .bool true]) w4)) ((0 : Int), ((0 : Int), ())) w)
theorem eq164 (a0 : ByteArray) (a1 : Int) (w : World) (K : Value → World → Prop) : denFn Try.prog tt Try.f164 an164 [.string a0, .int .i64 a1] w K = W164 a0 a1 w K := by kernel_rfl
theorem ok164 : OkFn Try.prog 164 := ⟨Try.f164, Try.func164, by kernel_rfl, by kernel_rfl⟩
theorem go164 {a0 : ByteArray} {a1 : Int} {w : World} {K : Value → World → Prop} (h : W164 a0 a1 w K) : CallW Try.prog 164 #[.string a0, .int .i64 a1] w K :=
  .inl ⟨ok164, denFn_sound tt_ok mix Try.func164 (by kernel_rfl) (eq164 a0 a1 w K ▸ h)⟩

/- internal/stringslite.HasPrefix -/
def an165 : Ann := (.seq .leaf (.seq (.reg [(6, none), (7, some (0, [(17, .bool)])), (1, none)]) .leaf))
def W165 (a0 : ByteArray) (a1 : ByteArray) (w : World) (K : Value → World → Prop) : Prop :=
  JoinW [.bool] (fun J2 => BIf (decide (((a0.size : Int) : Int) ≥ (a1.size : Int))) (0 ≤ (a1.size : Int) ∧ (a1.size : Int) ≤ (a0.size : Int) ∧ J2 (strEq (ByteArray.extract a0 (Int.toNat 0) (Int.toNat (a1.size : Int))) a1) w) (J2 false w)) (fun (b1 : Bool) w3 => K (.bool b1) w3)
theorem eq165 (a0 : ByteArray) (a1 : ByteArray) (w : World) (K : Value → World → Prop) : denFn Try.prog tt Try.f165 an165 [.string a0, .string a1] w K = W165 a0 a1 w K := by kernel_rfl
theorem ok165 : OkFn Try.prog 165 := ⟨Try.f165, Try.func165, by kernel_rfl, by kernel_rfl⟩
theorem go165 {a0 : ByteArray} {a1 : ByteArray} {w : World} {K : Value → World → Prop} (h : W165 a0 a1 w K) : CallW Try.prog 165 #[.string a0, .string a1] w K :=
  .inl ⟨ok165, denFn_sound tt_ok mix Try.func165 (by kernel_rfl) (eq165 a0 a1 w K ▸ h)⟩

/- internal/stringslite.CutPrefix -/
def an166 : Ann := (.seq .leaf (.seq (.seq .leaf (.cond (.seq .leaf .leaf) .leaf)) (.seq .leaf .leaf)))
def W166 (a0 : ByteArray) (a1 : ByteArray) (w : World) (K : Value → World → Prop) : Prop :=
  CallW Try.prog 165 #[.string a0, .string a1] w fun v1 w2 => ∃ b3 : Bool, v1 = .bool b3 ∧ BIf (!b3) (K (.tuple #[.string a0, .bool false]) w2) (0 ≤ (a1.size : Int) ∧ (a1.size : Int) ≤ (a0.size : Int) ∧ K (.tuple #[.string (ByteArray.extract a0 (Int.toNat (a1.size : Int)) (Int.toNat (a0.size : Int))), .bool true]) w2)
theorem eq166 (a0 : ByteArray) (a1 : ByteArray) (w : World) (K : Value → World → Prop) : denFn Try.prog tt Try.f166 an166 [.string a0, .string a1] w K = W166 a0 a1 w K := by kernel_rfl
theorem ok166 : OkFn Try.prog 166 := ⟨Try.f166, Try.func166, by kernel_rfl, by kernel_rfl⟩
theorem go166 {a0 : ByteArray} {a1 : ByteArray} {w : World} {K : Value → World → Prop} (h : W166 a0 a1 w K) : CallW Try.prog 166 #[.string a0, .string a1] w K :=
  .inl ⟨ok166, denFn_sound tt_ok mix Try.func166 (by kernel_rfl) (eq166 a0 a1 w K ▸ h)⟩

/- loop.example/g00008/spec.l1Digit -/
def an178 : Ann := (.seq .leaf (.seq (.seq (.reg [(3, none), (3, some (1, [(8, .bool)]))]) (.cond (.seq .leaf .leaf) .leaf)) (.seq (.seq (.reg [(3, none), (3, some (1, [(17, .bool)]))]) (.cond (.seq .leaf .leaf) .leaf)) (.seq .leaf .leaf))))
def W178 (a0 : Int) (w : World) (K : Value → World → Prop) : Prop :=
  JoinW [.bool] (fun J2 => BIf (decide ((a0 : Int) ≥ 48)) (J2 (decide ((a0 : Int) ≤ 57)) w) (J2 false w)) (fun (b1 : Bool) w3 => BIf b1 (K (.int .i64 (IntKind.wrap .i64 ((IntKind.wrap .i64 a0) - 48))) w3) (JoinW [.bool] (fun J5 => BIf (decide ((a0 : Int) ≥ 97)) (J5 (decide ((a0 : Int) ≤ 102)) w3) (J5 false w3)) (fun (b4 : Bool) w6 => BIf b4 (K (.int .i64 (IntKind.wrap .i64 ((IntKind.wrap .i64 ((IntKind.wrap .i64 a0) - 97)) + 10))) w6) (K (.int .i64 99) w6))))
theorem eq178 (a0 : Int) (w : World) (K : Value → World → Prop) : denFn Try.prog tt Try.f178 an178 [.int .u8 a0] w K = W178 a0 w K := by kernel_rfl
theorem ok178 : OkFn Try.prog 178 := ⟨Try.f178, Try.func178, by kernel_rfl, by kernel_rfl⟩
theorem go178 {a0 : Int} {w : World} {K : Value → World → Prop} (h : W178 a0 w K) : CallW Try.prog 178 #[.int .u8 a0] w K :=
  .inl ⟨ok178, denFn_sound tt_ok mix Try.func178 (by kernel_rfl) (eq178 a0 w K ▸ h)⟩

end Go.Proofs.Ytenhcpjlkmbedaa

/- FnExactScan: what a line's parts mean, and the small functions of both sides. Conditions: none. -/
set_option linter.unusedVariables false
set_option linter.unusedSimpArgs false
namespace Go.Proofs.Ytenhcpjlkmbedaa
open Go Go.Den
def letter (b : Int) : Bool := (decide (b ≥ 97) && decide (b ≤ 122)) || (decide (b ≥ 65) && decide (b ≤ 90)) || b == 46 || b == 95
def isDigit (b : Int) : Bool := decide (b ≥ 48) && decide (b ≤ 57)
def wordy (b : Int) : Bool := letter b || isDigit b
theorem c57 {b : Int} {w : World} : CallW Try.prog 57 #[.int .u8 b] w (fun v w' => v = .bool (letter b) ∧ w' = w) := by
  refine go57 ?_
  unfold W57 letter
  simp only [join_and, join_or_and, join_or]
  simp
theorem c121 {b : Int} {w : World} : CallW Try.prog 121 #[.int .u8 b] w (fun v w' => v = .bool (letter b) ∧ w' = w) := by
  refine go121 ?_
  unfold W121 letter
  simp only [join_and, join_or_and, join_or]
  simp
theorem c59 {b : Int} {w : World} : CallW Try.prog 59 #[.int .u8 b] w (fun v w' => v = .bool (isDigit b) ∧ w' = w) := by
  refine go59 ?_
  unfold W59 isDigit
  simp only [join_and]
  simp
theorem c58 {b : Int} {w : World} : CallW Try.prog 58 #[.int .u8 b] w (fun v w' => v = .bool (wordy b) ∧ w' = w) := by
  refine go58 (c57.mono ?_)
  rintro _ w' ⟨rfl, rfl⟩
  refine ⟨_, rfl, ?_⟩
  unfold wordy isDigit
  simp only [join_or_and]
  simp
theorem c162 {b : Int} {w : World} : CallW Try.prog 162 #[.int .u8 b] w (fun v w' => v = .bool (wordy b) ∧ w' = w) := by
  refine go162 (c121.mono ?_)
  rintro _ w' ⟨rfl, rfl⟩
  refine ⟨_, rfl, ?_⟩
  unfold wordy isDigit
  simp only [join_or_and]
  simp
/-- The end of a run of wordy bytes. -/
def runEnd (s : ByteArray) (i : Int) : Int :=
  if i < s.size ∧ wordy (btI s i) = true then runEnd s (i + 1) else i
termination_by (s.size - i).toNat
decreasing_by omega
theorem runEnd_le (s : ByteArray) (i : Int) : i ≤ runEnd s i ∧ (i ≤ s.size → runEnd s i ≤ s.size) := by
  fun_induction runEnd s i with
  | case1 i h ih => exact ⟨by omega, fun _ => ih.2 (by omega)⟩
  | case2 i h => exact ⟨by omega, fun h => h⟩
def SmallS (s : ByteArray) : Prop := s.size ≤ 1048576
theorem c122 {s : ByteArray} {i : Int} {w : World} (hs : SmallS s) (h0 : 0 ≤ i) (h1 : i ≤ s.size) : CallW Try.prog 122 #[.string s, .int .i64 i] w (fun v w' => v = .int .i64 (runEnd s i) ∧ w' = w) := by
  unfold SmallS at hs
  refine go122 ?_
  unfold W122
  refine LoopW.m1 (fun (x : Int) w' => 0 ≤ x ∧ x ≤ s.size ∧ runEnd s x = runEnd s i ∧ w' = w) (fun (x : Int) _ => (s.size - x).toNat) ⟨h0, h1, rfl, rfl⟩ ?_
  rintro x _ ⟨hx0, hx1, hr, rfl⟩ J hJ
  refine JoinW.each ?_
  refine BIf.dec (fun hlt => ⟨hx0, hlt, c162.mono ?_⟩) (fun hge => ?_)
  · rintro _ _ ⟨rfl, rfl⟩
    refine ⟨_, rfl, ?_⟩
    cases hw : wordy (btI s x)
    · refine ⟨?_, rfl⟩
      rw [← hr, runEnd, if_neg (by rw [hw]; simp)]
    · show J _ _
      rw [w64 (by omega) (by omega)]
      refine hJ _ _ ⟨by omega, by omega, ?_, rfl⟩ (by omega)
      rw [← hr, runEnd.eq_1 s x, if_pos ⟨hlt, hw⟩]
  · show _ ∧ _
    refine ⟨?_, rfl⟩
    rw [← hr, runEnd, if_neg (by omega)]
/-- Behind the closing mark; -1 where there is none. -/
def closeAt (s : ByteArray) (q : Int) (i : Int) : Int :=
  if i < s.size then (if btI s i = q then i + 1 else if btI s i = 92 then closeAt s q (i + 2) else closeAt s q (i + 1)) else -1
termination_by (s.size - i).toNat
decreasing_by all_goals omega
theorem closeAt_le (s : ByteArray) (q i : Int) : closeAt s q i = -1 ∨ (i < closeAt s q i ∧ closeAt s q i ≤ s.size) := by
  fun_induction closeAt s q i with
  | case1 i h h1 => right; omega
  | case2 i h h1 h2 ih => omega
  | case3 i h h1 h2 ih => omega
  | case4 i h => left; rfl
theorem c123 {s : ByteArray} {i q : Int} {w : World} (hs : SmallS s) (h0 : 0 ≤ i) (h1 : i ≤ s.size) : CallW Try.prog 123 #[.string s, .int .i64 i, .int .u8 q] w (fun v w' => v = .int .i64 (closeAt s q i) ∧ w' = w) := by
  unfold SmallS at hs
  refine go123 ?_
  unfold W123
  refine LoopW.m1 (fun (x : Int) w' => 0 ≤ x ∧ x ≤ s.size + 1 ∧ closeAt s q x = closeAt s q i ∧ w' = w) (fun (x : Int) _ => (s.size + 1 - x).toNat) ⟨h0, by omega, rfl, rfl⟩ ?_
  rintro x _ ⟨hx0, hx1, hr, rfl⟩ J hJ
  refine BIf.dec (fun hlt => ⟨hx0, hlt, BIf.eq (fun he => ?_) (fun hne => ⟨hx0, hlt, BIf.eq (fun he => ?_) (fun hne2 => ?_)⟩)⟩) (fun hge => ?_)
  · rw [w64 (by omega) (by omega), ← hr, closeAt, if_pos hlt, if_pos he]
    exact ⟨rfl, rfl⟩
  · rw [w64 (n := x + 1) (by omega) (by omega), w64 (by omega) (by omega)]
    refine hJ _ _ ⟨by omega, by omega, ?_, rfl⟩ (by omega)
    rw [← hr, closeAt.eq_1 s q x, if_pos hlt, if_neg hne, if_pos he]; congr 1; omega
  · rw [w64 (by omega) (by omega)]
    refine hJ _ _ ⟨by omega, by omega, ?_, rfl⟩ (by omega)
    rw [← hr, closeAt.eq_1 s q x, if_pos hlt, if_neg hne, if_neg hne2]
  · refine ⟨?_, rfl⟩
    rw [← hr, closeAt, if_neg hge]
theorem c60 {s : ByteArray} {i : Int} {w : World} (hs : SmallS s) (h0 : 0 ≤ i) (h1 : i < s.size) (hq : btI s i ≠ 92) : CallW Try.prog 60 #[.string s, .int .i64 i] w (fun v w' => v = .int .i64 (closeAt s (btI s i) (i + 1)) ∧ w' = w) := by
  unfold SmallS at hs
  refine go60 ?_
  unfold W60
  refine ⟨h0, h1, ?_⟩
  rw [w64 (by omega) (by omega)]
  refine LoopW.m1 (fun (x : Int) w' => 0 ≤ x ∧ x ≤ s.size + 1 ∧ closeAt s (btI s i) x = closeAt s (btI s i) (i + 1) ∧ w' = w) (fun (x : Int) _ => (s.size + 1 - x).toNat) ⟨by omega, by omega, rfl, rfl⟩ ?_
  rintro x _ ⟨hx0, hx1, hr, rfl⟩ J hJ
  refine BIf.dec (fun hlt => ⟨hx0, hlt, BIf.eq (fun he => ?_) (fun hne => BIf.eq (fun he => ?_) (fun hne2 => ?_))⟩) (fun hge => ?_)
  · rw [w64 (n := x + 1) (by omega) (by omega), w64 (by omega) (by omega)]
    refine hJ _ _ ⟨by omega, by omega, ?_, rfl⟩ (by omega)
    rw [← hr, closeAt.eq_1 s _ x, if_pos hlt, if_neg (by rw [he]; omega), if_pos he]; congr 1; omega
  · rw [w64 (by omega) (by omega), ← hr, closeAt, if_pos hlt, if_pos he]
    exact ⟨rfl, rfl⟩
  · rw [w64 (by omega) (by omega)]
    refine hJ _ _ ⟨by omega, by omega, ?_, rfl⟩ (by omega)
    rw [← hr, closeAt.eq_1 s _ x, if_pos hlt, if_neg hne2, if_neg hne]
  · refine ⟨?_, rfl⟩
    rw [← hr, closeAt, if_neg hge]
end Go.Proofs.Ytenhcpjlkmbedaa

/- FnExactScan: numbers, on both sides. Conditions: none. -/
set_option linter.unusedVariables false
set_option linter.unusedSimpArgs false
namespace Go.Proofs.Ytenhcpjlkmbedaa
open Go Go.Den
/-! ## Go's library -/
theorem c165 {s p : ByteArray} {w : World} : CallW Try.prog 165 #[.string s, .string p] w (fun v w' => v = .bool (decide (p.size ≤ s.size) && strEq (s.extract 0 p.size) p) ∧ w' = w) := by
  refine go165 ?_
  unfold W165
  refine JoinW.each (BIf.dec (fun h => ⟨by omega, h, ?_⟩) (fun h => ?_))
  · refine ⟨?_, rfl⟩
    rw [decide_eq_true (by omega)]; rfl
  · refine ⟨?_, rfl⟩
    rw [decide_eq_false (by omega)]; rfl
theorem c126 {s p : ByteArray} {w : World} : CallW Try.prog 126 #[.string s, .string p] w (fun v w' => v = .bool (decide (p.size ≤ s.size) && strEq (s.extract 0 p.size) p) ∧ w' = w) := by
  refine go126 (c165.mono ?_)
  rintro _ w' ⟨rfl, rfl⟩
  exact ⟨_, rfl, rfl, rfl⟩
def cutP (s p : ByteArray) : ByteArray × Bool := if (decide (p.size ≤ s.size) && strEq (s.extract 0 p.size) p) = true then (s.extract p.size s.size, true) else (s, false)
theorem c166 {s p : ByteArray} {w : World} : CallW Try.prog 166 #[.string s, .string p] w (fun v w' => v = .tuple #[.string (cutP s p).1, .bool (cutP s p).2] ∧ w' = w) := by
  refine go166 (c165.mono ?_)
  rintro _ w' ⟨rfl, rfl⟩
  refine ⟨_, rfl, ?_⟩
  unfold cutP
  refine BIf.of (fun h => ?_) (fun h => ?_)
  · rw [if_neg (by intro h'; rw [h'] at h; cases h)]
    exact ⟨rfl, rfl⟩
  · have h' : (decide (p.size ≤ s.size) && strEq (s.extract 0 p.size) p) = true := by simpa using h
    rw [if_pos h']
    refine ⟨by omega, ?_, rfl, rfl⟩
    have := (Bool.and_eq_true _ _ ▸ h' : _ ∧ _).1
    have := of_decide_eq_true this
    omega
theorem c127 {s p : ByteArray} {w : World} : CallW Try.prog 127 #[.string s, .string p] w (fun v w' => v = .tuple #[.string (cutP s p).1, .bool (cutP s p).2] ∧ w' = w) := by
  refine go127 (c166.mono ?_)
  rintro _ w' ⟨rfl, rfl⟩
  exact ⟨_, _, rfl, rfl, rfl⟩
theorem c167 {s : ByteArray} {c : Int} {w : World} : CallW Try.prog 167 #[.string s, .int .u8 c] w (fun v w' => v = .int .i64 (firstIdx s c.toNat.toUInt8) ∧ w' = w) :=
  CallW.row Try.func167 (by kernel_rfl) (by kernel_rfl) (by kernel_rfl) (e := Extern.BytealgIndexByte.indexByte) (by kernel_rfl) (run_indexByte_string s c w) ⟨rfl, rfl⟩
theorem c130 {s : ByteArray} {c : Int} {w : World} : CallW Try.prog 130 #[.string s, .int .u8 c] w (fun v w' => v = .int .i64 (firstIdx s c.toNat.toUInt8) ∧ w' = w) := by
  refine go130 (c167.mono ?_)
  rintro _ w' ⟨rfl, rfl⟩
  exact ⟨_, rfl, rfl, rfl⟩
theorem c63 {s : ByteArray} {c : Int} {w : World} : CallW Try.prog 63 #[.string s, .int .u8 c] w (fun v w' => v = .int .i64 (firstIdx s c.toNat.toUInt8) ∧ w' = w) := by
  refine go63 (c130.mono ?_)
  rintro _ w' ⟨rfl, rfl⟩
  exact ⟨_, rfl, rfl, rfl⟩
theorem c129 {x y : Int} {w : World} (hx : 0 ≤ x) (hy : 0 ≤ y) : CallW Try.prog 129 #[.int .u64 x, .int .u64 y, .int .u64 0] w (fun v w' => v = .tuple #[.int .u64 ((x + y) % 18446744073709551616), .int .u64 ((x + y) / 18446744073709551616)] ∧ w' = w) := by
  have hr := run_add64 (P := Try.prog) x y 0 hx hy (by omega) (by omega) w
  rw [Int.add_zero] at hr
  exact CallW.row Try.func129 (by kernel_rfl) (by kernel_rfl) (by kernel_rfl) (e := add64Entry) (by kernel_rfl) hr ⟨rfl, rfl⟩
theorem shr32 {a : Int} : shrI .u64 a 32 = a / 4294967296 := by
  unfold shrI
  rw [Int.fdiv_eq_ediv_of_nonneg _ (by decide)]
  rfl
theorem and32 {a : Int} (h0 : 0 ≤ a) (h1 : a < 18446744073709551616) : andI .u64 a 4294967295 = a % 4294967296 := by
  obtain ⟨n, rfl⟩ := Int.eq_ofNat_of_zero_le h0
  unfold andI
  have e1 : BitVec.ofInt 64 (n : Int) = BitVec.ofNat 64 n := by simp
  have e2 : BitVec.ofInt 64 4294967295 = BitVec.ofNat 64 (2 ^ 32 - 1) := by decide
  show IntKind.u64.wrap ((BitVec.ofInt 64 (n : Int) &&& BitVec.ofInt 64 4294967295).toNat : Int) = _
  rw [e1, e2, BitVec.toNat_and, BitVec.toNat_ofNat, BitVec.toNat_ofNat, Nat.mod_eq_of_lt (by omega : n < 2 ^ 64), Nat.mod_eq_of_lt (by decide : 2 ^ 32 - 1 < 2 ^ 64), Nat.and_two_pow_sub_one_eq_mod]
  rw [wu64 (by omega) (by omega)]
  omega
theorem c128 {a b : Int} {w : World} (ha : 0 ≤ a) (ha' : a < 18446744073709551616) (hb : 0 ≤ b) (hb' : b ≤ 16) : CallW Try.prog 128 #[.int .u64 a, .int .u64 b] w (fun v w' => v = .tuple #[.int .u64 (a * b / 18446744073709551616), .int .u64 (a * b % 18446744073709551616)] ∧ w' = w) := by
  refine go128 ?_
  unfold W128
  refine ⟨by omega, by omega, by omega, by omega, by omega, ?_, rfl⟩
  simp only [shr32, and32 ha ha', and32 hb (by omega : b < 18446744073709551616)]
  have hb1 : b / 4294967296 = 0 := by omega
  have hb2 : b % 4294967296 = b := by omega
  rw [hb1, hb2, Int.mul_zero, Int.mul_zero]
  have key : ∀ x : Int, 0 ≤ x → x < 4294967296 → 0 ≤ x * b ∧ x * b ≤ x * 16 := fun x h0 h1 => ⟨Int.mul_nonneg h0 hb, Int.mul_le_mul_of_nonneg_left hb' h0⟩
  have k1 := key (a / 4294967296) (by omega) (by omega)
  have k2 := key (a % 4294967296) (by omega) (by omega)
  have hab : a * b = a / 4294967296 * b * 4294967296 + a % 4294967296 * b := by
    have : a = a / 4294967296 * 4294967296 + a % 4294967296 := by omega
    calc a * b = (a / 4294967296 * 4294967296 + a % 4294967296) * b := by rw [← this]
      _ = _ := by rw [Int.add_mul, Int.mul_right_comm]
  generalize hp : a / 4294967296 * b = p at *
  generalize hq : a % 4294967296 * b = q at *
  rw [hab]
  have w1 : IntKind.wrap .u64 q = q := wu64 (by omega) (by omega)
  have w2 : IntKind.wrap .u64 p = p := wu64 (by omega) (by omega)
  have w0 : IntKind.wrap .u64 0 = 0 := wu64 (by omega) (by omega)
  rw [w1, w2, w0]
  rw [wu64 (n := p + q / 4294967296) (by omega) (by omega)]
  rw [and32 (by omega) (by omega), Int.add_zero, Int.zero_add]
  rw [wu64 (n := (p + q / 4294967296) % 4294967296) (by omega) (by omega), wu64 (n := (p + q / 4294967296) / 4294967296) (by omega) (by omega)]
  rw [wu64 (n := (p + q / 4294967296) / 4294967296 + (p + q / 4294967296) % 4294967296 / 4294967296) (by omega) (by omega), IntKind.wrap_u64]
  congr 4 <;> omega
end Go.Proofs.Ytenhcpjlkmbedaa

/- FnExactScan: numbers, on both sides. Conditions: none. -/
set_option linter.unusedVariables false
set_option linter.unusedSimpArgs false
namespace Go.Proofs.Ytenhcpjlkmbedaa
open Go Go.Den
def digitOf (c : Int) : Int := if 48 ≤ c ∧ c ≤ 57 then c - 48 else if 97 ≤ c ∧ c ≤ 102 then c - 87 else 99
theorem digitOf_range (s : ByteArray) (i : Int) : 0 ≤ digitOf (btI s i) ∧ digitOf (btI s i) ≤ 99 := by
  have := btI_range s i
  unfold digitOf
  split
  · omega
  · split <;> omega
def digs (s : ByteArray) (base i x : Int) : Option Int :=
  if i < s.size then (if digitOf (btI s i) ≥ base then none else if x * base + digitOf (btI s i) > 18446744073709551615 then none else digs s base (i + 1) (x * base + digitOf (btI s i))) else some x
termination_by (s.size - i).toNat
decreasing_by omega
theorem c178 {c : Int} {w : World} (h0 : 0 ≤ c) (h1 : c ≤ 255) : CallW Try.prog 178 #[.int .u8 c] w (fun v w' => v = .int .i64 (digitOf c) ∧ w' = w) := by
  refine go178 ?_
  unfold W178
  simp only [join_and]
  refine BIf.of (fun h => ?_) (fun h => ?_)
  · simp only [Bool.and_eq_true, decide_eq_true_eq] at h
    rw [w64 (n := c) (by omega) (by omega), w64 (by omega) (by omega)]
    refine ⟨?_, trivial⟩
    unfold digitOf
    rw [if_pos (by omega)]
  · have h : ¬ (c ≥ 48 ∧ c ≤ 57) := by intro h'; rw [decide_eq_true h'.1, decide_eq_true h'.2] at h; cases h
    refine BIf.of (fun h2 => ?_) (fun h2 => ?_)
    · simp only [Bool.and_eq_true, decide_eq_true_eq] at h2
      rw [w64 (n := c) (by omega) (by omega), w64 (n := c - 97) (by omega) (by omega), w64 (by omega) (by omega)]
      refine ⟨?_, trivial⟩
      unfold digitOf
      rw [if_neg (by omega), if_pos (by omega)]
      congr 1; omega
    · have h2 : ¬ (c ≥ 97 ∧ c ≤ 102) := by intro h'; rw [decide_eq_true h'.1, decide_eq_true h'.2] at h2; cases h2
      refine ⟨?_, trivial⟩
      unfold digitOf
      rw [if_neg (by omega), if_neg (by omega)]
def okv (o : Option Int) : Value := .tuple #[.int .u64 (o.getD 0), .bool o.isSome]
def digits (s : ByteArray) (base : Int) : Option Int := if s.size = 0 then none else digs s base 0 0
theorem c164 {s : ByteArray} {base : Int} {w : World} (hs : SmallS s) (hb : base = 10 ∨ base = 16) : CallW Try.prog 164 #[.string s, .int .i64 base] w (fun v w' => v = okv (digits s base) ∧ w' = w) := by
  unfold SmallS at hs
  refine go164 ?_
  unfold W164
  refine BIf.eq (fun h => ?_) (fun h => ?_)
  · unfold digits; rw [if_pos (by omega)]; exact ⟨rfl, rfl⟩
  unfold digits
  rw [if_neg (by omega)]
  have hd := fun i => digitOf_range s i
  refine LoopW.m2 (fun (x i : Int) w' => 0 ≤ i ∧ i ≤ s.size ∧ 0 ≤ x ∧ x ≤ 18446744073709551615 ∧ digs s base i x = digs s base 0 0 ∧ w' = w) (fun _ (i : Int) _ => (s.size - i).toNat) ⟨by omega, by omega, by omega, by omega, rfl, rfl⟩ ?_
  rintro (x : Int) (i : Int) _ ⟨hi0, hi1, hx0, hx1, hr, rfl⟩ J hJ
  refine BIf.dec (fun hlt => ⟨hi0, hlt, (c178 (btI_range s i).1 (btI_range s i).2).mono ?_⟩) (fun hge => ?_)
  · rintro _ _ ⟨rfl, rfl⟩
    have hdi := hd i
    refine ⟨_, rfl, BIf.dec (fun hge => ?_) (fun hlt2 => ?_)⟩
    · rw [← hr, digs, if_pos hlt, if_pos hge]; exact ⟨rfl, rfl⟩
    · have wb : IntKind.wrap .u64 base = base := wu64 (by omega) (by omega)
      have wd : IntKind.wrap .u64 (digitOf (btI s i)) = digitOf (btI s i) := wu64 (by omega) (by omega)
      rw [wb, wd]
      refine ⟨by omega, ?_⟩
      rw [wu64 (n := 18446744073709551615 - digitOf (btI s i)) (by omega) (by omega)]
      rw [Int.tdiv_eq_ediv_of_nonneg (by omega)]
      rw [wu64 (n := (18446744073709551615 - digitOf (btI s i)) / base) (by rcases hb with rfl | rfl <;> omega) (by rcases hb with rfl | rfl <;> omega)]
      refine BIf.dec (fun hbig => ?_) (fun hsmall => ?_)
      · rw [← hr, digs, if_pos hlt, if_neg hlt2, if_pos (by rcases hb with rfl | rfl <;> omega)]; exact ⟨rfl, rfl⟩
      · have hxa : 0 ≤ x * base := by rcases hb with hb | hb <;> rw [hb] <;> omega
        have hxb : x * base + digitOf (btI s i) ≤ 18446744073709551615 := by rcases hb with hb | hb <;> rw [hb] at hsmall ⊢ <;> omega
        rw [wu64 (n := x * base) (by omega) (by omega), wu64 (by omega) (by omega), w64 (by omega) (by omega)]
        refine hJ _ _ _ ⟨by omega, by omega, by omega, by omega, ?_, rfl⟩ (by omega)
        rw [← hr, digs.eq_1 s base i x, if_pos hlt, if_neg hlt2, if_neg (by omega)]
  · rw [← hr, digs, if_neg hge]; exact ⟨rfl, rfl⟩
/-- What a byte between marks means. -/
def charOf (s : ByteArray) : Option Int :=
  if s.size = 3 ∧ btI s 2 = 39 ∧ btI s 1 ≥ 32 ∧ btI s 1 ≤ 126 ∧ btI s 1 ≠ 39 ∧ btI s 1 ≠ 92 then some (btI s 1)
  else if s.size = 4 ∧ btI s 1 = 92 ∧ btI s 3 = 39 then
    (if btI s 2 = 110 then some 10 else if btI s 2 = 116 then some 9 else if btI s 2 = 48 then some 0 else if btI s 2 = 92 ∨ btI s 2 = 39 then some (btI s 2) else none)
  else none
def iv (o : Option Int) : Value := .tuple #[.int .i64 (o.getD 0), .bool o.isSome]
theorem c163 {s : ByteArray} {w : World} (h0 : btI s 0 = 39) : CallW Try.prog 163 #[.string s] w (fun v w' => v = iv (charOf s) ∧ w' = w) := by
  refine go163 ?_
  unfold W163
  have hr1 := btI_range s 1
  have hr2 := btI_range s 2
  simp only [join_and', h0]
  refine ⟨fun h => ?_, ?_⟩
  · have := eq_of_beq h; omega
  refine ⟨fun h => ?_, fun h => ?_, fun h => ?_, fun h => ?_, fun h => ?_, ?_⟩
  all_goals try (simp only [Bool.and_eq_true, beq_iff_eq] at h; omega)
  refine BIf.of (fun h => ?_) (fun h => ?_)
  · simp only [Bool.and_eq_true, beq_iff_eq, decide_eq_true_eq, bne_iff_ne] at h
    refine ⟨by omega, by omega, ?_, trivial⟩
    unfold charOf
    rw [if_pos (by omega), w64 (by omega) (by omega)]; rfl
  · have h : ¬ (s.size = 3 ∧ btI s 2 = 39 ∧ btI s 1 ≥ 32 ∧ btI s 1 ≤ 126 ∧ btI s 1 ≠ 39 ∧ btI s 1 ≠ 92) := by
      rintro ⟨a1, a2, a3, a4, a5, a6⟩
      have : ((s.size : Int) == 3) = true := by rw [beq_iff_eq]; omega
      simp [this, a2, a3, a4, a5, a6] at h
    refine ⟨fun h => ?_, fun h => ?_, fun h => ?_, ?_⟩
    all_goals try (simp only [Bool.and_eq_true, beq_iff_eq] at h; omega)
    unfold charOf
    rw [if_neg h]
    refine BIf.of (fun h4 => ?_) (fun h4 => ?_)
    · simp only [Bool.and_eq_true, beq_iff_eq] at h4
      rw [if_pos (by omega)]
      refine ⟨by omega, by omega, BIf.eq (fun e => ?_) (fun e1 => BIf.eq (fun e => ?_) (fun e2 => BIf.eq (fun e => ?_) (fun e3 => ?_)))⟩
      · rw [if_pos e]; exact ⟨rfl, trivial⟩
      · rw [if_neg e1, if_pos e]; exact ⟨rfl, trivial⟩
      · rw [if_neg e1, if_neg e2, if_pos e]; exact ⟨rfl, trivial⟩
      · rw [if_neg e1, if_neg e2, if_neg e3]
        simp only [join_sw]
        refine BIf.of (fun h5 => ?_) (fun h5 => ?_)
        · simp only [Bool.or_eq_true, beq_iff_eq] at h5
          rw [if_pos h5]
          refine ⟨by omega, by omega, ?_, trivial⟩
          rw [w64 (by omega) (by omega)]; rfl
        · have h5 : ¬ (btI s 2 = 92 ∨ btI s 2 = 39) := by intro h'; simp only [Bool.or_eq_false_iff, beq_eq_false_iff_ne] at h5; omega
          rw [if_neg h5]; exact ⟨rfl, trivial⟩
    · have h4 : ¬ (s.size = 4 ∧ btI s 1 = 92 ∧ btI s 3 = 39) := by
        rintro ⟨a1, a2, a3⟩
        have : ((s.size : Int) == 4) = true := by rw [beq_iff_eq]; omega
        simp [this, a2, a3] at h4
      rw [if_neg h4]; exact ⟨rfl, trivial⟩
end Go.Proofs.Ytenhcpjlkmbedaa

/- FnExactScan: Number, on both sides. Conditions: none. -/
set_option linter.unusedVariables false
set_option linter.unusedSimpArgs false
namespace Go.Proofs.Ytenhcpjlkmbedaa
open Go Go.Den
def magn (d : ByteArray) : Option Int := if d.size > 2 ∧ btI d 0 = 48 ∧ btI d 1 = 120 then digits (d.extract 2 d.size) 16 else digits d 10
def signed (neg : Bool) (o : Option Int) : Option Int := match o with
  | none => none
  | some v => if neg = true then (if v > 9223372036854775808 then none else some (IntKind.wrap .i64 (IntKind.wrap .u64 (0 - v)))) else some (IntKind.wrap .i64 v)
def minus (s : ByteArray) : Bool := btI s 0 == 45
def number (s : ByteArray) : Option Int :=
  if s.size = 0 ∨ s.size > 40 then none else if btI s 0 = 39 then charOf s else signed (minus s) (magn (if minus s = true then s.extract 1 s.size else s))
theorem signed_iv (neg : Bool) (o : Option Int) (w : World) {K : Value → World → Prop} (h : ∀ v, v = iv (signed neg o) → K v w) :
    BIf (!o.isSome) (K (.tuple #[.int .i64 0, .bool false]) w) (BIf (!neg) (K (.tuple #[.int .i64 (IntKind.wrap .i64 (o.getD 0)), .bool true]) w) (BIf (decide (o.getD 0 > 9223372036854775808)) (K (.tuple #[.int .i64 0, .bool false]) w) (K (.tuple #[.int .i64 (IntKind.wrap .i64 (IntKind.wrap .u64 (0 - o.getD 0))), .bool true]) w))) := by
  cases o with
  | none => exact h _ rfl
  | some v =>
    cases neg with
    | false => exact h _ rfl
    | true =>
      show BIf (decide (v > 9223372036854775808)) _ _
      refine BIf.dec (fun hv => h _ ?_) (fun hv => h _ ?_)
      · unfold signed; simp [hv, iv]
      · unfold signed; simp [hv, iv]
theorem c125 {s : ByteArray} {w : World} (hs : SmallS s) : CallW Try.prog 125 #[.string s] w (fun v w' => v = iv (number s) ∧ w' = w) := by
  have hs' := hs
  unfold SmallS at hs
  refine go125 ?_
  unfold W125
  simp only [join_or]
  refine BIf.of (fun h => ?_) (fun h => ?_)
  · simp only [Bool.or_eq_true, beq_iff_eq, decide_eq_true_eq] at h
    unfold number
    rw [if_pos (by omega)]; exact ⟨rfl, by trivial⟩
  · simp only [Bool.or_eq_false_iff, beq_eq_false_iff_ne, decide_eq_false_iff_not] at h
    have hn : number s = if btI s 0 = 39 then charOf s else signed (minus s) (magn (if minus s = true then s.extract 1 s.size else s)) := by unfold number; rw [if_neg (by omega)]
    rw [hn]
    refine ⟨by omega, by omega, BIf.eq (fun h9 => ?_) (fun h9 => ⟨by omega, by omega, ?_⟩)⟩
    · rw [if_pos h9]
      refine (c163 h9).mono ?_
      rintro _ w ⟨rfl, rfl⟩
      exact ⟨_, _, rfl, rfl, by trivial⟩
    · rw [if_neg h9]
      refine JoinW.cut1 (fun (d : ByteArray) w' => d = (if minus s = true then s.extract 1 s.size else s) ∧ w' = w) ?_ ?_
      · refine BIf.of (fun hm => ⟨by omega, by omega, ?_, rfl⟩) (fun hm => ⟨?_, rfl⟩)
        · rw [if_pos (show minus s = true from hm)]; rfl
        · rw [if_neg (by rw [show minus s = false from hm]; simp)]
      · rintro (d : ByteArray) w ⟨hd, rfl⟩
        rw [← hd]
        have hsm : d.size ≤ s.size := by rw [hd]; split <;> first | (rw [size_extract]; omega) | omega
        refine JoinW.cut2 (fun (x : Int) (ok : Bool) w' => okv (magn d) = .tuple #[.int .u64 x, .bool ok] ∧ w' = w) ?_ ?_
        · simp only [join_and']
          refine ⟨fun h => ?_, fun h => ?_, BIf.of (fun h2 => ⟨by omega, ?_, ?_⟩) (fun h2 => ?_)⟩
          · have := of_decide_eq_true h; omega
          · simp only [Bool.and_eq_true, beq_iff_eq, decide_eq_true_eq] at h; omega
          · simp only [Bool.and_eq_true, beq_iff_eq, decide_eq_true_eq] at h2; omega
          · simp only [Bool.and_eq_true, beq_iff_eq, decide_eq_true_eq] at h2
            have hm : magn d = digits (d.extract 2 d.size) 16 := by unfold magn; rw [if_pos (by omega)]
            refine (c164 (by unfold SmallS; rw [size_extract]; omega) (.inr rfl)).mono ?_
            rintro _ w ⟨rfl, rfl⟩
            refine ⟨_, _, rfl, ?_, rfl⟩
            rw [hm]; rfl
          · have h2 : ¬ (d.size > 2 ∧ btI d 0 = 48 ∧ btI d 1 = 120) := by
              rintro ⟨a1, a2, a3⟩
              have : decide ((d.size : Int) > 2) = true := decide_eq_true (by omega)
              simp [this, a2, a3] at h2
            have hm : magn d = digits d 10 := by unfold magn; rw [if_neg h2]
            refine (c164 (by unfold SmallS; omega) (.inl rfl)).mono ?_
            rintro _ w ⟨rfl, rfl⟩
            refine ⟨_, _, rfl, ?_, rfl⟩
            rw [hm]; rfl
        · rintro (x : Int) (ok : Bool) w ⟨ho, rfl⟩
          have h1 : x = (magn d).getD 0 ∧ ok = (magn d).isSome := by
            unfold okv at ho
            simp only [Value.tuple.injEq, Array.mk.injEq, List.cons.injEq, Value.int.injEq, Value.bool.injEq] at ho
            exact ⟨ho.1.2.symm, ho.2.1.symm⟩
          rw [h1.1, h1.2]
          exact signed_iv (minus s) (magn d) w (K := fun v w' => v = iv (signed (minus s) (magn d)) ∧ w' = w) (fun v hv => ⟨hv, rfl⟩)
theorem cut_snd (d p : ByteArray) : (cutP d p).2 = (decide (p.size ≤ d.size) && strEq (d.extract 0 p.size) p) := by
  unfold cutP
  split
  · rename_i h; exact h.symm
  · rename_i h; exact (Bool.not_eq_true _ ▸ h : _ = false).symm
theorem cut_t {d p : ByteArray} (h : (cutP d p).2 = true) : (cutP d p).1 = d.extract p.size d.size := by
  rw [cut_snd] at h
  unfold cutP; rw [if_pos h]
theorem cut_f {d p : ByteArray} (h : (cutP d p).2 = false) : (cutP d p).1 = d := by
  rw [cut_snd] at h
  unfold cutP; rw [if_neg (by rw [h]; simp)]
theorem cut_le (d p : ByteArray) : (cutP d p).1.size ≤ d.size := by
  cases h : (cutP d p).2
  · rw [cut_f h]; exact Nat.le_refl _
  · rw [cut_t h, size_extract]; omega
theorem cut_0x (d : ByteArray) : (cutP d ⟨#[48, 120]⟩).2 = true ↔ 2 ≤ d.size ∧ btI d 0 = 48 ∧ btI d 1 = 120 := by
  rw [cut_snd, show (⟨#[48, 120]⟩ : ByteArray).size = 2 by rfl]
  by_cases h2 : 2 ≤ d.size
  · rw [head2 d 48 120 h2, decide_eq_true h2, Bool.true_and, Bool.and_eq_true, beq_iff_eq, beq_iff_eq]
    exact ⟨fun h => ⟨h2, h⟩, fun h => h.2⟩
  · rw [decide_eq_false h2, Bool.false_and]
    exact ⟨(fun h => nomatch h), fun h => absurd h.1 h2⟩
theorem magn_hex {d : ByteArray} (h : (cutP d ⟨#[48, 120]⟩).2 = true) : digits (d.extract 2 d.size) 16 = magn d := by
  obtain ⟨h2, hx⟩ := (cut_0x d).1 h
  unfold magn
  by_cases h3 : d.size > 2
  · rw [if_pos ⟨h3, hx⟩]
  · rw [if_neg (by omega)]
    have e1 : digits (d.extract 2 d.size) 16 = none := by unfold digits; rw [if_pos (by rw [size_extract]; omega)]
    rw [e1]
    unfold digits
    rw [if_neg (by omega), digs, if_pos (by omega), hx.1]
    rw [if_neg (by decide), if_neg (by decide)]
    rw [digs, if_pos (by omega), show (0 : Int) + 1 = 1 by rfl, hx.2, if_pos (by decide)]
theorem magn_dec {d : ByteArray} (h : (cutP d ⟨#[48, 120]⟩).2 = false) : digits d 10 = magn d := by
  have h' : ¬ (2 ≤ d.size ∧ btI d 0 = 48 ∧ btI d 1 = 120) := fun h' => by rw [(cut_0x d).2 h'] at h; cases h
  unfold magn
  rw [if_neg (by rintro ⟨a, b⟩; exact h' ⟨by omega, b⟩)]
theorem c61 {s : ByteArray} {w : World} (hs : SmallS s) : CallW Try.prog 61 #[.string s] w (fun v w' => v = iv (number s) ∧ w' = w) := by
  have hs' := hs
  unfold SmallS at hs
  refine go61 ?_
  unfold W61
  refine BIf.dec (fun h => ?_) (fun h40 => c126.mono ?_)
  · unfold number
    rw [if_pos (by omega)]; exact ⟨rfl, by trivial⟩
  rintro _ w ⟨rfl, rfl⟩
  refine ⟨_, rfl, BIf.of (fun h39 => ?_) (fun h39 => ?_)⟩
  · have h1 : 1 ≤ s.size := by have := (Bool.and_eq_true _ _ ▸ h39 : _ ∧ _).1; have := of_decide_eq_true this; exact this
    have h39 : btI s 0 = 39 := by
      have := (Bool.and_eq_true _ _ ▸ h39 : _ ∧ _).2
      have e := head1 s 39 h1
      rw [show (⟨#[39]⟩ : ByteArray).size = 1 by rfl, e] at this
      exact eq_of_beq this
    have hn : number s = charOf s := by unfold number; rw [if_neg (by omega), if_pos h39]
    rw [hn]
    simp only [join_and']
    have hr1 := btI_range s 1
    have hr2 := btI_range s 2
    refine ⟨fun h => ?_, fun h => ?_, fun h => ?_, fun h => ?_, fun h => ?_, ?_⟩
    all_goals try (simp only [Bool.and_eq_true, beq_iff_eq] at h; omega)
    refine BIf.of (fun h => ?_) (fun h => ?_)
    · simp only [Bool.and_eq_true, beq_iff_eq, decide_eq_true_eq, bne_iff_ne] at h
      refine ⟨by omega, by omega, ?_, by trivial⟩
      unfold charOf
      rw [if_pos (by omega), w64 (by omega) (by omega)]; rfl
    · have h : ¬ (s.size = 3 ∧ btI s 2 = 39 ∧ btI s 1 ≥ 32 ∧ btI s 1 ≤ 126 ∧ btI s 1 ≠ 39 ∧ btI s 1 ≠ 92) := by
        rintro ⟨a1, a2, a3, a4, a5, a6⟩
        have : ((s.size : Int) == 3) = true := by rw [beq_iff_eq]; omega
        simp [this, a2, a3, a4, a5, a6] at h
      refine ⟨fun h => ?_, fun h => ?_, ?_⟩
      all_goals try (simp only [Bool.and_eq_true, beq_iff_eq] at h; omega)
      unfold charOf
      rw [if_neg h]
      refine BIf.of (fun h4 => ?_) (fun h4 => ?_)
      · simp only [Bool.and_eq_true, beq_iff_eq] at h4
        rw [if_pos (by omega)]
        refine ⟨by omega, by omega, BIf.eq (fun e => ?_) (fun e1 => BIf.eq (fun e => ?_) (fun e2 => BIf.eq (fun e => ?_) (fun e3 => ?_)))⟩
        · rw [if_pos e]; exact ⟨rfl, by trivial⟩
        · rw [if_neg e1, if_pos e]; exact ⟨rfl, by trivial⟩
        · rw [if_neg e1, if_neg e2, if_pos e]; exact ⟨rfl, by trivial⟩
        · rw [if_neg e1, if_neg e2, if_neg e3]
          simp only [join_sw]
          refine BIf.of (fun h5 => ?_) (fun h5 => ?_)
          · simp only [Bool.or_eq_true, beq_iff_eq] at h5
            rw [if_pos h5]
            refine ⟨by omega, by omega, ?_, by trivial⟩
            rw [w64 (by omega) (by omega)]; rfl
          · have h5 : ¬ (btI s 2 = 92 ∨ btI s 2 = 39) := by intro h'; simp only [Bool.or_eq_false_iff, beq_eq_false_iff_ne] at h5; omega
            rw [if_neg h5]; exact ⟨rfl, by trivial⟩
      · have h4 : ¬ (s.size = 4 ∧ btI s 1 = 92 ∧ btI s 3 = 39) := by
          rintro ⟨a1, a2, a3⟩
          have : ((s.size : Int) == 4) = true := by rw [beq_iff_eq]; omega
          simp [this, a2, a3] at h4
        rw [if_neg h4]; exact ⟨rfl, by trivial⟩
  · -- a number in digits
    have hne : s.size ≠ 0 → btI s 0 ≠ 39 := by
      intro h0 h9
      have e := head1 s 39 (by omega)
      rw [show (⟨#[39]⟩ : ByteArray).size = 1 by rfl, e, decide_eq_true (by omega), h9] at h39
      cases h39
    refine c127.mono ?_
    rintro _ w ⟨rfl, rfl⟩
    refine ⟨_, _, rfl, ?_⟩
    -- the sign
    have hneg : s.size ≠ 0 → (cutP s ⟨#[45]⟩).2 = minus s := by
      intro h0
      rw [cut_snd, show (⟨#[45]⟩ : ByteArray).size = 1 by rfl, head1 s 45 (by omega), decide_eq_true (by omega), Bool.true_and]
      rfl
    have hnum : number s = signed (cutP s ⟨#[45]⟩).2 (magn (cutP s ⟨#[45]⟩).1) := by
      by_cases h0 : s.size = 0
      · unfold number
        rw [if_pos (.inl h0)]
        have : cutP s ⟨#[45]⟩ = (s, false) := by unfold cutP; rw [if_neg (by rw [show (⟨#[45]⟩ : ByteArray).size = 1 by rfl, decide_eq_false (by omega)]; simp)]
        rw [this]
        have : magn s = none := by unfold magn; rw [if_neg (by omega)]; unfold digits; rw [if_pos h0]
        rw [this]; rfl
      · unfold number
        rw [if_neg (by omega), if_neg (hne h0), hneg h0]
        congr 2
        rcases hm : minus s
        · rw [if_neg (by simp), cut_f (by rw [hneg h0, hm])]
        · rw [if_pos rfl, cut_t (by rw [hneg h0, hm])]; rfl
    rw [hnum]
    have hdsz : (cutP s ⟨#[45]⟩).1.size ≤ s.size := cut_le s _
    generalize (cutP s ⟨#[45]⟩).1 = d at *
    generalize (cutP s ⟨#[45]⟩).2 = neg at *
    refine JoinW.cut2 (fun (d' : ByteArray) (base : Int) w' => (base = 10 ∨ base = 16) ∧ d'.size ≤ d.size ∧ digits d' base = magn d ∧ w' = w) ?_ ?_
    · refine c127.mono ?_
      rintro _ w ⟨rfl, rfl⟩
      refine ⟨_, _, rfl, BIf.of (fun hc => ?_) (fun hc => ?_)⟩
      · refine ⟨.inr rfl, ?_, ?_, rfl⟩
        · exact cut_le d _
        · rw [cut_t hc]; exact magn_hex hc
      · refine ⟨.inl rfl, Nat.le_refl _, magn_dec hc, rfl⟩
    · rintro (d' : ByteArray) (base : Int) w ⟨hb, hd', hm, rfl⟩
      rw [← hm]
      refine BIf.of (fun he => ?_) (fun he => ?_)
      · have : d' = ⟨#[]⟩ := strEq_iff.1 he
        have : digits d' base = none := by unfold digits; rw [if_pos (by rw [this]; rfl)]
        rw [this]; exact ⟨rfl, by trivial⟩
      · have hz : d'.size ≠ 0 := by
          intro h0
          exact strEq_false.1 he (ext_bytes h0 (fun i a b => by omega))
        have hdg : digits d' base = digs d' base 0 0 := by unfold digits; rw [if_neg hz]
        rw [hdg]
        have hd := fun i => digitOf_range d' i
        refine LoopW.m2 (fun (x i : Int) w' => 0 ≤ i ∧ i ≤ d'.size ∧ 0 ≤ x ∧ x ≤ 18446744073709551615 ∧ digs d' base i x = digs d' base 0 0 ∧ w' = w) (fun _ (i : Int) _ => (d'.size - i).toNat) ⟨by omega, by omega, by omega, by omega, rfl, rfl⟩ ?_
        rintro (x : Int) (i : Int) w ⟨hi0, hi1, hx0, hx1, hr, rfl⟩ J hJ
        refine BIf.dec (fun hlt => ?_) (fun hge => ?_)
        · refine JoinW.cut1 (fun (k : Int) w' => k = digitOf (btI d' i) ∧ w' = w) ?_ ?_
          · refine ⟨hi0, hlt, ?_⟩
            have hbr := btI_range d' i
            simp only [join_and]
            unfold digitOf
            refine BIf.of (fun h => ?_) (fun h => BIf.of (fun h2 => ?_) (fun h2 => ?_))
            · simp only [Bool.and_eq_true, decide_eq_true_eq] at h
              rw [if_pos (by omega), wu8 (by omega) (by omega), wu64 (by omega) (by omega)]
              exact ⟨rfl, by trivial⟩
            · simp only [Bool.and_eq_true, decide_eq_true_eq] at h2
              rw [if_neg (by omega), if_pos (by omega), wu8 (by omega) (by omega), wu64 (n := btI d' i - 97) (by omega) (by omega), wu64 (by omega) (by omega)]
              exact ⟨by omega, by trivial⟩
            · rw [if_neg (by intro h'; rw [decide_eq_true h'.1, decide_eq_true h'.2] at h; cases h), if_neg (by intro h'; rw [decide_eq_true h'.1, decide_eq_true h'.2] at h2; cases h2)]
              exact ⟨rfl, by trivial⟩
          · rintro (k : Int) w ⟨rfl, rfl⟩
            have hdi := hd i
            refine BIf.dec (fun hge => ?_) (fun hlt2 => ?_)
            · rw [← hr, digs, if_pos hlt, if_pos hge]; exact ⟨rfl, by trivial⟩
            · refine (c128 hx0 (by omega) (by omega) (by omega)).mono ?_
              rintro _ w ⟨rfl, rfl⟩
              refine ⟨_, _, rfl, ?_⟩
              have hxb : 0 ≤ x * base ∧ x * base ≤ 18446744073709551615 * 16 := by
                rcases hb with hb | hb <;> rw [hb] <;> omega
              refine (c129 (by omega) (by omega)).mono ?_
              rintro _ w ⟨rfl, rfl⟩
              refine ⟨_, _, rfl, ?_⟩
              rw [wu64 (by omega) (by omega)]
              refine BIf.ne (fun hc => ?_) (fun hc => ?_)
              · rw [← hr, digs, if_pos hlt, if_neg hlt2, if_pos (by omega)]; exact ⟨rfl, by trivial⟩
              · rw [w64 (by omega) (by omega)]
                refine hJ _ _ _ ⟨by omega, by omega, by omega, by omega, ?_, rfl⟩ (by omega)
                rw [← hr, digs.eq_1 d' base i x, if_pos hlt, if_neg hlt2, if_neg (by omega)]
                congr 1
                omega
        · have hx : digs d' base 0 0 = some x := by rw [← hr, digs, if_neg hge]
          rw [hx]
          cases neg with
          | false => exact ⟨rfl, by trivial⟩
          | true =>
            show BIf (decide (x > 9223372036854775808)) _ _
            refine BIf.dec (fun hv => ⟨?_, by trivial⟩) (fun hv => ⟨?_, by trivial⟩)
            · unfold signed; simp [hv, iv]
            · unfold signed; simp [hv, iv]
end Go.Proofs.Ytenhcpjlkmbedaa

/- FnExactScan: a text between its marks, on both sides. Conditions: none. -/
set_option linter.unusedVariables false
set_option linter.unusedSimpArgs false
namespace Go.Proofs.Ytenhcpjlkmbedaa
open Go Go.Den
def escOf (c : Int) : Option Int := if c = 110 then some 10 else if c = 116 then some 9 else if c = 48 then some 0 else if c = 92 ∨ c = 34 then some c else none
def meantL (s : ByteArray) (i : Int) (acc : List Int) : Option (List Int) :=
  if i < s.size then
    (if btI s i < 32 ∨ btI s i > 126 then none
     else if btI s i ≠ 92 then meantL s (i + 1) (acc ++ [btI s i])
     else if i + 1 = s.size then none
     else match escOf (btI s (i + 1)) with
       | none => none
       | some c => meantL s (i + 2) (acc ++ [c]))
  else some acc
termination_by (s.size - i).toNat
decreasing_by all_goals omega
def sv (o : Option (List Int)) : Value := .tuple #[.string ((o.map strOfNums).getD ⟨#[]⟩), .bool o.isSome]
def nums (l : List Int) : List Value := l.map (Value.int .u8)
theorem nums_app (l : List Int) (c : Int) : nums l ++ [.int .u8 c] = nums (l ++ [c]) := by unfold nums; simp
theorem plain_u8 (c : Int) : ∀ v, v ∈ [Value.int .u8 c] → plainB v = true := by intro v hv; simp at hv; subst hv; rfl
/-- The step of both loops: a byte more. -/
theorem byte_more {w0 w : World} {l : Sl} {acc : List Int} {c : Int} {i : Int} {K : Sl → World → Prop} (ho : OwnS w w0.heap.size l 1 (nums acc)) (he : Ext w0 w) (hi : (acc.length : Int) ≤ i) (hi2 : i ≤ 1048576)
    (hk : ∀ l' w', OwnS w' w0.heap.size l' 1 (nums (acc ++ [c])) → Ext w0 w' → K l' w') : LetW (w.alloc (.cells #[.int .u8 c] 5)) (fun w1 => AppendW 5 ti5 l ⟨some ⟨w.heap.size, 0, none⟩, 1, 1⟩ w1 K) := by
  have hl := ho.len
  have hl : l.len = acc.length := by unfold nums at hl; rw [List.length_map] at hl; omega
  refine LetW_iff.2 (AppendW.one ho he.size rfl rfl rfl (by decide) ?_ (plain_u8 c) (fun s' w' h1 h2 h3 _ => hk s' w' (nums_app _ _ ▸ h2) (he.own h3 (fun _ h => h.1))))
  show (l.len + 1) * 1 ≤ _
  omega
theorem c62 {s : ByteArray} {w : World} (hs : SmallS s) : CallW Try.prog 62 #[.string s] w (fun v w' => v = sv (meantL s 0 []) ∧ Ext w w') := by
  unfold SmallS at hs
  refine go62 ?_
  unfold W62
  refine LoopW.m2 (fun (l : Sl) (i : Int) w' => 0 ≤ i ∧ i ≤ s.size ∧ Ext w w' ∧ ∃ acc, OwnS w' w.heap.size l 1 (nums acc) ∧ (acc.length : Int) ≤ i ∧ meantL s i acc = meantL s 0 []) (fun _ (i : Int) _ => (s.size - i).toNat)
    ⟨by omega, by omega, Only.refl _ _, [], OwnS.none _ _ _ _, by simp, rfl⟩ ?_
  rintro (l : Sl) (i : Int) w1 ⟨hi0, hi1, hext, acc, hown, hacc, hr⟩ J hJ
  refine BIf.dec (fun hlt => ⟨hi0, hlt, ?_⟩) (fun hge => ?_)
  · simp only [join_or]
    refine BIf.of (fun hbad => ?_) (fun hgood => ?_)
    · simp only [Bool.or_eq_true, decide_eq_true_eq] at hbad
      rw [← hr, meantL, if_pos hlt, if_pos hbad]; exact ⟨by trivial, hext⟩
    · have hgood : ¬ (btI s i < 32 ∨ btI s i > 126) := by intro h; simp only [Bool.or_eq_false_iff, decide_eq_false_iff_not] at hgood; omega
      have e0 : meantL s 0 [] = if btI s i ≠ 92 then meantL s (i + 1) (acc ++ [btI s i]) else if i + 1 = s.size then none else match escOf (btI s (i + 1)) with | none => none | some c => meantL s (i + 2) (acc ++ [c]) := by
        rw [← hr, meantL.eq_1 s i acc, if_pos hlt, if_neg hgood]
      refine JoinW.cut2 (fun (j c : Int) w' => w' = w1 ∧ i ≤ j ∧ j < s.size ∧ meantL s (j + 1) (acc ++ [c]) = meantL s 0 []) ?_ ?_
      · rw [w64 (by omega) (by omega)]
        refine BIf.eq (fun h92 => ?_) (fun h92 => ?_)
        · rw [if_neg (by simp [h92])] at e0
          refine BIf.dec (fun hend => ?_) (fun hend => ⟨by omega, by omega, ?_⟩)
          · rw [if_pos (by omega)] at e0
            rw [e0]; exact ⟨by trivial, hext⟩
          · rw [if_neg (by omega)] at e0
            have e2 : i + 1 + 1 = i + 2 := by omega
            have hesc := fun c (h : escOf (btI s (i + 1)) = some c) => (show meantL s (i + 1 + 1) (acc ++ [c]) = meantL s 0 [] by rw [e0, h, e2])
            refine BIf.eq (fun e => ?_) (fun e1 => BIf.eq (fun e => ?_) (fun e2 => BIf.eq (fun e => ?_) (fun e3 => ?_)))
            · exact ⟨rfl, by omega, by omega, hesc 10 (by unfold escOf; rw [if_pos e])⟩
            · exact ⟨rfl, by omega, by omega, hesc 9 (by unfold escOf; rw [if_neg e1, if_pos e])⟩
            · exact ⟨rfl, by omega, by omega, hesc 0 (by unfold escOf; rw [if_neg e1, if_neg e2, if_pos e])⟩
            · simp only [join_sw]
              refine BIf.of (fun h5 => ⟨by omega, by omega, ?_⟩) (fun h5 => ?_)
              · simp only [Bool.or_eq_true, beq_iff_eq] at h5
                exact ⟨by trivial, by omega, by omega, hesc _ (by unfold escOf; rw [if_neg e1, if_neg e2, if_neg e3, if_pos h5])⟩
              · have h5 : ¬ (btI s (i + 1) = 92 ∨ btI s (i + 1) = 34) := by intro h'; simp only [Bool.or_eq_false_iff, beq_eq_false_iff_ne] at h5; omega
                have : escOf (btI s (i + 1)) = none := by unfold escOf; rw [if_neg e1, if_neg e2, if_neg e3, if_neg h5]
                rw [this] at e0
                rw [e0]; exact ⟨by trivial, hext⟩
        · rw [if_pos h92] at e0
          exact ⟨rfl, by omega, by omega, e0.symm⟩
      · rintro (j : Int) (c : Int) w1 ⟨rfl, hj1, hj2, hj⟩
        refine byte_more hown hext hacc (by omega) (fun l' w' h1 h2 => ?_)
        rw [w64 (by omega) (by omega)]
        exact hJ _ _ _ ⟨by omega, by omega, h2, _, h1, by simp; omega, hj⟩ (by omega)
  · have hz : meantL s 0 [] = some acc := by rw [← hr, meantL, if_neg hge]
    have hl := hown.len
    refine ⟨acc, ?_, ?_, hext⟩
    · have := hown.row; rwa [Nat.mul_one] at this
    · rw [hz]; rfl
theorem c124 {s : ByteArray} {w : World} (hs : SmallS s) : CallW Try.prog 124 #[.string s] w (fun v w' => v = sv (meantL s 0 []) ∧ Ext w w') := by
  unfold SmallS at hs
  refine go124 ?_
  unfold W124
  refine LetW_iff.2 ?_
  refine LoopW.m2 (fun (l : Sl) (i : Int) w' => 0 ≤ i ∧ i ≤ s.size ∧ Ext w w' ∧ ∃ acc, OwnS w' w.heap.size l 1 (nums acc) ∧ (acc.length : Int) ≤ i ∧ meantL s i acc = meantL s 0 []) (fun _ (i : Int) _ => (s.size - i).toNat)
    ⟨by omega, by omega, ext_alloc _ _, [], OwnS.none _ _ _ _, by simp, rfl⟩ ?_
  rintro (l : Sl) (i : Int) w1 ⟨hi0, hi1, hext, acc, hown, hacc, hr⟩ J hJ
  refine BIf.dec (fun hlt => ⟨hi0, hlt, ?_⟩) (fun hge => ?_)
  · simp only [join_or]
    refine BIf.of (fun hbad => ?_) (fun hgood => ?_)
    · simp only [Bool.or_eq_true, decide_eq_true_eq] at hbad
      rw [← hr, meantL, if_pos hlt, if_pos hbad]; exact ⟨by trivial, hext⟩
    · have hgood : ¬ (btI s i < 32 ∨ btI s i > 126) := by intro h; simp only [Bool.or_eq_false_iff, decide_eq_false_iff_not] at hgood; omega
      have e0 : meantL s 0 [] = if btI s i ≠ 92 then meantL s (i + 1) (acc ++ [btI s i]) else if i + 1 = s.size then none else match escOf (btI s (i + 1)) with | none => none | some c => meantL s (i + 2) (acc ++ [c]) := by
        rw [← hr, meantL.eq_1 s i acc, if_pos hlt, if_neg hgood]
      refine BIf.ne (fun h92 => ?_) (fun h92 => ?_)
      · rw [if_pos h92] at e0
        refine byte_more hown hext hacc (by omega) (fun l' w' h1 h2 => ?_)
        rw [w64 (by omega) (by omega)]
        exact hJ _ _ _ ⟨by omega, by omega, h2, _, h1, by simp; omega, e0.symm⟩ (by omega)
      · rw [if_neg (by simp [h92])] at e0
        rw [w64 (n := i + 1) (by omega) (by omega)]
        refine BIf.eq (fun hend => ?_) (fun hend => ⟨by omega, by omega, ?_⟩)
        · rw [if_pos (by omega)] at e0
          rw [e0]; exact ⟨by trivial, hext⟩
        · rw [if_neg (by omega)] at e0
          have e2 : i + 1 + 1 = i + 2 := by omega
          have hgo : ∀ c, escOf (btI s (i + 1)) = some c → LetW (w1.alloc (.cells #[.int .u8 c] 5)) (fun w2 => AppendW 5 ti5 l ⟨some ⟨w1.heap.size, 0, none⟩, 1, 1⟩ w2 fun l' w' => J l' (IntKind.wrap .i64 (i + 1 + 1)) w') := by
            intro c hc
            refine byte_more hown hext hacc (by omega) (fun l' w' h1 h2 => ?_)
            rw [w64 (by omega) (by omega)]
            exact hJ _ _ _ ⟨by omega, by omega, h2, _, h1, by simp; omega, by rw [e0, hc, e2]⟩ (by omega)
          refine BIf.eq (fun e => ?_) (fun e1 => BIf.eq (fun e => ?_) (fun e2 => BIf.eq (fun e => ?_) (fun e3 => ?_)))
          · exact hgo 10 (by unfold escOf; rw [if_pos e])
          · exact hgo 9 (by unfold escOf; rw [if_neg e1, if_pos e])
          · exact hgo 0 (by unfold escOf; rw [if_neg e1, if_neg e2, if_pos e])
          · simp only [join_sw]
            refine BIf.of (fun h5 => ⟨by omega, by omega, ?_⟩) (fun h5 => ?_)
            · simp only [Bool.or_eq_true, beq_iff_eq] at h5
              exact hgo _ (by unfold escOf; rw [if_neg e1, if_neg e2, if_neg e3, if_pos h5])
            · have h5 : ¬ (btI s (i + 1) = 92 ∨ btI s (i + 1) = 34) := by intro h'; simp only [Bool.or_eq_false_iff, beq_eq_false_iff_ne] at h5; omega
              have : escOf (btI s (i + 1)) = none := by unfold escOf; rw [if_neg e1, if_neg e2, if_neg e3, if_neg h5]
              rw [this] at e0
              rw [e0]; exact ⟨by trivial, hext⟩
  · have hz : meantL s 0 [] = some acc := by rw [← hr, meantL, if_neg hge]
    refine ⟨acc, ?_, ?_, hext⟩
    · have := hown.row; rwa [Nat.mul_one] at this
    · rw [hz]; rfl
end Go.Proofs.Ytenhcpjlkmbedaa

/- FnExactScan: one token, and a line, on the reference's side. Conditions: none. -/
set_option linter.unusedVariables false
set_option linter.unusedSimpArgs false
namespace Go.Proofs.Ytenhcpjlkmbedaa
open Go Go.Den
structure Tok where
  kind : Int
  text : ByteArray
  val : Int
def noText : ByteArray := ⟨#[]⟩
def Tok.cells (t : Tok) : List Value := [.int .i64 t.kind, .string t.text, .int .i64 t.val]
def noTok : Tok := ⟨0, noText, 0⟩
def Tok.agg (t : Tok) : Value := .agg #[.int .i64 t.kind, .string t.text, .int .i64 t.val]
/-- Where a number's text ends; 0 where there is none. -/
def numEnd (s : ByteArray) (i : Int) : Int := if btI s i = 39 then closeAt s 39 (i + 1) else if btI s i = 45 ∨ isDigit (btI s i) = true then runEnd s (i + 1) else 0
def oneNum (s : ByteArray) (i : Int) : Option (Tok × Int) :=
  if numEnd s i ≤ 0 then none else (number (s.extract i.toNat (numEnd s i).toNat)).map (fun v => (⟨2, noText, v⟩, numEnd s i))
def oneText (s : ByteArray) (i : Int) : Option (Tok × Int) :=
  if closeAt s 34 (i + 1) < 0 then none else (meantL (s.extract (i + 1).toNat (closeAt s 34 (i + 1) - 1).toNat) 0 []).map (fun xs => (⟨3, strOfNums xs, 0⟩, closeAt s 34 (i + 1)))
def oneWord (s : ByteArray) (i : Int) : Option (Tok × Int) := if runEnd s i - i > 32 then none else some (⟨1, s.extract i.toNat (runEnd s i).toNat, 0⟩, runEnd s i)
def one (s : ByteArray) (i : Int) : Option (Tok × Int) :=
  if btI s i = 44 then some (⟨4, noText, 0⟩, i + 1) else if btI s i = 58 then some (⟨5, noText, 0⟩, i + 1) else if btI s i = 40 then some (⟨6, noText, 0⟩, i + 1) else if btI s i = 41 then some (⟨7, noText, 0⟩, i + 1)
  else if letter (btI s i) = true then oneWord s i else if btI s i = 34 then oneText s i else oneNum s i
def ov (o : Option (Tok × Int)) : Value := match o with
  | none => .tuple #[noTok.agg, .int .i64 0]
  | some (t, e) => .tuple #[t.agg, .int .i64 e]
theorem tok_put {w : World} {b : Nat} {cs : List Value} (h : Blk w b cs) (hl : cs.length = 3) (t : Tok) {Q : Tok → World → Prop} (hq : ∀ w', Only (fun k => k = b) w w' → Blk w' b t.cells → Q t w') :
    MayN w ⟨b, 0, none⟩ 3 ∧ LetW (puts w ⟨b, 0, none⟩ 0 [.int .i64 t.kind, .string t.text, .int .i64 t.val]) (fun w' => ∃ n : Int, w'.cell? ⟨b, 0, none⟩ = some (.int .i64 n) ∧ ∃ s : ByteArray, w'.cell? ⟨b, 1, none⟩ = some (.string s) ∧ ∃ m : Int, w'.cell? ⟨b, 2, none⟩ = some (.int .i64 m) ∧ Q ⟨n, s, m⟩ w') := by
  refine ⟨h.mayN (by omega), LetW_iff.2 ?_⟩
  have hb := Blk.puts t.cells h 0 0
  have he : setAll cs (0 + 0) t.cells = t.cells := by
    rw [setAll_eq _ _ _ (by rw [hl]; exact Nat.le_refl _)]
    have : List.drop 3 cs = [] := List.drop_eq_nil_of_le (by omega)
    simp [Tok.cells, this]
  rw [he] at hb
  exact ⟨_, by rw [show (⟨b, 0, none⟩ : Addr) = ⟨b, 0, none⟩ from rfl]; exact (hb.cell 0), _, hb.cell 1, _, hb.cell 2, hq _ (only_puts t.cells w ⟨b, 0, none⟩ 0) hb⟩
theorem tok_get {w : World} {b : Nat} {t : Tok} (h : Blk w b t.cells) {Q : Tok → Prop} (hq : Q t) :
    ∃ n : Int, w.cell? ⟨b, 0, none⟩ = some (.int .i64 n) ∧ ∃ s : ByteArray, w.cell? ⟨b, 1, none⟩ = some (.string s) ∧ ∃ m : Int, w.cell? ⟨b, 2, none⟩ = some (.int .i64 m) ∧ Q ⟨n, s, m⟩ :=
  ⟨_, h.cell 0, _, h.cell 1, _, h.cell 2, hq⟩
theorem c56 {s : ByteArray} {i : Int} {w : World} (hs : SmallS s) (h0 : 0 ≤ i) (h1 : i < s.size) : CallW Try.prog 56 #[.string s, .int .i64 i] w (fun v w' => v = ov (one s i) ∧ Ext w w') := by
  have hs' := hs
  unfold SmallS at hs
  refine go56 ?_
  unfold W56
  refine LetW_iff.2 (LetW_iff.2 ?_)
  have hA : Blk (w.alloc (.cells #[.int .i64 0, .string (⟨#[]⟩ : ByteArray), .int .i64 0] 90)) w.heap.size noTok.cells := blk_alloc w _ _
  have eA := ext_alloc w (.cells #[.int .i64 0, .string (⟨#[]⟩ : ByteArray), .int .i64 0] 90)
  have sA := size_alloc w (.cells #[.int .i64 0, .string (⟨#[]⟩ : ByteArray), .int .i64 0] 90)
  generalize w.alloc (.cells #[.int .i64 0, .string (⟨#[]⟩ : ByteArray), .int .i64 0] 90) = wA at *
  have hB : Blk (wA.alloc (.cells #[.int .i64 0, .string (⟨#[]⟩ : ByteArray), .int .i64 0] 90)) wA.heap.size noTok.cells := blk_alloc wA _ _
  have eB := ext_alloc wA (.cells #[.int .i64 0, .string (⟨#[]⟩ : ByteArray), .int .i64 0] 90)
  have sB := size_alloc wA (.cells #[.int .i64 0, .string (⟨#[]⟩ : ByteArray), .int .i64 0] 90)
  have hAB := hA.ext eB
  generalize wA.alloc (.cells #[.int .i64 0, .string (⟨#[]⟩ : ByteArray), .int .i64 0] 90) = wB at *
  refine ⟨hB.mayN (by decide), LetW_iff.2 ?_⟩
  have hC : Blk (puts wB ⟨wA.heap.size, 0, none⟩ 0 [.int .i64 0, .string (⟨#[]⟩ : ByteArray), .int .i64 0]) wA.heap.size noTok.cells := Blk.puts noTok.cells hB 0 0
  have oC := only_puts [.int .i64 0, .string (⟨#[]⟩ : ByteArray), .int .i64 0] wB ⟨wA.heap.size, 0, none⟩ 0
  have hAC := hAB.only oC (by show ¬ w.heap.size = wA.heap.size; omega)
  have eC : Ext w (puts wB ⟨wA.heap.size, 0, none⟩ 0 [.int .i64 0, .string (⟨#[]⟩ : ByteArray), .int .i64 0]) := Ext.own (Only.trans eA eB) oC (by rintro k rfl; show w.heap.size ≤ wA.heap.size; omega)
  generalize puts wB ⟨wA.heap.size, 0, none⟩ 0 [.int .i64 0, .string (⟨#[]⟩ : ByteArray), .int .i64 0] = wC at *
  generalize wA.heap.size = bN at *
  -- what is answered
  have good : ∀ (w1 : World) (t : Tok) (e : Int), Ext w w1 → Blk w1 w.heap.size noTok.cells → one s i = some (t, e) →
      MayN w1 ⟨w.heap.size, 0, none⟩ 3 ∧ LetW (puts w1 ⟨w.heap.size, 0, none⟩ 0 [.int .i64 t.kind, .string t.text, .int .i64 t.val]) (fun w' => ∃ n : Int, w'.cell? ⟨w.heap.size, 0, none⟩ = some (.int .i64 n) ∧ ∃ u : ByteArray, w'.cell? ⟨w.heap.size, 1, none⟩ = some (.string u) ∧ ∃ m : Int, w'.cell? ⟨w.heap.size, 2, none⟩ = some (.int .i64 m) ∧ (fun v w' => v = ov (one s i) ∧ Ext w w') (.tuple #[.agg #[.int .i64 n, .string u, .int .i64 m], .int .i64 e]) w') := by
    intro w1 t e he hb ho
    refine tok_put hb rfl t (Q := fun t w' => (fun v w' => v = ov (one s i) ∧ Ext w w') (.tuple #[.agg #[.int .i64 t.kind, .string t.text, .int .i64 t.val], .int .i64 e]) w') (fun w' h1 h2 => ⟨?_, he.own h1 (by rintro k rfl; exact Nat.le_refl _)⟩)
    rw [ho]; rfl
  have bad : ∀ (w1 : World), Ext w w1 → Blk w1 w.heap.size noTok.cells → Blk w1 bN noTok.cells → one s i = none →
      ∃ n : Int, w1.cell? ⟨bN, 0, none⟩ = some (.int .i64 n) ∧ ∃ u : ByteArray, w1.cell? ⟨bN, 1, none⟩ = some (.string u) ∧ ∃ m : Int, w1.cell? ⟨bN, 2, none⟩ = some (.int .i64 m) ∧
      MayN w1 ⟨w.heap.size, 0, none⟩ 3 ∧ LetW (puts w1 ⟨w.heap.size, 0, none⟩ 0 [.int .i64 n, .string u, .int .i64 m]) (fun w' => ∃ n : Int, w'.cell? ⟨w.heap.size, 0, none⟩ = some (.int .i64 n) ∧ ∃ u : ByteArray, w'.cell? ⟨w.heap.size, 1, none⟩ = some (.string u) ∧ ∃ m : Int, w'.cell? ⟨w.heap.size, 2, none⟩ = some (.int .i64 m) ∧ (fun v w' => v = ov (one s i) ∧ Ext w w') (.tuple #[.agg #[.int .i64 n, .string u, .int .i64 m], .int .i64 0]) w') := by
    intro w1 he hb hn ho
    refine tok_get hn (Q := fun t => MayN w1 ⟨w.heap.size, 0, none⟩ 3 ∧ LetW (puts w1 ⟨w.heap.size, 0, none⟩ 0 [.int .i64 t.kind, .string t.text, .int .i64 t.val]) (fun w' => ∃ n : Int, w'.cell? ⟨w.heap.size, 0, none⟩ = some (.int .i64 n) ∧ ∃ u : ByteArray, w'.cell? ⟨w.heap.size, 1, none⟩ = some (.string u) ∧ ∃ m : Int, w'.cell? ⟨w.heap.size, 2, none⟩ = some (.int .i64 m) ∧ (fun v w' => v = ov (one s i) ∧ Ext w w') (.tuple #[.agg #[.int .i64 n, .string u, .int .i64 m], .int .i64 0]) w')) ?_
    refine tok_put hb rfl noTok (Q := fun t w' => (fun v w' => v = ov (one s i) ∧ Ext w w') (.tuple #[.agg #[.int .i64 t.kind, .string t.text, .int .i64 t.val], .int .i64 0]) w') (fun w' h1 h2 => ⟨?_, he.own h1 (by rintro k rfl; exact Nat.le_refl _)⟩)
    rw [ho]; rfl
  have w1 : IntKind.wrap .i64 (i + 1) = i + 1 := w64 (by omega) (by omega)
  rw [w1]
  refine ⟨h0, h1, BIf.eq (fun e => ?_) (fun n1 => BIf.eq (fun e => ?_) (fun n2 => BIf.eq (fun e => ?_) (fun n3 => BIf.eq (fun e => ?_) (fun n4 => ?_))))⟩
  · exact good wC ⟨4, noText, 0⟩ (i + 1) eC hAC (by unfold one; rw [if_pos e])
  · exact good wC ⟨5, noText, 0⟩ (i + 1) eC hAC (by unfold one; rw [if_neg n1, if_pos e])
  · exact good wC ⟨6, noText, 0⟩ (i + 1) eC hAC (by unfold one; rw [if_neg n1, if_neg n2, if_pos e])
  · exact good wC ⟨7, noText, 0⟩ (i + 1) eC hAC (by unfold one; rw [if_neg n1, if_neg n2, if_neg n3, if_pos e])
  refine c121.mono ?_
  rintro _ wC' ⟨rfl, rfl⟩
  refine ⟨_, rfl, BIf.of (fun hl => ?_) (fun hl => ?_)⟩
  · have ho : one s i = oneWord s i := by unfold one; rw [if_neg n1, if_neg n2, if_neg n3, if_neg n4, if_pos hl]
    have hre := runEnd_le s i
    refine (c122 hs' h0 (by omega)).mono ?_
    rintro _ wC' ⟨rfl, rfl⟩
    refine ⟨_, rfl, ?_⟩
    have := hre.2 (by omega)
    rw [w64 (by omega) (by omega)]
    refine BIf.dec (fun hbig => ?_) (fun hsm => ⟨by omega, by omega, by omega, by omega, ?_⟩)
    · exact bad _ eC hAC hC (by rw [ho]; unfold oneWord; rw [if_pos hbig])
    · exact good _ ⟨1, s.extract i.toNat (runEnd s i).toNat, 0⟩ (runEnd s i) eC hAC (by rw [ho]; unfold oneWord; rw [if_neg hsm])
  · refine BIf.eq (fun h34 => ?_) (fun h34 => ?_)
    · have ho : one s i = oneText s i := by unfold one; rw [if_neg n1, if_neg n2, if_neg n3, if_neg n4, if_neg (by rw [hl]; simp), if_pos h34]
      have hcl := closeAt_le s 34 (i + 1)
      refine (c123 hs' (by omega) (by omega)).mono ?_
      rintro _ wC' ⟨rfl, rfl⟩
      refine ⟨_, rfl, BIf.dec (fun hneg => ?_) (fun hpos => ?_)⟩
      · exact bad _ eC hAC hC (by rw [ho]; unfold oneText; rw [if_pos hneg])
      · rw [w64 (n := closeAt s 34 (i + 1) - 1) (by omega) (by omega)]
        refine ⟨by omega, by omega, by omega, by omega, (c124 (by unfold SmallS; rw [size_extract]; omega)).mono ?_⟩
        rintro _ wD ⟨rfl, eD⟩
        refine ⟨_, _, rfl, ?_⟩
        have ho' : one s i = (meantL (s.extract (i + 1).toNat (closeAt s 34 (i + 1) - 1).toNat) 0 []).map (fun xs => (⟨3, strOfNums xs, 0⟩, closeAt s 34 (i + 1))) := by rw [ho]; unfold oneText; rw [if_neg hpos]
        generalize meantL (s.extract (i + 1).toNat (closeAt s 34 (i + 1) - 1).toNat) 0 [] = o at *
        cases o with
        | none => exact bad _ (Only.trans eC eD) (hAC.ext eD) (hC.ext eD) ho'
        | some xs => exact good _ ⟨3, strOfNums xs, 0⟩ _ (Only.trans eC eD) (hAC.ext eD) ho'
    · have ho : one s i = oneNum s i := by unfold one; rw [if_neg n1, if_neg n2, if_neg n3, if_neg n4, if_neg (by rw [hl]; simp), if_neg h34]
      refine JoinW.cut1 (fun (e : Int) w' => e = numEnd s i ∧ w' = wC') ?_ ?_
      · refine BIf.eq (fun h39 => ?_) (fun h39 => ?_)
        · refine (c123 hs' (by omega) (by omega)).mono ?_
          rintro _ wC' ⟨rfl, rfl⟩
          refine ⟨_, rfl, ?_, rfl⟩
          unfold numEnd; rw [if_pos h39]
        · simp only [join_or_and]
          refine BIf.of (fun hd => ?_) (fun hd => ?_)
          · have hd : btI s i = 45 ∨ isDigit (btI s i) = true := by simpa [isDigit] using hd
            refine (c122 hs' (by omega) (by omega)).mono ?_
            rintro _ wC' ⟨rfl, rfl⟩
            refine ⟨_, rfl, ?_, rfl⟩
            unfold numEnd; rw [if_neg h39, if_pos hd]
          · have hd : ¬ (btI s i = 45 ∨ isDigit (btI s i) = true) := by intro h'; rcases h' with h' | h' <;> simp [h', isDigit] at hd h' <;> omega
            refine ⟨?_, by trivial⟩
            unfold numEnd; rw [if_neg h39, if_neg hd]
      · rintro (e : Int) wC' ⟨he, rfl⟩
        have hne : numEnd s i ≤ s.size ∧ (0 < numEnd s i → i < numEnd s i) := by
          unfold numEnd
          have hcl := closeAt_le s 39 (i + 1)
          have hre := runEnd_le s (i + 1)
          split
          · omega
          · split <;> omega
        rw [he]
        refine BIf.dec (fun hneg => ?_) (fun hpos => ⟨by omega, by omega, by omega, by omega, (c125 (by unfold SmallS; rw [size_extract]; omega)).mono ?_⟩)
        · exact bad _ eC hAC hC (by rw [ho]; unfold oneNum; rw [if_pos hneg])
        · rintro _ wC' ⟨rfl, rfl⟩
          refine ⟨_, _, rfl, ?_⟩
          have ho' : one s i = (number (s.extract i.toNat (numEnd s i).toNat)).map (fun v => (⟨2, noText, v⟩, numEnd s i)) := by rw [ho]; unfold oneNum; rw [if_neg hpos]
          generalize number (s.extract i.toNat (numEnd s i).toNat) = o at *
          cases o with
          | none => exact bad _ eC hAC hC ho'
          | some v => exact good _ ⟨2, noText, v⟩ _ eC hAC ho'
end Go.Proofs.Ytenhcpjlkmbedaa

/- FnExactScan: a line, on both sides. Conditions: none. -/
set_option linter.unusedVariables false
set_option linter.unusedSimpArgs false
namespace Go.Proofs.Ytenhcpjlkmbedaa
open Go Go.Den
theorem numEnd_le (s : ByteArray) {i : Int} (h0 : 0 ≤ i) (h1 : i < s.size) : numEnd s i ≤ s.size ∧ (0 < numEnd s i → i < numEnd s i) := by
  unfold numEnd
  have hcl := closeAt_le s 39 (i + 1)
  have hre := runEnd_le s (i + 1)
  split
  · omega
  · split <;> omega
theorem one_gt {s : ByteArray} {i e : Int} {t : Tok} (h0 : 0 ≤ i) (h1 : i < s.size) (h : one s i = some (t, e)) : i < e ∧ e ≤ s.size := by
  unfold one at h
  split at h
  · cases h; omega
  split at h
  · cases h; omega
  split at h
  · cases h; omega
  split at h
  · cases h; omega
  split at h
  · rename_i hl
    unfold oneWord at h
    have hre := runEnd_le s i
    have hre2 := runEnd_le s (i + 1)
    have : i + 1 ≤ runEnd s i := by rw [runEnd, if_pos ⟨h1, by unfold wordy; rw [hl]; rfl⟩]; omega
    split at h
    · cases h
    · cases h; omega
  split at h
  · unfold oneText at h
    have hcl := closeAt_le s 34 (i + 1)
    split at h
    · cases h
    · rcases hm : meantL (s.extract (i + 1).toNat (closeAt s 34 (i + 1) - 1).toNat) 0 [] with _ | xs
      · rw [hm] at h; cases h
      · rw [hm] at h; cases h; omega
  · unfold oneNum at h
    have hne := numEnd_le s h0 h1
    split at h
    · cases h
    · rcases hm : number (s.extract i.toNat (numEnd s i).toNat) with _ | xs
      · rw [hm] at h; cases h
      · rw [hm] at h; cases h; omega
def scanL (s : ByteArray) (i : Int) (acc : List Tok) : List Tok × Int :=
  if i < s.size then (if btI s i = 32 ∨ btI s i = 9 then scanL s (i + 1) acc else if btI s i = 35 then (acc, -1) else match one s i with
    | none => (acc, i)
    | some (t, e) => if i < e then scanL s e (acc ++ [t]) else (acc, i))
  else (acc, -1)
termination_by (s.size - i).toNat
decreasing_by all_goals omega
def scan (s : ByteArray) : List Tok × Int := if s.size > 400 then ([], 0) else scanL s 0 []
def toks (l : List Tok) : List Value := l.flatMap Tok.cells
theorem toks_app (l : List Tok) (t : Tok) : toks l ++ t.cells = toks (l ++ [t]) := by unfold toks; simp
theorem toks_length (l : List Tok) : (toks l).length = l.length * 3 := flatMap_length _ 3 (fun _ => rfl) l
theorem plain_tok (t : Tok) : ∀ v, v ∈ t.cells → plainB v = true := by intro v hv; simp [Tok.cells] at hv; rcases hv with rfl | rfl | rfl <;> rfl
theorem tok_more {w0 w : World} {l : Sl} {acc : List Tok} {t : Tok} {i : Int} {K : Sl → World → Prop} (ho : OwnS w w0.heap.size l 3 (toks acc)) (he : Ext w0 w) (hi : (acc.length : Int) ≤ i) (hi2 : i ≤ 1048576)
    (hk : ∀ l' w', OwnS w' w0.heap.size l' 3 (toks (acc ++ [t])) → Ext w0 w' → K l' w') : LetW (w.alloc (.cells #[.int .i64 t.kind, .string t.text, .int .i64 t.val] 90)) (fun w1 => AppendW 90 ti90 l ⟨some ⟨w.heap.size, 0, none⟩, 1, 1⟩ w1 K) := by
  have hl := ho.len
  rw [toks_length] at hl
  refine LetW_iff.2 (AppendW.one ho he.size rfl rfl rfl (by decide) ?_ (plain_tok t) (fun s' w' h1 h2 h3 _ => hk s' w' (toks_app _ _ ▸ h2) (he.own h3 (fun _ h => h.1))))
  show (l.len + 1) * 32 ≤ _
  omega
def ScanK (s : ByteArray) (w : World) (v : Value) (w' : World) : Prop := ∃ sl : Sl, v = .tuple #[.slice sl.a sl.len sl.cap, .int .i64 (scan s).2] ∧ OwnS w' w.heap.size sl 3 (toks (scan s).1) ∧ Ext w w'
def ScanI (s : ByteArray) (w : World) (l : Sl) (i : Int) (w' : World) : Prop := 0 ≤ i ∧ i ≤ s.size ∧ Ext w w' ∧ ∃ acc, OwnS w' w.heap.size l 3 (toks acc) ∧ (acc.length : Int) ≤ i ∧ scanL s i acc = scan s
theorem scan_end {s : ByteArray} {w w' : World} {l : Sl} {acc : List Tok} {i n : Int} (ho : OwnS w' w.heap.size l 3 (toks acc)) (he : Ext w w') (hr : scanL s i acc = scan s) (h : scanL s i acc = (acc, n)) : ScanK s w (.tuple #[.slice l.a l.len l.cap, .int .i64 n]) w' := by
  have : scan s = (acc, n) := by rw [← hr, h]
  exact ⟨l, by rw [this], by rw [this]; exact ho, he⟩
theorem c14 {s : ByteArray} {w : World} (hs : SmallS s) : CallW Try.prog 14 #[.string s] w (ScanK s w) := by
  have hs' := hs
  unfold SmallS at hs
  refine go14 ?_
  unfold W14
  refine LetW_iff.2 (BIf.dec (fun hbig => ?_) (fun hsm => ?_))
  · have : scan s = ([], 0) := by unfold scan; rw [if_pos (by omega)]
    exact ⟨⟨some ⟨w.heap.size, 0, none⟩, 0, 0⟩, by rw [this], by rw [this]; exact OwnS.none _ _ _ _, ext_alloc _ _⟩
  have hsc : scan s = scanL s 0 [] := by unfold scan; rw [if_neg (by omega)]
  refine LoopW.m2 (ScanI s w) (fun (l : Sl) (i : Int) _ => (s.size - i).toNat) ⟨by omega, by omega, ext_alloc _ _, [], OwnS.none _ _ _ _, by simp, hsc.symm⟩ ?_
  rintro (l : Sl) (i : Int) w1 ⟨hi0, hi1, hext, acc, hown, hacc, hr⟩ J hJ
  refine BIf.dec (fun hlt => ⟨hi0, hlt, ?_⟩) (fun hge => ?_)
  · simp only [join_or']
    refine ⟨fun _ => ⟨by omega, by omega⟩, BIf.of (fun hsp => ?_) (fun hsp => ⟨hi0, hlt, BIf.eq (fun h35 => ?_) (fun h35 => ?_)⟩)⟩
    · simp only [Bool.or_eq_true, beq_iff_eq] at hsp
      rw [w64 (by omega) (by omega)]
      refine hJ _ _ _ ⟨by omega, by omega, hext, acc, hown, by omega, ?_⟩ (by omega)
      rw [← hr, scanL.eq_1 s i acc, if_pos hlt, if_pos hsp]
    all_goals have hsp : ¬ (btI s i = 32 ∨ btI s i = 9) := by intro h'; simp only [Bool.or_eq_false_iff, beq_eq_false_iff_ne] at hsp; omega
    · exact scan_end hown hext hr (by rw [scanL, if_pos hlt, if_neg hsp, if_pos h35])
    · refine (c56 hs' hi0 hlt).mono ?_
      rintro _ w2 ⟨rfl, e2⟩
      have hr2 : scan s = match one s i with | none => (acc, i) | some (t, e) => if i < e then scanL s e (acc ++ [t]) else (acc, i) := by rw [← hr, scanL, if_pos hlt, if_neg hsp, if_neg h35]
      have hown2 := hown.ext e2
      have hext2 := Only.trans hext e2
      have lay : ∀ (t : Tok), Blk (w2.alloc (.cells #[.int .i64 0, .string (⟨#[]⟩ : ByteArray), .int .i64 0] 90)) w2.heap.size noTok.cells := fun _ => blk_alloc w2 _ _
      rcases ho : one s i with _ | ⟨t, e⟩
      · refine ⟨_, _, _, _, rfl, LetW_iff.2 ?_⟩
        have hb := lay noTok
        have e3 := ext_alloc w2 (.cells #[.int .i64 0, .string (⟨#[]⟩ : ByteArray), .int .i64 0] 90)
        have s3 := size_alloc w2 (.cells #[.int .i64 0, .string (⟨#[]⟩ : ByteArray), .int .i64 0] 90)
        refine ⟨hb.mayN (by decide), LetW_iff.2 (BIf.t rfl ?_)⟩
        have o4 := only_puts noTok.cells (w2.alloc (.cells #[.int .i64 0, .string (⟨#[]⟩ : ByteArray), .int .i64 0] 90)) ⟨w2.heap.size, 0, none⟩ 0
        have hw2 := hext2.size
        refine scan_end (hown2.ext (Ext.own e3 o4 ?_)) (Only.trans hext2 (Ext.own e3 o4 ?_)) hr (by rw [hr, hr2, ho])
        · rintro k rfl; exact Nat.le_refl _
        · rintro k rfl; exact Nat.le_refl _
      · have hgt := one_gt hi0 hlt ho
        refine ⟨_, _, _, _, rfl, LetW_iff.2 ?_⟩
        have hb := lay noTok
        have e3 := ext_alloc w2 (.cells #[.int .i64 0, .string (⟨#[]⟩ : ByteArray), .int .i64 0] 90)
        refine ⟨hb.mayN (by decide), LetW_iff.2 ?_⟩
        have hb2 : Blk (puts (w2.alloc (.cells #[.int .i64 0, .string (⟨#[]⟩ : ByteArray), .int .i64 0] 90)) ⟨w2.heap.size, 0, none⟩ 0 t.cells) w2.heap.size t.cells := Blk.puts t.cells hb 0 0
        have o4 := only_puts t.cells (w2.alloc (.cells #[.int .i64 0, .string (⟨#[]⟩ : ByteArray), .int .i64 0] 90)) ⟨w2.heap.size, 0, none⟩ 0
        have e4 := Ext.own e3 o4 (by rintro k rfl; exact Nat.le_refl _)
        refine BIf.of (fun h0 => by have := eq_of_beq h0; omega) (fun _ => ?_)
        refine tok_get hb2 (Q := fun t' => LetW (World.alloc _ (.cells #[.int .i64 t'.kind, .string t'.text, .int .i64 t'.val] 90)) _) ?_
        refine tok_more (hown2.ext e4) (Only.trans hext2 e4) hacc (by omega) (fun l' w' h1 h2 => ?_)
        refine hJ _ _ _ ⟨by omega, by omega, h2, _, h1, by simp; omega, ?_⟩ (by omega)
        rw [hr2, ho]; exact (if_pos hgt.1).symm
  · exact scan_end hown hext hr (by rw [scanL, if_neg hge])
end Go.Proofs.Ytenhcpjlkmbedaa

/- FnExactScan: a line, on the program's side. Conditions: none. -/
set_option linter.unusedVariables false
set_option linter.unusedSimpArgs false
namespace Go.Proofs.Ytenhcpjlkmbedaa
open Go Go.Den
theorem number_minus {t : ByteArray} (h0 : btI t 0 = 45) (h1 : 1 ≤ t.size) (h2 : t.size = 1 ∨ isDigit (btI t 1) = false) : number t = none := by
  unfold number
  by_cases hb : t.size = 0 ∨ t.size > 40
  · rw [if_pos hb]
  rw [if_neg hb, if_neg (by omega)]
  have hm : minus t = true := by unfold minus; rw [h0]; rfl
  rw [hm, if_pos rfl]
  have : magn (t.extract 1 t.size) = none := by
    unfold magn
    have hsz := size_extract t 1 t.size
    rcases h2 with h2 | h2
    · rw [if_neg (by omega)]; unfold digits; rw [if_pos (by omega)]
    · by_cases h3 : t.size = 1
      · rw [if_neg (by omega)]; unfold digits; rw [if_pos (by omega)]
      have hd : btI (t.extract 1 t.size) 0 = btI t 1 := by have := btI_extract t 1 t.size 0 (by omega) (by omega); rwa [show ((1 : Nat) : Int) + 0 = 1 by omega] at this
      have h2 : ¬ (btI t 1 ≥ 48 ∧ btI t 1 ≤ 57) := by intro h'; unfold isDigit at h2; rw [decide_eq_true h'.1, decide_eq_true h'.2] at h2; cases h2
      rw [hd, if_neg (by omega)]
      unfold digits
      rw [if_neg (by omega), digs, if_pos (by omega), hd, if_pos]
      unfold digitOf
      rw [if_neg (by omega)]
      split <;> omega
  rw [this]; rfl
def idxOf (c : Int) : Int := if c = 44 then 0 else if c = 58 then 1 else if c = 40 then 2 else if c = 41 then 3 else -1
theorem idx_all : ∀ c : Fin 256, firstIdx ⟨#[44, 58, 40, 41]⟩ c.val.toUInt8 = idxOf c.val := by decide +kernel
theorem idx_of {c : Int} (h0 : 0 ≤ c) (h1 : c ≤ 255) : firstIdx ⟨#[44, 58, 40, 41]⟩ c.toNat.toUInt8 = idxOf c := by
  have := idx_all ⟨c.toNat, by omega⟩
  rw [this]
  show idxOf (c.toNat : Int) = _
  congr 1; omega
theorem letter_not {b : Int} (h : letter b = true) : b ≠ 44 ∧ b ≠ 58 ∧ b ≠ 40 ∧ b ≠ 41 ∧ b ≠ 34 := by
  unfold letter at h
  simp only [Bool.or_eq_true, Bool.and_eq_true, decide_eq_true_eq, beq_iff_eq] at h
  omega
theorem letter_false {b : Int} (h : isDigit b = true ∨ b = 45 ∨ b = 39) : letter b = false := by
  unfold letter
  unfold isDigit at h
  simp only [Bool.and_eq_true, decide_eq_true_eq] at h
  simp only [Bool.or_eq_false_iff, Bool.and_eq_false_iff, decide_eq_false_iff_not, beq_eq_false_iff_ne]
  omega
/-- A run of wordy bytes, as the program goes along it. -/
theorem run_loop {s : ByteArray} {i : Int} {w : World} {K : Int → World → Prop} (hs : SmallS s) (h0 : 0 ≤ i) (h1 : i ≤ s.size) (hk : K (runEnd s i) w) :
    LoopW [.int .i64] (fun J12 => fun (n11 : Int) w13 => JoinW [.bool] (fun J15 => BIf (decide ((n11 : Int) < (s.size : Int))) (0 ≤ (n11 : Int) ∧ (n11 : Int) < (s.size : Int) ∧ CallW Try.prog 58 #[.int .u8 (btI s n11)] w13 fun v20 w21 => ∃ b22 : Bool, v20 = .bool b22 ∧ J15 b22 w21) (J15 false w13)) (fun (b14 : Bool) w16 => BIf b14 (J12 (IntKind.wrap .i64 (n11 + 1)) w16) (K n11 w16))) ((i : Int), ()) w := by
  unfold SmallS at hs
  refine LoopW.m1 (fun (x : Int) w' => 0 ≤ x ∧ x ≤ s.size ∧ runEnd s x = runEnd s i ∧ w' = w) (fun (x : Int) _ => (s.size - x).toNat) ⟨h0, h1, rfl, rfl⟩ ?_
  rintro (x : Int) w ⟨hx0, hx1, hr, rfl⟩ J hJ
  refine JoinW.each ?_
  refine BIf.dec (fun hlt => ⟨hx0, hlt, c58.mono ?_⟩) (fun hge => ?_)
  · rintro _ w ⟨rfl, rfl⟩
    refine ⟨_, rfl, ?_⟩
    cases hw : wordy (btI s x)
    · show K x w
      rw [← hr, runEnd, if_neg (by rw [hw]; simp)] at hk
      exact hk
    · show J _ _
      rw [w64 (by omega) (by omega)]
      refine hJ _ _ ⟨by omega, by omega, ?_, rfl⟩ (by omega)
      rw [← hr, runEnd.eq_1 s x, if_pos ⟨hlt, hw⟩]
  · show K x w
    rw [← hr, runEnd, if_neg (by omega)] at hk
    exact hk
theorem c15 {s : ByteArray} {w : World} (hs : SmallS s) : CallW Try.prog 15 #[.string s] w (ScanK s w) := by
  have hs' := hs
  unfold SmallS at hs
  refine go15 ?_
  unfold W15
  refine (BIf.dec (fun hbig => ?_) (fun hsm => ?_))
  · have : scan s = ([], 0) := by unfold scan; rw [if_pos (by omega)]
    exact ⟨⟨none, 0, 0⟩, by rw [this], by rw [this]; exact OwnS.none _ _ _ _, Only.refl _ _⟩
  have hsc : scan s = scanL s 0 [] := by unfold scan; rw [if_neg (by omega)]
  refine LoopW.m2 (ScanI s w) (fun (l : Sl) (i : Int) _ => (s.size - i).toNat) ⟨by omega, by omega, Only.refl _ _, [], OwnS.none _ _ _ _, by simp, hsc.symm⟩ ?_
  rintro (l : Sl) (i : Int) w1 ⟨hi0, hi1, hext, acc, hown, hacc, hr⟩ J hJ
  refine BIf.dec (fun hlt => ⟨hi0, hlt, ?_⟩) (fun hge => ?_)
  rotate_left
  · exact scan_end hown hext hr (by rw [scanL, if_neg hge])
  simp only [join_or]
  refine BIf.of (fun hsp => ?_) (fun hsp => BIf.eq (fun h35 => ?_) (fun h35 => ?_))
  · simp only [Bool.or_eq_true, beq_iff_eq] at hsp
    rw [w64 (by omega) (by omega)]
    refine hJ _ _ _ ⟨by omega, by omega, hext, acc, hown, by omega, ?_⟩ (by omega)
    rw [← hr, scanL.eq_1 s i acc, if_pos hlt, if_pos hsp]
  all_goals have hsp : ¬ (btI s i = 32 ∨ btI s i = 9) := by intro h'; simp only [Bool.or_eq_false_iff, beq_eq_false_iff_ne] at hsp; omega
  · exact scan_end hown hext hr (by rw [scanL, if_pos hlt, if_neg hsp, if_pos h35])
  have hbr := btI_range s i
  have hr2 : scanL s i acc = match one s i with | none => (acc, i) | some (t, e) => if i < e then scanL s e (acc ++ [t]) else (acc, i) := by rw [scanL, if_pos hlt, if_neg hsp, if_neg h35]; try rfl
  -- none, or one more
  have bad : ∀ w2, Ext w1 w2 → one s i = none → ScanK s w (.tuple #[.slice l.a l.len l.cap, .int .i64 i]) w2 := fun w2 e2 ho => scan_end (hown.ext e2) (Only.trans hext e2) hr (by rw [hr2, ho])
  have good : ∀ w2 (t : Tok) (e : Int), Ext w1 w2 → one s i = some (t, e) → LetW (w2.alloc (.cells #[.int .i64 t.kind, .string t.text, .int .i64 t.val] 90)) (fun w3 => AppendW 90 ti90 l ⟨some ⟨w2.heap.size, 0, none⟩, 1, 1⟩ w3 fun l' w' => J l' e w') := by
    intro w2 t e e2 ho
    have hgt := one_gt hi0 hlt ho
    refine tok_more (hown.ext e2) (Only.trans hext e2) hacc (by omega) (fun l' w' h1 h2 => ?_)
    refine hJ _ _ _ ⟨by omega, by omega, h2, _, h1, by simp; omega, ?_⟩ (by omega)
    rw [← hr, hr2, ho]; exact (if_pos hgt.1).symm
  refine c57.mono ?_
  rintro _ w1 ⟨rfl, rfl⟩
  refine ⟨_, rfl, BIf.of (fun hl => ?_) (fun hl => ?_)⟩
  · have hln := letter_not hl
    have ho : one s i = oneWord s i := by unfold one; rw [if_neg hln.1, if_neg hln.2.1, if_neg hln.2.2.1, if_neg hln.2.2.2.1, if_pos hl]
    have hre := runEnd_le s i
    refine run_loop hs' hi0 (by omega) ?_
    have := hre.2 (by omega)
    rw [w64 (by omega) (by omega)]
    refine BIf.dec (fun hbig => ?_) (fun hsm => ⟨by omega, by omega, by omega, by omega, ?_⟩)
    · exact bad _ (Only.refl _ _) (by rw [ho]; unfold oneWord; rw [if_pos hbig])
    · exact good _ ⟨1, s.extract i.toNat (runEnd s i).toNat, 0⟩ (runEnd s i) (Only.refl _ _) (by rw [ho]; unfold oneWord; rw [if_neg hsm])
  have hl' : ¬ letter (btI s i) = true := by rw [hl]; simp
  refine c59.mono ?_
  rintro _ w1 ⟨rfl, rfl⟩
  refine ⟨_, rfl, ?_⟩
  refine BIf.of (fun hd => ?_) (fun hd => ?_)
  · -- a number
    simp only [Bool.or_eq_true, beq_iff_eq] at hd
    have ho : one s i = oneNum s i := by
      have : btI s i ≠ 44 ∧ btI s i ≠ 58 ∧ btI s i ≠ 40 ∧ btI s i ≠ 41 ∧ btI s i ≠ 34 := by
        unfold isDigit at hd
        simp only [Bool.and_eq_true, decide_eq_true_eq] at hd
        omega
      unfold one; rw [if_neg this.1, if_neg this.2.1, if_neg this.2.2.1, if_neg this.2.2.2.1, if_neg hl', if_neg this.2.2.2.2]
    have hne := numEnd_le s hi0 hlt
    refine JoinW.cut1 (fun (e : Int) w' => e = numEnd s i ∧ 0 < e ∧ w' = w1) ?_ ?_
    · refine BIf.eq (fun h39 => ?_) (fun h39 => ?_)
      · refine (c60 hs' hi0 hlt (by omega)).mono ?_
        rintro _ w1 ⟨rfl, rfl⟩
        have hcl := closeAt_le s 39 (i + 1)
        have hn : numEnd s i = closeAt s 39 (i + 1) := by unfold numEnd; rw [if_pos h39]
        rw [h39]
        refine ⟨_, rfl, BIf.dec (fun hneg => ?_) (fun hpos => ⟨hn.symm, by omega, rfl⟩)⟩
        exact bad _ (Only.refl _ _) (by rw [ho]; unfold oneNum; rw [if_pos (by omega)])
      · have hn : numEnd s i = runEnd s (i + 1) := by unfold numEnd; rw [if_neg h39, if_pos (by rcases hd with (h | h) | h <;> simp_all)]
        have hre := runEnd_le s (i + 1)
        refine JoinW.cut1 (fun (j : Int) w' => 0 ≤ j ∧ j ≤ s.size ∧ runEnd s j = numEnd s i ∧ w' = w1) ?_ ?_
        · refine BIf.eq (fun h45 => ?_) (fun h45 => ⟨by omega, by omega, ?_, rfl⟩)
          · have hnone : (s.size ≤ i + 1 ∨ isDigit (btI s (i + 1)) = false) → one s i = none := by
              intro h
              rw [ho]; unfold oneNum
              rw [if_neg (by omega), number_minus]
              · rfl
              · have := btI_extract s i.toNat (numEnd s i).toNat 0 (by omega) (by omega)
                rw [this, show ((i.toNat : Nat) : Int) + 0 = i by omega, h45]
              · rw [size_extract]; omega
              · by_cases hz : numEnd s i = i + 1
                · left; rw [size_extract]; omega
                · right
                  have := btI_extract s i.toNat (numEnd s i).toNat 1 (by omega) (by omega)
                  rw [this, show ((i.toNat : Nat) : Int) + 1 = i + 1 by omega]
                  rcases h with h | h
                  · omega
                  · exact h
            rw [w64 (by omega) (by omega)]
            refine JoinW.cut1 (fun (b : Bool) w' => b = (decide (s.size ≤ i + 1) || !isDigit (btI s (i + 1))) ∧ w' = w1) ?_ ?_
            · refine BIf.dec (fun h => ⟨?_, rfl⟩) (fun h => ⟨by omega, by omega, c59.mono ?_⟩)
              · rw [decide_eq_true (by omega)]; rfl
              · rintro _ w1 ⟨rfl, rfl⟩
                refine ⟨_, rfl, ?_, rfl⟩
                rw [decide_eq_false (by omega)]; rfl
            · rintro (b : Bool) w1 ⟨rfl, rfl⟩
              refine BIf.of (fun h => ?_) (fun h => ⟨by omega, ?_, hn.symm, rfl⟩)
              · exact bad _ (Only.refl _ _) (hnone (by simpa using h))
              · simp only [Bool.or_eq_false_iff, decide_eq_false_iff_not] at h; omega
          · rw [hn]
            have hw : wordy (btI s i) = true := by
              have : isDigit (btI s i) = true := by rcases hd with (h | h) | h <;> first | exact h | omega
              unfold wordy; rw [this]; simp
            rw [runEnd.eq_1 s i, if_pos ⟨hlt, hw⟩]
        · rintro (j : Int) w1 ⟨hj0, hj1, hj, rfl⟩
          refine run_loop hs' hj0 hj1 ?_
          exact ⟨hj, by omega, rfl⟩
    · rintro (e : Int) w1 ⟨he, hpos, rfl⟩
      rw [he]
      refine ⟨by omega, by omega, by omega, by omega, (c61 (by unfold SmallS; rw [size_extract]; omega)).mono ?_⟩
      rintro _ w1 ⟨rfl, rfl⟩
      refine ⟨_, _, rfl, ?_⟩
      have ho' : one s i = (number (s.extract i.toNat (numEnd s i).toNat)).map (fun v => (⟨2, noText, v⟩, numEnd s i)) := by rw [ho]; unfold oneNum; rw [if_neg (by omega)]
      generalize number (s.extract i.toNat (numEnd s i).toNat) = o at *
      cases o with
      | none => exact bad _ (Only.refl _ _) ho'
      | some v => exact good _ ⟨2, noText, v⟩ _ (Only.refl _ _) ho'
  · simp only [Bool.or_eq_false_iff, beq_eq_false_iff_ne] at hd
    refine BIf.eq (fun h34 => ?_) (fun h34 => ?_)
    · have ho : one s i = oneText s i := by unfold one; rw [if_neg (by omega), if_neg (by omega), if_neg (by omega), if_neg (by omega), if_neg hl', if_pos h34]
      have hcl := closeAt_le s 34 (i + 1)
      refine (c60 hs' hi0 hlt (by omega)).mono ?_
      rintro _ w1 ⟨rfl, rfl⟩
      rw [h34]
      refine ⟨_, rfl, BIf.dec (fun hneg => ?_) (fun hpos => ?_)⟩
      · exact bad _ (Only.refl _ _) (by rw [ho]; unfold oneText; rw [if_pos hneg])
      · rw [w64 (n := closeAt s 34 (i + 1) - 1) (by omega) (by omega), w64 (n := i + 1) (by omega) (by omega)]
        refine ⟨by omega, by omega, by omega, by omega, (c62 (by unfold SmallS; rw [size_extract]; omega)).mono ?_⟩
        rintro _ wD ⟨rfl, eD⟩
        refine ⟨_, _, rfl, ?_⟩
        have ho' : one s i = (meantL (s.extract (i + 1).toNat (closeAt s 34 (i + 1) - 1).toNat) 0 []).map (fun xs => (⟨3, strOfNums xs, 0⟩, closeAt s 34 (i + 1))) := by rw [ho]; unfold oneText; rw [if_neg hpos]
        generalize meantL (s.extract (i + 1).toNat (closeAt s 34 (i + 1) - 1).toNat) 0 [] = o at *
        cases o with
        | none => exact bad _ eD ho'
        | some xs => exact good _ ⟨3, strOfNums xs, 0⟩ _ eD ho'
    · refine c63.mono ?_
      rintro _ w1 ⟨rfl, rfl⟩
      refine ⟨_, rfl, ?_⟩
      rw [idx_of hbr.1 hbr.2, w64 (n := i + 1) (by omega) (by omega)]
      unfold idxOf
      by_cases h44 : btI s i = 44
      · rw [if_pos h44]
        exact BIf.f rfl (good _ ⟨4, noText, 0⟩ (i + 1) (Only.refl _ _) (by unfold one; rw [if_pos h44]))
      rw [if_neg h44]
      by_cases h58 : btI s i = 58
      · rw [if_pos h58]
        exact BIf.f rfl (good _ ⟨5, noText, 0⟩ (i + 1) (Only.refl _ _) (by unfold one; rw [if_neg h44, if_pos h58]))
      rw [if_neg h58]
      by_cases h40 : btI s i = 40
      · rw [if_pos h40]
        exact BIf.f rfl (good _ ⟨6, noText, 0⟩ (i + 1) (Only.refl _ _) (by unfold one; rw [if_neg h44, if_neg h58, if_pos h40]))
      rw [if_neg h40]
      by_cases h41 : btI s i = 41
      · rw [if_pos h41]
        exact BIf.f rfl (good _ ⟨7, noText, 0⟩ (i + 1) (Only.refl _ _) (by unfold one; rw [if_neg h44, if_neg h58, if_neg h40, if_pos h41]))
      rw [if_neg h41]
      refine BIf.t rfl (bad _ (Only.refl _ _) ?_)
      unfold one; rw [if_neg h44, if_neg h58, if_neg h40, if_neg h41, if_neg hl', if_neg h34]
      unfold oneNum
      have : numEnd s i = 0 := by unfold numEnd; rw [if_neg hd.2, if_neg (by rw [hd.1.1]; simp; exact hd.1.2)]
      rw [if_pos (by omega)]
end Go.Proofs.Ytenhcpjlkmbedaa

/- FnExactScan: the law's own functions. Conditions: none. -/
set_option linter.unusedVariables false
set_option linter.unusedSimpArgs false
namespace Go.Proofs.Ytenhcpjlkmbedaa
open Go Go.Den
/-- A token against itself. -/
theorem c64 {t : Tok} {w : World} : CallW Try.prog 64 #[t.agg, t.agg] w (fun v w' => v = .bool true ∧ Ext w w') := by
  refine go64 ?_
  unfold W64
  refine LetW_iff.2 (LetW_iff.2 ?_)
  have hA : Blk (w.alloc (.cells #[.int .i64 t.kind, .string t.text, .int .i64 t.val] 90)) w.heap.size t.cells := blk_alloc w _ _
  have eA := ext_alloc w (.cells #[.int .i64 t.kind, .string t.text, .int .i64 t.val] 90)
  generalize w.alloc (.cells #[.int .i64 t.kind, .string t.text, .int .i64 t.val] 90) = wA at *
  have hB : Blk (wA.alloc (.cells #[.int .i64 t.kind, .string t.text, .int .i64 t.val] 90)) wA.heap.size t.cells := blk_alloc wA _ _
  have eB := ext_alloc wA (.cells #[.int .i64 t.kind, .string t.text, .int .i64 t.val] 90)
  have hAB := hA.ext eB
  generalize wA.alloc (.cells #[.int .i64 t.kind, .string t.text, .int .i64 t.val] 90) = wB at *
  refine ⟨_, hAB.cell 0, _, hB.cell 0, BIf.f (by simp) ⟨_, hAB.cell 1, _, hB.cell 1, BIf.f (by rw [strEq_iff.2 rfl]; rfl) ⟨_, hAB.cell 2, _, hB.cell 2, BIf.f (by simp) ⟨rfl, Only.trans eA eB⟩⟩⟩⟩
theorem tok_at {w : World} {a : Sl} {l : List Tok} (h : RowAt w a.a (a.len * 3) (toks l)) {i : Nat} {t : Tok} (ht : l[i]? = some t) :
    ∃ p, a.a = some p ∧ w.cell? ((p.add (i * 3)).add 0) = some (.int .i64 t.kind) ∧ w.cell? ((p.add (i * 3)).add 1) = some (.string t.text) ∧ w.cell? ((p.add (i * 3)).add 2) = some (.int .i64 t.val) := by
  obtain ⟨p, hp, hc⟩ := RowAt.elem (f := Tok.cells) (z := 3) (fun _ => rfl) h ht (by omega)
  exact ⟨p, hp, hc 0 _ rfl, hc 1 _ rfl, hc 2 _ rfl⟩
theorem len_toks {w : World} {a : Sl} {l : List Tok} (h : RowAt w a.a (a.len * 3) (toks l)) : a.len = l.length := by
  have := h.1; rw [toks_length] at this; omega
theorem c16 {a b : Sl} {l : List Tok} {w : World} (ha : RowAt w a.a (a.len * 3) (toks l)) (hb : RowAt w b.a (b.len * 3) (toks l)) (hl : l.length ≤ 1048576) : CallW Try.prog 16 #[.slice a.a a.len a.cap, .slice b.a b.len b.cap] w (fun v w' => v = .bool true ∧ Ext w w') := by
  refine go16 ?_
  unfold W16
  have e1 := len_toks ha
  have e2 := len_toks hb
  refine BIf.f (by rw [e1, e2]; simp) ?_
  refine LoopW.m1 (fun (i : Int) w' => 0 ≤ i ∧ i ≤ l.length ∧ Ext w w') (fun (i : Int) _ => (l.length - i).toNat) ⟨by omega, by omega, Only.refl _ _⟩ ?_
  rintro (i : Int) w1 ⟨hi0, hi1, he⟩ J hJ
  refine BIf.dec (fun hlt => ⟨hi0, hlt, ?_⟩) (fun hge => ⟨rfl, he⟩)
  have hlt' : i.toNat < l.length := by omega
  have hget : l[i.toNat]? = some l[i.toNat] := List.getElem?_eq_getElem hlt'
  have hdr := Only.trans he (ext_drew w1)
  obtain ⟨p, hp, p0, p1, p2⟩ := tok_at (Ext.row hdr ha) hget
  obtain ⟨q, hq, q0, q1, q2⟩ := tok_at (Ext.row hdr hb) hget
  refine ⟨p, hp, _, p0, _, p1, _, p2, hi0, by omega, q, hq, _, q0, _, q1, _, q2, ?_⟩
  refine (c64 (t := l[i.toNat])).mono ?_
  rintro _ w2 ⟨rfl, e3⟩
  refine ⟨_, rfl, BIf.f rfl ?_⟩
  rw [w64 (by omega) (by omega)]
  exact hJ _ _ ⟨by omega, by omega, Only.trans hdr e3⟩ (by omega)
/-- The mark that the law writes into a text. -/
def mtL (n : Int) (s : ByteArray) : ByteArray := if n > 0 then mtL (n.tdiv 10) (strOfNums [IntKind.wrap .u8 (IntKind.wrap .i64 (48 + n.tmod 10))] ++ s) else s
termination_by n.toNat
decreasing_by rw [Int.tdiv_eq_ediv_of_nonneg (by omega)]; omega
def mt (n : Int) : ByteArray := ⟨#[109]⟩ ++ mtL n ⟨#[]⟩
theorem size_one (c : Int) : (strOfNums [c]).size = 1 := rfl
theorem c65 {n : Int} {w : World} (h0 : 1 ≤ n) (h1 : n ≤ 1099511627776) : CallW Try.prog 65 #[.int .i64 n] w (fun v w' => v = .string (mt n) ∧ Ext w w') := by
  refine go65 ?_
  unfold W65
  refine BIf.dec (fun h => by omega) (fun _ => ?_)
  refine LoopW.m2 (fun (x : Int) (s : ByteArray) w' => 0 ≤ x ∧ x + s.size ≤ 1099511627776 ∧ mtL x s = mtL n ⟨#[]⟩ ∧ Ext w w') (fun (x : Int) _ _ => x.toNat) ⟨by omega, by show n + ((0 : Nat) : Int) ≤ _; omega, rfl, Only.refl _ _⟩ ?_
  rintro (x : Int) (s : ByteArray) w1 ⟨hx, hs, hm, he⟩ J hJ
  have hmax : IntKind.i64.max = 9223372036854775807 := by rfl
  rw [hmax]
  refine BIf.dec (fun hpos => ⟨by omega, LetW_iff.2 ?_⟩) (fun hz => ⟨?_, ?_⟩)
  · refine ⟨[IntKind.wrap .u8 (IntKind.wrap .i64 (48 + x.tmod 10))], row_of_blk (blk_alloc w1 _ _) rfl, ?_, by omega, ?_⟩
    · rw [size_one]; omega
    · rw [Int.tdiv_eq_ediv_of_nonneg hx, w64 (by omega) (by omega)]
      refine hJ _ _ _ ⟨by omega, ?_, ?_, Only.trans he (ext_alloc _ _)⟩ (by omega)
      · rw [ByteArray.size_append, size_one]; omega
      · rw [← hm, mtL.eq_1 x s, if_pos hpos, Int.tdiv_eq_ediv_of_nonneg hx]
  · show (((1 : Nat) + s.size : Nat) : Int) ≤ _
    omega
  · refine ⟨?_, he⟩
    unfold mt
    rw [← hm, mtL, if_neg hz]
def markOf (k : Int) (j : Nat) : Tok := ⟨k + 3 * j, mt (k + 3 * j + 1), k + 3 * j + 2⟩
theorem toks_set (l : List Tok) (i : Nat) (t : Tok) : i < l.length → (((toks l).set (i * 3 + 0) (.int .i64 t.kind)).set (i * 3 + 1) (.string t.text)).set (i * 3 + 2) (.int .i64 t.val) = toks (l.set i t) := by
  induction l generalizing i with
  | nil => intro h; simp at h
  | cons a r ih =>
    intro h
    cases i with
    | zero => rfl
    | succ j =>
      have := ih j (by simpa using h)
      rw [show (j + 1) * 3 + 0 = j * 3 + 0 + 3 by omega, show (j + 1) * 3 + 1 = j * 3 + 1 + 3 by omega, show (j + 1) * 3 + 2 = j * 3 + 2 + 3 by omega]
      show _ :: _ :: _ :: _ = _ :: _ :: _ :: toks (r.set j t)
      rw [← this]
      rfl
theorem c17 {a : Sl} {l : List Tok} {w : World} {b0 : Nat} {k : Int} (ha : OwnS w b0 a 3 (toks l)) (hl : l.length ≤ 1048576) (hk0 : 0 ≤ k) (hk1 : k ≤ 1000) (hb0 : b0 ≤ w.heap.size) :
    CallW Try.prog 17 #[.slice a.a a.len a.cap, .int .i64 k] w (fun v w' => v = .int .i64 (k + 3 * l.length) ∧ Only (fun k => b0 ≤ k ∧ a.a = some ⟨k, 0, none⟩) w w' ∧ ∃ m : List Tok, m.length = l.length ∧ OwnS w' b0 a 3 (toks m) ∧ ∀ j, j < l.length → m[j]? = some (markOf k j)) := by
  refine go17 ?_
  unfold W17
  have e1 := len_toks ha.row
  refine LoopW.m2 (fun (x i : Int) w' => 0 ≤ i ∧ i ≤ l.length ∧ x = k + 3 * i ∧ Only (fun k => b0 ≤ k ∧ a.a = some ⟨k, 0, none⟩) w w' ∧ ∃ m : List Tok, m.length = l.length ∧ OwnS w' b0 a 3 (toks m) ∧ ∀ j : Nat, (j : Int) < i → m[j]? = some (markOf k j)) (fun _ (i : Int) _ => (l.length - i).toNat)
    ⟨by omega, by omega, by omega, Only.refl _ _, l, rfl, ha, fun j h => by omega⟩ ?_
  rintro (x : Int) (i : Int) w1 ⟨hi0, hi1, hx, ho, m, hm, hown, hall⟩ J hJ
  refine BIf.dec (fun hlt => ⟨hi0, hlt, ?_⟩) (fun hge => ?_)
  · obtain ⟨n, rfl⟩ := Int.eq_ofNat_of_zero_le hi0
    rw [Int.toNat_natCast]
    have hlen : (toks m).length = l.length * 3 := by rw [toks_length, hm]
    obtain ⟨p, hp, hmay, own1, o1⟩ := hown.set (i := n * 3 + 0) (by rw [hlen]; omega) (.int .i64 x)
    have hadd : ∀ c, (p.add (n * 3)).add c = p.add (n * 3 + c) := fun c => add_add _ _ _
    rw [w64 (n := x + 1) (by omega) (by omega), w64 (n := x + 1 + 1) (by omega) (by omega), w64 (n := x + 1 + 1 + 1) (by omega) (by omega), w64 (n := (n : Int) + 1) (by omega) (by omega)]
    refine ⟨p, hp, by rw [hadd]; exact hmay, LetW_iff.2 ?_⟩
    rw [hadd]
    refine (c65 (by omega) (by omega)).mono ?_
    rintro _ w2 ⟨rfl, e2⟩
    obtain ⟨p', hp', hmay2, own2, o2⟩ := (own1.ext e2).set (i := n * 3 + 1) (by simp [hlen]; omega) (.string (mt (x + 1)))
    rw [hp] at hp'; cases hp'
    refine ⟨_, rfl, by omega, hlt, p, hp, by rw [hadd]; exact hmay2, LetW_iff.2 ?_⟩
    rw [hadd]
    obtain ⟨p', hp', hmay3, own3, o3⟩ := own2.set (i := n * 3 + 2) (by simp [hlen]; omega) (.int .i64 (x + 1 + 1))
    rw [hp] at hp'; cases hp'
    refine ⟨by omega, hlt, p, hp, by rw [hadd]; exact hmay3, LetW_iff.2 ?_⟩
    rw [hadd]
    have hn : n < m.length := by omega
    have hset := toks_set m n ⟨x, mt (x + 1), x + 1 + 1⟩ hn
    rw [hset] at own3
    refine hJ _ _ _ ⟨by omega, by omega, by omega, ho.trans (o1.trans (Only.trans e2.any (o2.trans o3))), m.set n ⟨x, mt (x + 1), x + 1 + 1⟩, by rw [List.length_set]; exact hm, own3, fun j hj => ?_⟩ (by omega)
    by_cases hjn : n = j
    · subst hjn
      rw [List.getElem?_set_self hn, hx]
      unfold markOf
      rw [show k + 3 * (n : Int) + 1 + 1 = k + 3 * (n : Int) + 2 by omega]
    · rw [List.getElem?_set_ne hjn]
      exact hall j (by omega)
  · refine ⟨?_, ho, m, hm, hown, fun j hj => hall j (by omega)⟩
    rw [hx, show i = l.length by omega]
theorem c18 {a : Sl} {m : List Tok} {w : World} {k : Int} (ha : RowAt w a.a (a.len * 3) (toks m)) (hl : m.length ≤ 1048576) (hk0 : 0 ≤ k) (hk1 : k ≤ 1000) (hall : ∀ j, j < m.length → m[j]? = some (markOf k j)) :
    CallW Try.prog 18 #[.slice a.a a.len a.cap, .int .i64 k] w (fun v w' => v = .int .i64 (k + 3 * m.length) ∧ Ext w w') := by
  refine go18 ?_
  unfold W18
  have e1 := len_toks ha
  refine LoopW.m2 (fun (x i : Int) w' => 0 ≤ i ∧ i ≤ m.length ∧ x = k + 3 * i ∧ Ext w w') (fun _ (i : Int) _ => (m.length - i).toNat) ⟨by omega, by omega, by omega, Only.refl _ _⟩ ?_
  rintro (x : Int) (i : Int) w1 ⟨hi0, hi1, hx, he⟩ J hJ
  refine BIf.dec (fun hlt => ⟨hi0, hlt, ?_⟩) (fun hge => ?_)
  · obtain ⟨n, rfl⟩ := Int.eq_ofNat_of_zero_le hi0
    rw [Int.toNat_natCast]
    have hget := hall n (by omega)
    obtain ⟨p, hp, p0, _, _⟩ := tok_at (Ext.row he ha) hget
    have hdr := Only.trans he (ext_drew w1)
    obtain ⟨p', hp', _, p1, _⟩ := tok_at (Ext.row hdr ha) hget
    rw [hp] at hp'; cases hp'
    rw [w64 (n := x + 1) (by omega) (by omega), w64 (n := x + 1 + 1) (by omega) (by omega), w64 (n := x + 1 + 1 + 1) (by omega) (by omega), w64 (n := (n : Int) + 1) (by omega) (by omega)]
    refine ⟨p, hp, _, p0, BIf.ne (fun h => absurd (by rw [hx]; rfl) h) (fun _ => ⟨by omega, hlt, p, hp, _, p1, ?_⟩)⟩
    refine (c65 (by omega) (by omega)).mono ?_
    rintro _ w2 ⟨rfl, e2⟩
    have he2 := Only.trans hdr e2
    obtain ⟨p', hp', _, r1, r2⟩ := tok_at (Ext.row he2 ha) hget
    rw [hp] at hp'; cases hp'
    refine ⟨_, rfl, ⟨_, r1, rfl⟩, BIf.f ?_ ⟨by omega, hlt, p, hp, _, r2, BIf.ne (fun h => absurd ?_ h) (fun _ => ?_)⟩⟩
    · rw [hx]
      show (!strEq (mt (k + 3 * (n : Int) + 1)) (mt (k + 3 * (n : Int) + 1))) = false
      rw [strEq_iff.2 rfl]; rfl
    · show k + 3 * (n : Int) + 2 = x + 1 + 1
      omega
    · exact hJ _ _ _ ⟨by omega, by omega, by omega, he2⟩ (by omega)
  · refine ⟨?_, he⟩
    rw [hx, show i = m.length by omega]
end Go.Proofs.Ytenhcpjlkmbedaa

/- FnExactScan: the law. Conditions: none. -/
set_option linter.unusedVariables false
set_option linter.unusedSimpArgs false
namespace Go.Proofs.Ytenhcpjlkmbedaa
open Go Go.Den
theorem scanL_length (s : ByteArray) (i : Int) (acc : List Tok) : 0 ≤ i → i ≤ s.size → (acc.length : Int) ≤ i → ((scanL s i acc).1.length : Int) ≤ s.size := by
  fun_induction scanL s i acc with
  | case1 i acc h h2 ih => intro h0 h1 h3; exact ih (by omega) (by omega) (by omega)
  | case2 i acc h h2 h3 => intro h0 h4 h5; show (acc.length : Int) ≤ _; omega
  | case3 i acc h h2 h3 h4 => intro h0 h4 h5; show (acc.length : Int) ≤ _; omega
  | case4 i acc h h2 h3 t e ho hlt ih => intro h0 h4 h5; exact ih (by omega) (one_gt h0 h ho).2 (by simp; omega)
  | case5 i acc h h2 h3 t e ho hlt => intro h0 h4 h5; show (acc.length : Int) ≤ _; omega
  | case6 i acc h => intro h0 h4 h5; show (acc.length : Int) ≤ _; omega
theorem scan_length (s : ByteArray) : (scan s).1.length ≤ 400 := by
  unfold scan
  split
  · exact Nat.zero_le _
  · have := scanL_length s 0 [] (by omega) (by omega) (by simp)
    omega
theorem law_w4 {s : ByteArray} {w : World} : W4 s w (fun v w' => v = .bool true ∧ Ext w w') := by
  unfold W4
  refine BIf.dec (fun h => ⟨rfl, Only.refl _ _⟩) (fun hsz => ?_)
  have hs : SmallS s := by unfold SmallS; omega
  have hlen := scan_length s
  have hlen' : (scan s).1.length ≤ 1048576 := by omega
  refine (c14 hs).mono ?_
  rintro _ w1 ⟨sp, rfl, own1, e1⟩
  refine ⟨sp, _, rfl, (c15 hs).mono ?_⟩
  rintro _ w2 ⟨im, rfl, own2, e2⟩
  refine ⟨im, _, rfl, (c16 own2.row (own1.ext e2).row hlen').mono ?_⟩
  rintro _ w3 ⟨rfl, e3⟩
  refine ⟨_, rfl, ?_⟩
  simp only [join_or]
  refine BIf.f (by simp) ?_
  refine (c17 (own2.ext e3) hlen' (by omega) (by omega) (Nat.le_trans e2.size e3.size)).mono ?_
  rintro _ w4 ⟨rfl, o4, m, hm, own4, hall⟩
  have e14 : Ext w1 w4 := Ext.own (Only.trans e2 e3) o4 (fun i h => h.1)
  refine ⟨_, rfl, (c18 own4.row (by omega) (by omega) (by omega) (fun j hj => hall j (by omega))).mono ?_⟩
  rintro _ w5 ⟨rfl, e5⟩
  refine ⟨_, rfl, BIf.dec (fun h => by omega) (fun _ => BIf.f (by rw [hm]; simp) ?_)⟩
  refine (c15 hs).mono ?_
  rintro _ w6 ⟨im2, rfl, own6, e6⟩
  refine ⟨im2, _, rfl, (c16 own6.row (own1.ext (Only.trans e14 (Only.trans e5 e6))).row hlen').mono ?_⟩
  rintro _ w7 ⟨rfl, e7⟩
  refine ⟨_, rfl, BIf.f (by simp) ?_⟩
  have e47 : Ext w4 w7 := Only.trans e5 (Only.trans e6 e7)
  refine (c18 (own4.ext e47).row (by omega) (by omega) (by omega) (fun j hj => hall j (by omega))).mono ?_
  rintro _ w8 ⟨rfl, e8⟩
  refine ⟨_, rfl, BIf.dec (fun h => by omega) (fun _ => BIf.f (by rw [hm]; simp) ⟨by trivial, ?_⟩)⟩
  exact Only.trans e1 (Only.trans e14 (Only.trans e47 e8))
end Go.Proofs.Ytenhcpjlkmbedaa
namespace Go.Proofs.Ytenhcpjlkmbedaa
open Go Go.Den Go.RowKit
theorem law_calls {s : ByteArray} {w : World} (_ : s.size ≤ 140737488351232) : Calls Try.prog 4 #[.string s] w (fun e w' => e = .returned (.bool true) ∧ Below w.heap.size w w') := by
  have h : W4 s w (fun v w' => v = .bool true ∧ Ext w w') := law_w4
  have hc := denFn_sound tt_ok mix Try.func4 (by kernel_rfl) (eq4 s w _ ▸ h)
  refine hc.mono ?_
  rintro e w' ⟨v, rfl, rfl, he⟩
  exact ⟨rfl, he.below⟩
end Go.Proofs.Ytenhcpjlkmbedaa

/- The row of the law FnExactScan: what its walk shows is what the statement says. Conditions: none. -/
namespace Go.Proofs.Ytenhcpjlkmbedaa.fnExactScan
open Go.ChangeShapes Go.WideShapes Go.ChangeAt Go.RowKit
open Go.ChangeMaps (open_string shut_string)
set_option linter.unusedVariables false
theorem own : ownKnob Try.prog.godebug = none := by kernel_rfl
set_option maxRecDepth 100000 in
theorem lifted (os : Os) (started : os.Started) (H : Type) (enc : TypeId × Value → H) :
    ReturnsInHanded {} Try.checked os 4 .any (Rows.fnExactScanSpec.pre6 enc Try.prog Try.f4 Rows.fnExactScanRow.domain false) (Rows.fnExactScanSpec.post enc Try.prog Try.f4 false true false false) := by
  refine returnsInHanded_of_change_sized (C := Try.checked) own started (by kernel_rfl) Try.func4
    (ChangeSpec.witness6 (enc := enc) (C := Try.checked) false ⟨#[], #[.string ByteArray.empty], []⟩ 8 (by kernel_rfl) (by kernel_rfl) (by kernel_rfl) (by kernel_rfl)) ?_
  intro W base args ds gs before hval0 hW hcnd hsz0 _
  have hsz : (DataW.weightsEach Try.prog (Try.f4.params.toList ++ Rows.fnExactScanSpec.plain.varTypes Try.prog) (ds ++ gs)).all (· ≤ reachBytes) = true := hsz0
  have hval : ∀ (j : Nat) t v, Try.f4.params[j]? = some t → args[j]? = some v → Value.okWide Try.prog W .any base t v := hval0
  have hW' := hW
  obtain ⟨p, q, hA0, hV, rfl, hfz, hnd⟩ := hW
  have hA : DataW.TrodAll enc Try.prog W 0 (fun _ => true) true Try.f4.params.toList args.toList ds p := hA0
  rw [Try.params4] at hA hval hsz
  obtain ⟨v0, vs0, d0, ds0, p0, q0, hargs, rfl, rfl, h0, r0⟩ := trodAll_cons hA
  obtain ⟨rfl, rfl, rfl⟩ := trodAll_nil r0
  obtain rfl : args = #[v0] := by cases args; simp_all
  obtain ⟨rfl, rfl⟩ := trodVars_none hV
  obtain ⟨a0, rfl, rfl, rfl, y0⟩ := open_string Try.underlying9 (hval 0 9 v0 rfl rfl) h0
  have w0 : a0.size ≤ 140737488351232 := by
    have z := sized_string hsz (j := 0) (t := 9) rfl rfl
    rw [Array.length_toList] at z
    exact z
  clear hA0 hval0 hsz0 hsz
  refine (law_calls (s := a0) (w := W) w0).mono fun e W' ⟨he, bel⟩ => ?_
  subst he
  exact ⟨_, rfl, _, _, _, [], _, [], hW', trodAll_mk1 (shut_bool Try.underlying4 _), (trodAll_cons_mk (shut_string Try.underlying9 y0) trodAll_mk0), rfl, bel.frame _, fun h => by cases h⟩
theorem over : Rows.fnExactScanRow.holds Try.pinned (OpenSpec.ofChange Rows.fnExactScanSpec) :=
  OpenClaim.holds_of_wide 4 Try.f4 rfl rfl rfl rfl rfl rfl rfl ⟨rfl, rfl, rfl, rfl, rfl⟩ rfl rfl rfl rfl rfl (by kernel_rfl) Try.func4 (by kernel_rfl)
    (of_decide_eq_true (by kernel_rfl)) (by unfold Func.isWrapper; first | (rw [if_pos (by decide +kernel)]; kernel_rfl) | (rw [if_neg (by decide +kernel)]; exact ⟨rfl, rfl⟩))
    (fun os started H enc _ => lifted os started H enc)
theorem proved : Rows.FnExactScanSaid := over
#print axioms proved
end Go.Proofs.Ytenhcpjlkmbedaa.fnExactScan
namespace Go.Proofs.Ytenhcpjlkmbedaa
/-- The row, under a short name, for the claim. -/
theorem fnExactScan_holds : Rows.FnExactScanSaid := fnExactScan.proved
end Go.Proofs.Ytenhcpjlkmbedaa
