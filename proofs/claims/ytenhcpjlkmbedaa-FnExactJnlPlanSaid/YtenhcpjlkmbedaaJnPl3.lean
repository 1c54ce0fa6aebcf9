/- Part 3 of 4: plain readings of code, rules for them, and a proof over them, joined by a program. Conditions: none. -/
import Derived.Test.YtenhcpjlkmbedaaJnPl2
import Derived.Test.YtenhcpjlkmbedaaProg
/- The plainer reading of functions of the program, each held against its code. Conditions: none. -/
set_option linter.unusedVariables false
set_option maxRecDepth 100000
namespace Go.Proofs.Ytenhcpjlkmbedaa
open Go Go.Den
/- loop.example/g00008/laws.FnExactJnlPlan -/
def an6 : Ann := (.seq .leaf (.seq (.seq .leaf (.cond (.seq .leaf .leaf) .leaf)) (.seq .leaf (.seq .leaf (.seq (.seq .leaf (.cond (.seq .leaf .leaf) .leaf)) (.seq .leaf (.seq .leaf (.seq .leaf (.seq .leaf (.seq (.seq (.reg [(5, none), (4, some (4035, [(51, .bool)]))]) (.cond (.seq .leaf .leaf) .leaf)) (.seq (.seq .leaf (.cond (.seq .leaf .leaf) .leaf)) (.seq (.seq .leaf (.cond (.seq .leaf .leaf) .leaf)) (.seq .leaf (.seq .leaf (.seq .leaf (.seq (.seq (.reg [(3, none), (5, some (3267, [(75, .bool)])), (1, none), (4, some (1219, [(80, .bool)]))]) (.cond (.seq .leaf .leaf) .leaf)) (.seq .leaf (.seq .leaf (.seq .leaf (.seq .leaf (.seq (.seq .leaf (.cond (.seq .leaf .leaf) .leaf)) (.seq (.seq .leaf (.cond (.seq .leaf .leaf) .leaf)) (.seq .leaf (.seq (.seq (.reg [(5, none), (4, some (9216, [(108, .bool)]))]) (.cond (.seq .leaf .leaf) .leaf)) (.seq .leaf (.seq .leaf (.seq (.seq .leaf (.cond (.seq .leaf .leaf) .leaf)) (.seq (.seq .leaf (.cond (.seq .leaf .leaf) .leaf)) (.seq .leaf .leaf)))))))))))))))))))))))))))))
def W6 (a0 : Sl) (a1 : Sl) (w : World) (K : Value → World → Prop) : Prop :=
  BIf (decide ((((a0.len : Nat) : Int) : Int) > 1048576)) (K (.bool true) w) (CallW Try.prog 28 #[.slice a1.a a1.len a1.cap, .int .i64 1048576] w fun v1 w2 => ∃ n3 : Int, v1 = .int .i64 n3 ∧ BIf (decide ((n3 : Int) < 0)) (K (.bool true) w2) (CallW Try.prog 30 #[.slice a0.a a0.len a0.cap] w2 fun v4 w5 => ∃ l6 : Sl, v4 = .slice l6.a l6.len l6.cap ∧ CallW Try.prog 31 #[.slice a1.a a1.len a1.cap] w5 fun v7 w8 => ∃ l9 : Sl, v7 = .slice l9.a l9.len l9.cap ∧ CallW Try.prog 29 #[.slice l6.a l6.len l6.cap, .slice l9.a l9.len l9.cap] w8 fun v10 w11 => ∃ l12 : Sl, ∃ n13 : Int, v10 = .tuple #[.slice l12.a l12.len l12.cap, .int .i64 n13] ∧ CallW Try.prog 30 #[.slice a0.a a0.len a0.cap] w11 fun v14 w15 => ∃ l16 : Sl, v14 = .slice l16.a l16.len l16.cap ∧ CallW Try.prog 31 #[.slice a1.a a1.len a1.cap] w15 fun v17 w18 => ∃ l19 : Sl, v17 = .slice l19.a l19.len l19.cap ∧ CallW Try.prog 32 #[.slice l16.a l16.len l16.cap, .slice l19.a l19.len l19.cap] w18 fun v20 w21 => ∃ l22 : Sl, ∃ n23 : Int, v20 = .tuple #[.slice l22.a l22.len l22.cap, .int .i64 n23] ∧ CallW Try.prog 33 #[.slice l22.a l22.len l22.cap, .slice l12.a l12.len l12.cap] w21 fun v24 w25 => ∃ b26 : Bool, v24 = .bool b26 ∧ JoinW [.bool] (fun J28 => BIf (!b26) (J28 true w25) (J28 ((n23 : Int) != n13) w25)) (fun (b27 : Bool) w29 => BIf b27 (K (.bool false) w29) (CallW Try.prog 30 #[.slice a0.a a0.len a0.cap] w29 fun v30 w31 => ∃ l32 : Sl, v30 = .slice l32.a l32.len l32.cap ∧ CallW Try.prog 34 #[.slice l16.a l16.len l16.cap, .slice l32.a l32.len l32.cap] w31 fun v33 w34 => ∃ b35 : Bool, v33 = .bool b35 ∧ BIf (!b35) (K (.bool false) w34) (CallW Try.prog 31 #[.slice a1.a a1.len a1.cap] w34 fun v36 w37 => ∃ l38 : Sl, v36 = .slice l38.a l38.len l38.cap ∧ CallW Try.prog 33 #[.slice l19.a l19.len l19.cap, .slice l38.a l38.len l38.cap] w37 fun v39 w40 => ∃ b41 : Bool, v39 = .bool b41 ∧ BIf (!b41) (K (.bool false) w40) (CallW Try.prog 35 #[.slice l16.a l16.len l16.cap, .int .i64 1] w40 fun v42 w43 => ∃ n44 : Int, v42 = .int .i64 n44 ∧ CallW Try.prog 36 #[.slice l19.a l19.len l19.cap, .int .i64 n44] w43 fun v45 w46 => ∃ n47 : Int, v45 = .int .i64 n47 ∧ JoinW [.bool] (fun J49 => BIf (decide ((n47 : Int) < 0)) (J49 true w46) (CallW Try.prog 33 #[.slice l22.a l22.len l22.cap, .slice l12.a l12.len l12.cap] w46 fun v79 w80 => ∃ b81 : Bool, v79 = .bool b81 ∧ J49 (!b81) w80)) (fun (b48 : Bool) w50 => JoinW [.bool] (fun J52 => BIf b48 (J52 true w50) (J52 ((n23 : Int) != n13) w50)) (fun (b51 : Bool) w53 => BIf b51 (K (.bool false) w53) (CallW Try.prog 36 #[.slice l22.a l22.len l22.cap, .int .i64 1] w53 fun v54 w55 => ∃ n56 : Int, v54 = .int .i64 n56 ∧ CallW Try.prog 37 #[.slice l22.a l22.len l22.cap, .int .i64 1] w55 fun v57 w58 => ∃ n59 : Int, v57 = .int .i64 n59 ∧ BIf (decide ((n59 : Int) < 0)) (K (.bool false) w58) (BIf ((n59 : Int) != n56) (K (.bool false) w58) (CallW Try.prog 30 #[.slice a0.a a0.len a0.cap] w58 fun v60 w61 => ∃ l62 : Sl, v60 = .slice l62.a l62.len l62.cap ∧ CallW Try.prog 31 #[.slice a1.a a1.len a1.cap] w61 fun v63 w64 => ∃ l65 : Sl, v63 = .slice l65.a l65.len l65.cap ∧ CallW Try.prog 32 #[.slice l62.a l62.len l62.cap, .slice l65.a l65.len l65.cap] w64 fun v66 w67 => ∃ l68 : Sl, ∃ n69 : Int, v66 = .tuple #[.slice l68.a l68.len l68.cap, .int .i64 n69] ∧ CallW Try.prog 33 #[.slice l68.a l68.len l68.cap, .slice l12.a l12.len l12.cap] w67 fun v70 w71 => ∃ b72 : Bool, v70 = .bool b72 ∧ JoinW [.bool] (fun J74 => BIf (!b72) (J74 true w71) (J74 ((n69 : Int) != n13) w71)) (fun (b73 : Bool) w75 => BIf b73 (K (.bool false) w75) (CallW Try.prog 37 #[.slice l22.a l22.len l22.cap, .int .i64 1] w75 fun v76 w77 => ∃ n78 : Int, v76 = .int .i64 n78 ∧ BIf (decide ((n78 : Int) < 0)) (K (.bool false) w77) (BIf ((n78 : Int) != n56) (K (.bool false) w77) (K (.bool true) w77)))))))))))))))
theorem eq6 (a0 : Sl) (a1 : Sl) (w : World) (K : Value → World → Prop) : denFn Try.prog tt Try.f6 an6 [.slice a0.a a0.len a0.cap, .slice a1.a a1.len a1.cap] w K = W6 a0 a1 w K := by kernel_rfl
theorem ok6 : OkFn Try.prog 6 := ⟨Try.f6, Try.func6, by kernel_rfl, by kernel_rfl⟩
theorem go6 {a0 : Sl} {a1 : Sl} {w : World} {K : Value → World → Prop} (h : W6 a0 a1 w K) : CallW Try.prog 6 #[.slice a0.a a0.len a0.cap, .slice a1.a a1.len a1.cap] w K :=
  .inl ⟨ok6, denFn_sound tt_ok mix Try.func6 (by kernel_rfl) (eq6 a0 a1 w K ▸ h)⟩

/- loop.example/g00008/laws.FnExactJnlWrite -/
def an7 : Ann := (.seq .leaf (.seq (.seq .leaf (.cond (.seq .leaf .leaf) .leaf)) (.seq .leaf (.seq .leaf (.seq (.seq .leaf (.cond (.seq .leaf .leaf) .leaf)) (.seq .leaf (.seq .leaf (.seq .leaf (.seq .leaf (.seq (.seq (.reg [(5, none), (4, some (4035, [(51, .bool)]))]) (.cond (.seq .leaf .leaf) .leaf)) (.seq (.seq .leaf (.cond (.seq .leaf .leaf) .leaf)) (.seq (.seq .leaf (.cond (.seq .leaf .leaf) .leaf)) (.seq .leaf (.seq .leaf (.seq .leaf (.seq (.seq (.reg [(3, none), (5, some (3267, [(75, .bool)])), (1, none), (4, some (1219, [(80, .bool)]))]) (.cond (.seq .leaf .leaf) .leaf)) (.seq .leaf (.seq .leaf (.seq .leaf (.seq .leaf (.seq (.seq .leaf (.cond (.seq .leaf .leaf) .leaf)) (.seq (.seq .leaf (.cond (.seq .leaf .leaf) .leaf)) (.seq .leaf (.seq (.seq (.reg [(5, none), (4, some (9216, [(108, .bool)]))]) (.cond (.seq .leaf .leaf) .leaf)) (.seq .leaf (.seq .leaf (.seq (.seq .leaf (.cond (.seq .leaf .leaf) .leaf)) (.seq (.seq .leaf (.cond (.seq .leaf .leaf) .leaf)) (.seq .leaf .leaf)))))))))))))))))))))))))))))
def W7 (a0 : Sl) (a1 : Sl) (w : World) (K : Value → World → Prop) : Prop :=
  BIf (decide ((((a0.len : Nat) : Int) : Int) > 1048576)) (K (.bool true) w) (CallW Try.prog 28 #[.slice a1.a a1.len a1.cap, .int .i64 1048576] w fun v1 w2 => ∃ n3 : Int, v1 = .int .i64 n3 ∧ BIf (decide ((n3 : Int) < 0)) (K (.bool true) w2) (CallW Try.prog 30 #[.slice a0.a a0.len a0.cap] w2 fun v4 w5 => ∃ l6 : Sl, v4 = .slice l6.a l6.len l6.cap ∧ CallW Try.prog 31 #[.slice a1.a a1.len a1.cap] w5 fun v7 w8 => ∃ l9 : Sl, v7 = .slice l9.a l9.len l9.cap ∧ CallW Try.prog 38 #[.slice l6.a l6.len l6.cap, .slice l9.a l9.len l9.cap] w8 fun v10 w11 => ∃ l12 : Sl, ∃ n13 : Int, v10 = .tuple #[.slice l12.a l12.len l12.cap, .int .i64 n13] ∧ CallW Try.prog 30 #[.slice a0.a a0.len a0.cap] w11 fun v14 w15 => ∃ l16 : Sl, v14 = .slice l16.a l16.len l16.cap ∧ CallW Try.prog 31 #[.slice a1.a a1.len a1.cap] w15 fun v17 w18 => ∃ l19 : Sl, v17 = .slice l19.a l19.len l19.cap ∧ CallW Try.prog 39 #[.slice l16.a l16.len l16.cap, .slice l19.a l19.len l19.cap] w18 fun v20 w21 => ∃ l22 : Sl, ∃ n23 : Int, v20 = .tuple #[.slice l22.a l22.len l22.cap, .int .i64 n23] ∧ CallW Try.prog 34 #[.slice l22.a l22.len l22.cap, .slice l12.a l12.len l12.cap] w21 fun v24 w25 => ∃ b26 : Bool, v24 = .bool b26 ∧ JoinW [.bool] (fun J28 => BIf (!b26) (J28 true w25) (J28 ((n23 : Int) != n13) w25)) (fun (b27 : Bool) w29 => BIf b27 (K (.bool false) w29) (CallW Try.prog 30 #[.slice a0.a a0.len a0.cap] w29 fun v30 w31 => ∃ l32 : Sl, v30 = .slice l32.a l32.len l32.cap ∧ CallW Try.prog 34 #[.slice l16.a l16.len l16.cap, .slice l32.a l32.len l32.cap] w31 fun v33 w34 => ∃ b35 : Bool, v33 = .bool b35 ∧ BIf (!b35) (K (.bool false) w34) (CallW Try.prog 31 #[.slice a1.a a1.len a1.cap] w34 fun v36 w37 => ∃ l38 : Sl, v36 = .slice l38.a l38.len l38.cap ∧ CallW Try.prog 33 #[.slice l19.a l19.len l19.cap, .slice l38.a l38.len l38.cap] w37 fun v39 w40 => ∃ b41 : Bool, v39 = .bool b41 ∧ BIf (!b41) (K (.bool false) w40) (CallW Try.prog 35 #[.slice l16.a l16.len l16.cap, .int .i64 1] w40 fun v42 w43 => ∃ n44 : Int, v42 = .int .i64 n44 ∧ CallW Try.prog 36 #[.slice l19.a l19.len l19.cap, .int .i64 n44] w43 fun v45 w46 => ∃ n47 : Int, v45 = .int .i64 n47 ∧ JoinW [.bool] (fun J49 => BIf (decide ((n47 : Int) < 0)) (J49 true w46) (CallW Try.prog 34 #[.slice l22.a l22.len l22.cap, .slice l12.a l12.len l12.cap] w46 fun v79 w80 => ∃ b81 : Bool, v79 = .bool b81 ∧ J49 (!b81) w80)) (fun (b48 : Bool) w50 => JoinW [.bool] (fun J52 => BIf b48 (J52 true w50) (J52 ((n23 : Int) != n13) w50)) (fun (b51 : Bool) w53 => BIf b51 (K (.bool false) w53) (CallW Try.prog 35 #[.slice l22.a l22.len l22.cap, .int .i64 1] w53 fun v54 w55 => ∃ n56 : Int, v54 = .int .i64 n56 ∧ CallW Try.prog 40 #[.slice l22.a l22.len l22.cap, .int .i64 1] w55 fun v57 w58 => ∃ n59 : Int, v57 = .int .i64 n59 ∧ BIf (decide ((n59 : Int) < 0)) (K (.bool false) w58) (BIf ((n59 : Int) != n56) (K (.bool false) w58) (CallW Try.prog 30 #[.slice a0.a a0.len a0.cap] w58 fun v60 w61 => ∃ l62 : Sl, v60 = .slice l62.a l62.len l62.cap ∧ CallW Try.prog 31 #[.slice a1.a a1.len a1.cap] w61 fun v63 w64 => ∃ l65 : Sl, v63 = .slice l65.a l65.len l65.cap ∧ CallW Try.prog 39 #[.slice l62.a l62.len l62.cap, .slice l65.a l65.len l65.cap] w64 fun v66 w67 => ∃ l68 : Sl, ∃ n69 : Int, v66 = .tuple #[.slice l68.a l68.len l68.cap, .int .i64 n69] ∧ CallW Try.prog 34 #[.slice l68.a l68.len l68.cap, .slice l12.a l12.len l12.cap] w67 fun v70 w71 => ∃ b72 : Bool, v70 = .bool b72 ∧ JoinW [.bool] (fun J74 => BIf (!b72) (J74 true w71) (J74 ((n69 : Int) != n13) w71)) (fun (b73 : Bool) w75 => BIf b73 (K (.bool false) w75) (CallW Try.prog 40 #[.slice l22.a l22.len l22.cap, .int .i64 1] w75 fun v76 w77 => ∃ n78 : Int, v76 = .int .i64 n78 ∧ BIf (decide ((n78 : Int) < 0)) (K (.bool false) w77) (BIf ((n78 : Int) != n56) (K (.bool false) w77) (K (.bool true) w77)))))))))))))))
theorem eq7 (a0 : Sl) (a1 : Sl) (w : World) (K : Value → World → Prop) : denFn Try.prog tt Try.f7 an7 [.slice a0.a a0.len a0.cap, .slice a1.a a1.len a1.cap] w K = W7 a0 a1 w K := by kernel_rfl
theorem ok7 : OkFn Try.prog 7 := ⟨Try.f7, Try.func7, by kernel_rfl, by kernel_rfl⟩
theorem go7 {a0 : Sl} {a1 : Sl} {w : World} {K : Value → World → Prop} (h : W7 a0 a1 w K) : CallW Try.prog 7 #[.slice a0.a a0.len a0.cap, .slice a1.a a1.len a1.cap] w K :=
  .inl ⟨ok7, denFn_sound tt_ok mix Try.func7 (by kernel_rfl) (eq7 a0 a1 w K ▸ h)⟩

/- loop.example/g00008/laws.szDiskWriteS -/
def an28 : Ann := (.seq .leaf (.seq .leaf (.seq (.seq .leaf (.cond (.seq .leaf .leaf) .leaf)) (.seq (.seq .leaf (.in_ (.loop 1 [(1, .int .i64), (5, .int .i64)] (.seq (.seq .leaf (.cond .leaf .leaf)) (.seq (.in_ (.seq .leaf (.seq .leaf (.cond (.seq .leaf .leaf) .leaf)))) .leaf))))) (.seq .leaf .leaf)))))
def W28 (a0 : Sl) (a1 : Int) (w : World) (K : Value → World → Prop) : Prop :=
  BIf (decide ((IntKind.wrap .i64 (a1 - ((a0.len : Nat) : Int)) : Int) < 0)) (K (.int .i64 (-1)) w) (LoopW [.int .i64, .int .i64] (fun J3 => fun (n1 : Int) (n2 : Int) w4 => BIf (decide ((n2 : Int) < ((a0.len : Nat) : Int))) (0 ≤ (n2 : Int) ∧ (n2 : Int) < ((a0.len : Nat) : Int) ∧ ∃ q5 : Addr, (a0.a : Option Addr) = some q5 ∧ ∃ n6 : Int, w4.cell? ((q5.add (Int.toNat n2 * 2)).add 0) = some (.int .i64 n6) ∧ ∃ l7 : Sl, w4.cell? ((q5.add (Int.toNat n2 * 2)).add 1) = some (.slice l7.a l7.len l7.cap) ∧ CallW Try.prog 85 #[.agg #[.int .i64 n6, .slice l7.a l7.len l7.cap], .int .i64 n1] w4 fun v8 w9 => ∃ n10 : Int, v8 = .int .i64 n10 ∧ BIf (decide ((n10 : Int) < 0)) (K (.int .i64 (-1)) w9) (J3 n10 (IntKind.wrap .i64 (n2 + 1)) w9)) (K (.int .i64 n1) w4)) ((IntKind.wrap .i64 (a1 - ((a0.len : Nat) : Int)) : Int), ((0 : Int), ())) w)
theorem eq28 (a0 : Sl) (a1 : Int) (w : World) (K : Value → World → Prop) : denFn Try.prog tt Try.f28 an28 [.slice a0.a a0.len a0.cap, .int .i64 a1] w K = W28 a0 a1 w K := by kernel_rfl
theorem ok28 : OkFn Try.prog 28 := ⟨Try.f28, Try.func28, by kernel_rfl, by kernel_rfl⟩
theorem go28 {a0 : Sl} {a1 : Int} {w : World} {K : Value → World → Prop} (h : W28 a0 a1 w K) : CallW Try.prog 28 #[.slice a0.a a0.len a0.cap, .int .i64 a1] w K :=
  .inl ⟨ok28, denFn_sound tt_ok mix Try.func28 (by kernel_rfl) (eq28 a0 a1 w K ▸ h)⟩

/- loop.example/g00008/spec.JnlPlan -/
def an29 : Ann := (.seq .leaf (.seq .leaf (.seq .leaf (.seq (.seq (.reg [(4, none), (4, some (195, [(24, .bool)])), (1, none), (4, some (195, [(29, .bool)]))]) (.cond (.seq .leaf .leaf) .leaf)) (.seq .leaf (.seq .leaf (.seq (.seq .leaf (.in_ (.loop 195 [(8, .slice), (9, .slice), (10, .int .i64)] (.seq (.seq .leaf (.cond .leaf .leaf)) (.seq (.in_ (.seq .leaf (.seq (.join 4035 [(73, .bool)] (.draw [0, 1, 3, 7, 15, 15, 47, 127, 255, 511, 1023, 2047, 4095, 8191, 16383, 32767, 65535, 131071, 262143, 524287, 1048575, 1048575, 3145727, 8388607, 16777215, 33554431, 1048575, 68157439, 268435455, 536870911, 1073741823] [0, 1, 2, 3, 4, 5, 6, 7, 8, 9, 10, 11, 12, 13, 14, 15, 16, 17, 18, 19, 20, 21, 22, 23, 24, 25, 26, 27, 28, 29, 30]) (.cond (.seq .leaf .leaf) .leaf)) (.seq .leaf (.seq .leaf .leaf))))) .leaf))))) (.seq .leaf (.seq .leaf (.seq (.draw [0, 0, 2, 6, 0, 16, 62, 126, 255, 511] [0, 1, 2, 4, 5, 3, 6, 7, 8, 9]) (.seq .leaf (.seq (.seq .leaf (.in_ (.loop 66 [(9, .slice), (13, .int .i64)] (.seq (.seq .leaf (.cond .leaf .leaf)) (.seq (.in_ (.draw [0, 0, 0, 6, 14, 30, 0, 0, 192, 448, 960, 2046, 4094, 8191, 16383] [0, 1, 2, 3, 4, 5, 6, 7, 8, 9, 10, 11, 12, 13, 14])) .leaf))))) (.seq .leaf .leaf)))))))))))))
def W29 (a0 : Sl) (a1 : Sl) (w : World) (K : Value → World → Prop) : Prop :=
  CallW Try.prog 86 #[.slice a0.a a0.len a0.cap] w fun v1 w2 => ∃ n3 : Int, ∃ n4 : Int, ∃ l5 : Sl, v1 = .agg #[.int .i64 n3, .int .u64 n4, .slice l5.a l5.len l5.cap] ∧ LetW (w2.alloc (.cells #[.int .i64 0, .int .u64 0, .slice none 0 0] 126)) fun w6 => MayN w6 ⟨w2.heap.size, 0, none⟩ 3 ∧ LetW (puts w6 ⟨w2.heap.size, 0, none⟩ 0 [.int .i64 n3, .int .u64 n4, .slice l5.a l5.len l5.cap]) fun w7 => LetW (w7.alloc (.cells #[] 128)) fun w8 => ∃ n9 : Int, w8.cell? ⟨w2.heap.size, 0, none⟩ = some (.int .i64 n9) ∧ JoinW [.bool] (fun J11 => BIf ((n9 : Int) != 1) (J11 true w8) (J11 ((((a1.len : Nat) : Int) : Int) == 0) w8)) (fun (b10 : Bool) w12 => JoinW [.bool] (fun J14 => BIf b10 (J14 true w12) (J14 (decide ((((a1.len : Nat) : Int) : Int) > 16)) w12)) (fun (b13 : Bool) w15 => BIf b13 (K (.tuple #[.slice (some ⟨w7.heap.size, 0, none⟩) 0 0, .int .i64 1]) w15) (LetW (w15.alloc (.cells #[] 5)) fun w16 => LetW (w16.alloc (.cells #[] 128)) fun w17 => LoopW [.slice, .slice, .int .i64] (fun J21 => fun (l18 : Sl) (l19 : Sl) (n20 : Int) w22 => BIf (decide ((n20 : Int) < ((a1.len : Nat) : Int))) (0 ≤ (n20 : Int) ∧ (n20 : Int) < ((a1.len : Nat) : Int) ∧ ∃ q23 : Addr, (a1.a : Option Addr) = some q23 ∧ ∃ n24 : Int, w22.cell? ((q23.add (Int.toNat n20 * 2)).add 0) = some (.int .i64 n24) ∧ ∃ l25 : Sl, w22.cell? ((q23.add (Int.toNat n20 * 2)).add 1) = some (.slice l25.a l25.len l25.cap) ∧ LetW (w22.alloc (.cells #[.int .i64 0, .slice none 0 0] 128)) fun w26 => MayN w26 ⟨w22.heap.size, 0, none⟩ 2 ∧ LetW (puts w26 ⟨w22.heap.size, 0, none⟩ 0 [.int .i64 n24, .slice l25.a l25.len l25.cap]) fun w27 => JoinW [.bool] (fun J29 => ∃ n54 : Int, w27.drew.cell? ⟨w22.heap.size, 0, none⟩ = some (.int .i64 n54) ∧ BIf (decide ((n54 : Int) < 20)) (J29 true w27.drew) (∃ n55 : Int, w27.drew.cell? ⟨w22.heap.size, 0, none⟩ = some (.int .i64 n55) ∧ CallW Try.prog 87 #[.slice a0.a a0.len a0.cap, .int .i64 n55] w27.drew fun v56 w57 => ∃ b58 : Bool, v56 = .bool b58 ∧ BIf (!b58) (J29 true w57) (∃ l59 : Sl, w57.cell? ⟨w22.heap.size, 1, none⟩ = some (.slice l59.a l59.len l59.cap) ∧ BIf ((((l59.len : Nat) : Int) : Int) != 128) (J29 true w57) (BIf (decide ((n20 : Int) > 0)) (0 ≤ (IntKind.wrap .i64 (n20 - 1) : Int) ∧ (IntKind.wrap .i64 (n20 - 1) : Int) < ((a1.len : Nat) : Int) ∧ ∃ q60 : Addr, (a1.a : Option Addr) = some q60 ∧ ∃ n61 : Int, w57.cell? ((q60.add (Int.toNat (IntKind.wrap .i64 (n20 - 1)) * 2)).add 0) = some (.int .i64 n61) ∧ ∃ n62 : Int, w57.cell? ⟨w22.heap.size, 0, none⟩ = some (.int .i64 n62) ∧ J29 (decide ((n61 : Int) ≥ n62)) w57) (J29 false w57))))) (fun (b28 : Bool) w30 => BIf b28 (K (.tuple #[.slice (some ⟨w7.heap.size, 0, none⟩) 0 0, .int .i64 1]) w30) (∃ n31 : Int, w30.cell? ⟨w22.heap.size, 0, none⟩ = some (.int .i64 n31) ∧ CallW Try.prog 88 #[.int .u64 (IntKind.wrap .u64 n31)] w30 fun v32 w33 => ∃ l34 : Sl, v32 = .slice l34.a l34.len l34.cap ∧ AppendW 5 ti5 l18 l34 w33 fun l35 w36 => ∃ l37 : Sl, w36.cell? ⟨w22.heap.size, 1, none⟩ = some (.slice l37.a l37.len l37.cap) ∧ CallW Try.prog 82 #[.slice l37.a l37.len l37.cap] w36 fun v38 w39 => ∃ n40 : Int, v38 = .int .u64 n40 ∧ CallW Try.prog 88 #[.int .u64 n40] w39 fun v41 w42 => ∃ l43 : Sl, v41 = .slice l43.a l43.len l43.cap ∧ AppendW 5 ti5 l35 l43 w42 fun l44 w45 => ∃ l46 : Sl, w45.cell? ⟨w22.heap.size, 1, none⟩ = some (.slice l46.a l46.len l46.cap) ∧ CallW Try.prog 89 #[.int .i64 (IntKind.wrap .i64 (3 + n20)), .slice l46.a l46.len l46.cap] w45 fun v47 w48 => ∃ n49 : Int, ∃ l50 : Sl, v47 = .agg #[.int .i64 n49, .slice l50.a l50.len l50.cap] ∧ LetW (w48.alloc (.cells #[.int .i64 n49, .slice l50.a l50.len l50.cap] 128)) fun w51 => AppendW 128 ti128 l19 ⟨some ⟨w48.heap.size, 0, none⟩, 1, 1⟩ w51 fun l52 w53 => J21 l44 l52 (IntKind.wrap .i64 (n20 + 1)) w53))) (CallW Try.prog 82 #[.slice l18.a l18.len l18.cap] w22 fun v63 w64 => ∃ n65 : Int, v63 = .int .u64 n65 ∧ AppendZW 5 ti5 l18 (IntKind.wrap .i64 (256 - ((l18.len : Nat) : Int))) w64 fun l66 w67 => 0 ≤ (128 : Int) ∧ (128 : Int) ≤ ((l66.cap : Nat) : Int) ∧ 0 ≤ (128 : Int) ∧ (128 : Int) ≤ ((l66.len : Nat) : Int) ∧ CallW Try.prog 89 #[.int .i64 1, .slice (cutA l66.a l66.cap (Int.toNat 0) 1) (Int.toNat 128 - Int.toNat 0) (l66.cap - Int.toNat 0)] w67.drew fun v68 w69 => ∃ n70 : Int, ∃ l71 : Sl, v68 = .agg #[.int .i64 n70, .slice l71.a l71.len l71.cap] ∧ CallW Try.prog 89 #[.int .i64 2, .slice (cutA l66.a l66.cap (Int.toNat 128) 1) (Int.toNat ((l66.len : Nat) : Int) - Int.toNat 128) (l66.cap - Int.toNat 128)] w69 fun v72 w73 => ∃ n74 : Int, ∃ l75 : Sl, v72 = .agg #[.int .i64 n74, .slice l75.a l75.len l75.cap] ∧ LetW (w73.alloc (.cells #[.int .i64 n70, .slice l71.a l71.len l71.cap, .int .i64 n74, .slice l75.a l75.len l75.cap] 128)) fun w76 => AppendW 128 ti128 l19 ⟨some ⟨w73.heap.size, 0, none⟩, 2, 2⟩ w76 fun l77 w78 => ∃ n79 : Int, w78.cell? ⟨w2.heap.size, 1, none⟩ = some (.int .u64 n79) ∧ CallW Try.prog 90 #[.int .u64 (IntKind.wrap .u64 (n79 + 1)), .int .i64 ((a1.len : Nat) : Int), .int .u64 n65] w78 fun v80 w81 => ∃ l82 : Sl, v80 = .slice l82.a l82.len l82.cap ∧ CallW Try.prog 89 #[.int .i64 0, .slice l82.a l82.len l82.cap] w81 fun v83 w84 => ∃ n85 : Int, ∃ l86 : Sl, v83 = .agg #[.int .i64 n85, .slice l86.a l86.len l86.cap] ∧ LetW (w84.alloc (.cells #[.int .i64 n85, .slice l86.a l86.len l86.cap] 128)) fun w87 => AppendW 128 ti128 l77 ⟨some ⟨w84.heap.size, 0, none⟩, 1, 1⟩ w87 fun l88 w89 => LoopW [.slice, .int .i64] (fun J92 => fun (l90 : Sl) (n91 : Int) w93 => BIf (decide ((n91 : Int) < ((a1.len : Nat) : Int))) (0 ≤ (n91 : Int) ∧ (n91 : Int) < ((a1.len : Nat) : Int) ∧ ∃ q94 : Addr, (a1.a : Option Addr) = some q94 ∧ ∃ n95 : Int, w93.drew.cell? ((q94.add (Int.toNat n91 * 2)).add 0) = some (.int .i64 n95) ∧ 0 ≤ (n91 : Int) ∧ (n91 : Int) < ((a1.len : Nat) : Int) ∧ ∃ q96 : Addr, (a1.a : Option Addr) = some q96 ∧ ∃ l97 : Sl, w93.drew.cell? ((q96.add (Int.toNat n91 * 2)).add 1) = some (.slice l97.a l97.len l97.cap) ∧ CallW Try.prog 89 #[.int .i64 n95, .slice l97.a l97.len l97.cap] w93.drew fun v98 w99 => ∃ n100 : Int, ∃ l101 : Sl, v98 = .agg #[.int .i64 n100, .slice l101.a l101.len l101.cap] ∧ LetW (w99.alloc (.cells #[.int .i64 n100, .slice l101.a l101.len l101.cap] 128)) fun w102 => AppendW 128 ti128 l90 ⟨some ⟨w99.heap.size, 0, none⟩, 1, 1⟩ w102 fun l103 w104 => J92 l103 (IntKind.wrap .i64 (n91 + 1)) w104) (∃ n105 : Int, w93.cell? ⟨w2.heap.size, 1, none⟩ = some (.int .u64 n105) ∧ CallW Try.prog 91 #[.int .u64 (IntKind.wrap .u64 (n105 + 1))] w93 fun v106 w107 => ∃ n108 : Int, ∃ l109 : Sl, v106 = .agg #[.int .i64 n108, .slice l109.a l109.len l109.cap] ∧ LetW (w107.alloc (.cells #[.int .i64 n108, .slice l109.a l109.len l109.cap] 128)) fun w110 => AppendW 128 ti128 l90 ⟨some ⟨w107.heap.size, 0, none⟩, 1, 1⟩ w110 fun l111 w112 => K (.tuple #[.slice l111.a l111.len l111.cap, .int .i64 0]) w112)) ((l88 : Sl), ((0 : Int), ())) w89)) ((⟨some ⟨w15.heap.size, 0, none⟩, 0, 0⟩ : Sl), ((⟨some ⟨w16.heap.size, 0, none⟩, 0, 0⟩ : Sl), ((0 : Int), ()))) w17)))
theorem eq29 (a0 : Sl) (a1 : Sl) (w : World) (K : Value → World → Prop) : denFn Try.prog tt Try.f29 an29 [.slice a0.a a0.len a0.cap, .slice a1.a a1.len a1.cap] w K = W29 a0 a1 w K := by kernel_rfl
theorem ok29 : OkFn Try.prog 29 := ⟨Try.f29, Try.func29, by kernel_rfl, by kernel_rfl⟩
theorem go29 {a0 : Sl} {a1 : Sl} {w : World} {K : Value → World → Prop} (h : W29 a0 a1 w K) : CallW Try.prog 29 #[.slice a0.a a0.len a0.cap, .slice a1.a a1.len a1.cap] w K :=
  .inl ⟨ok29, denFn_sound tt_ok mix Try.func29 (by kernel_rfl) (eq29 a0 a1 w K ▸ h)⟩

/- loop.example/g00008/laws.toByteS -/
def an30 : Ann := (.seq .leaf (.seq .leaf (.seq (.seq .leaf (.in_ (.loop 9 [(4, .int .i64)] (.seq (.seq .leaf (.cond .leaf .leaf)) (.seq (.in_ .leaf) .leaf))))) (.seq .leaf .leaf))))
def W30 (a0 : Sl) (w : World) (K : Value → World → Prop) : Prop :=
  0 ≤ ((a0.len : Nat) : Int) ∧ ((a0.len : Nat) : Int) ≤ ((a0.len : Nat) : Int) ∧ ((a0.len : Nat) : Int) * 1 ≤ (140737488355328 : Int) ∧ 0 < 1 ∧ LetW (w.alloc (.cells ⟨zerosOf ti5.zero (Int.toNat ((a0.len : Nat) : Int))⟩ 5)) fun w1 => LoopW [.int .i64] (fun J3 => fun (n2 : Int) w4 => BIf (decide ((n2 : Int) < ((a0.len : Nat) : Int))) (0 ≤ (n2 : Int) ∧ (n2 : Int) < ((a0.len : Nat) : Int) ∧ ∃ q5 : Addr, (a0.a : Option Addr) = some q5 ∧ ∃ n6 : Int, w4.cell? (q5.add (Int.toNat n2 * 1)) = some (.int .u8 n6) ∧ 0 ≤ (n2 : Int) ∧ (n2 : Int) < ((Int.toNat ((a0.len : Nat) : Int) : Nat) : Int) ∧ ∃ q7 : Addr, (some ⟨w.heap.size, 0, none⟩ : Option Addr) = some q7 ∧ May w4 (q7.add (Int.toNat n2 * 1)) ∧ LetW (w4.setCell (q7.add (Int.toNat n2 * 1)) (.int .u8 n6)) fun w8 => J3 (IntKind.wrap .i64 (n2 + 1)) w8) (K (.slice (some ⟨w.heap.size, 0, none⟩) (Int.toNat ((a0.len : Nat) : Int)) (Int.toNat ((a0.len : Nat) : Int))) w4)) ((0 : Int), ()) w1
theorem eq30 (a0 : Sl) (w : World) (K : Value → World → Prop) : denFn Try.prog tt Try.f30 an30 [.slice a0.a a0.len a0.cap] w K = W30 a0 w K := by kernel_rfl
theorem ok30 : OkFn Try.prog 30 := ⟨Try.f30, Try.func30, by kernel_rfl, by kernel_rfl⟩
theorem go30 {a0 : Sl} {w : World} {K : Value → World → Prop} (h : W30 a0 w K) : CallW Try.prog 30 #[.slice a0.a a0.len a0.cap] w K :=
  .inl ⟨ok30, denFn_sound tt_ok mix Try.func30 (by kernel_rfl) (eq30 a0 w K ▸ h)⟩

/- loop.example/g00008/laws.toDiskWriteS -/
def an31 : Ann := (.seq .leaf (.seq .leaf (.seq (.seq .leaf (.in_ (.loop 9 [(4, .int .i64)] (.seq (.seq .leaf (.cond .leaf .leaf)) (.seq (.in_ .leaf) .leaf))))) (.seq .leaf .leaf))))
def W31 (a0 : Sl) (w : World) (K : Value → World → Prop) : Prop :=
  0 ≤ ((a0.len : Nat) : Int) ∧ ((a0.len : Nat) : Int) ≤ ((a0.len : Nat) : Int) ∧ ((a0.len : Nat) : Int) * 32 ≤ (140737488355328 : Int) ∧ 0 < 32 ∧ LetW (w.alloc (.cells ⟨zerosOf ti128.zero (Int.toNat ((a0.len : Nat) : Int))⟩ 128)) fun w1 => LoopW [.int .i64] (fun J3 => fun (n2 : Int) w4 => BIf (decide ((n2 : Int) < ((a0.len : Nat) : Int))) (0 ≤ (n2 : Int) ∧ (n2 : Int) < ((a0.len : Nat) : Int) ∧ ∃ q5 : Addr, (a0.a : Option Addr) = some q5 ∧ ∃ n6 : Int, w4.cell? ((q5.add (Int.toNat n2 * 2)).add 0) = some (.int .i64 n6) ∧ ∃ l7 : Sl, w4.cell? ((q5.add (Int.toNat n2 * 2)).add 1) = some (.slice l7.a l7.len l7.cap) ∧ CallW Try.prog 92 #[.agg #[.int .i64 n6, .slice l7.a l7.len l7.cap]] w4 fun v8 w9 => ∃ n10 : Int, ∃ l11 : Sl, v8 = .agg #[.int .i64 n10, .slice l11.a l11.len l11.cap] ∧ 0 ≤ (n2 : Int) ∧ (n2 : Int) < ((Int.toNat ((a0.len : Nat) : Int) : Nat) : Int) ∧ ∃ q12 : Addr, (some ⟨w.heap.size, 0, none⟩ : Option Addr) = some q12 ∧ MayN w9 (q12.add (Int.toNat n2 * 2)) 2 ∧ LetW (puts w9 (q12.add (Int.toNat n2 * 2)) 0 [.int .i64 n10, .slice l11.a l11.len l11.cap]) fun w13 => J3 (IntKind.wrap .i64 (n2 + 1)) w13) (K (.slice (some ⟨w.heap.size, 0, none⟩) (Int.toNat ((a0.len : Nat) : Int)) (Int.toNat ((a0.len : Nat) : Int))) w4)) ((0 : Int), ()) w1
theorem eq31 (a0 : Sl) (w : World) (K : Value → World → Prop) : denFn Try.prog tt Try.f31 an31 [.slice a0.a a0.len a0.cap] w K = W31 a0 w K := by kernel_rfl
theorem ok31 : OkFn Try.prog 31 := ⟨Try.f31, Try.func31, by kernel_rfl, by kernel_rfl⟩
theorem go31 {a0 : Sl} {w : World} {K : Value → World → Prop} (h : W31 a0 w K) : CallW Try.prog 31 #[.slice a0.a a0.len a0.cap] w K :=
  .inl ⟨ok31, denFn_sound tt_ok mix Try.func31 (by kernel_rfl) (eq31 a0 w K ▸ h)⟩

/- loop.example/g00008/impl.JnlPlan -/
def an32 : Ann := (.seq .leaf (.seq .leaf (.seq (.seq (.reg [(4, none), (4, some (83, [(23, .bool)])), (1, none), (4, some (83, [(28, .bool)]))]) (.cond (.seq .leaf .leaf) .leaf)) (.seq .leaf (.seq .leaf (.seq .leaf (.seq (.seq .leaf (.in_ (.loop 3221225795 [(4, .slice), (7, .int .i64), (9, .slice), (32, .int .i64)] (.seq .leaf (.seq (.cond .leaf .leaf) (.seq (.in_ (.seq .leaf (.seq (.seq (.reg [(5, none), (7, some (7516196691, [(48, .bool)])), (1, none), (5, some (7516196691, [(54, .bool)]))]) (.cond (.seq .leaf .leaf) .leaf)) (.seq .leaf (.seq .leaf (.seq .leaf (.seq (.draw [0, 0, 2, 0, 8, 30, 62, 127, 255] [0, 1, 2, 3, 4, 5, 6, 7, 8]) (.seq .leaf .leaf)))))))) .leaf)))))) (.seq .leaf (.seq .leaf (.seq .leaf (.seq .leaf .leaf)))))))))))
def W32 (a0 : Sl) (a1 : Sl) (w : World) (K : Value → World → Prop) : Prop :=
  CallW Try.prog 93 #[.slice a0.a a0.len a0.cap] w fun v1 w2 => ∃ n3 : Int, ∃ n4 : Int, ∃ l5 : Sl, v1 = .agg #[.int .i64 n3, .int .u64 n4, .slice l5.a l5.len l5.cap] ∧ LetW (w2.alloc (.cells #[.int .i64 0, .int .u64 0, .slice none 0 0] 126)) fun w6 => MayN w6 ⟨w2.heap.size, 0, none⟩ 3 ∧ LetW (puts w6 ⟨w2.heap.size, 0, none⟩ 0 [.int .i64 n3, .int .u64 n4, .slice l5.a l5.len l5.cap]) fun w7 => ∃ n8 : Int, w7.cell? ⟨w2.heap.size, 0, none⟩ = some (.int .i64 n8) ∧ JoinW [.bool] (fun J10 => BIf ((n8 : Int) != 1) (J10 true w7) (J10 (decide ((((a1.len : Nat) : Int) : Int) < 1)) w7)) (fun (b9 : Bool) w11 => JoinW [.bool] (fun J13 => BIf b9 (J13 true w11) (J13 (decide ((((a1.len : Nat) : Int) : Int) > 16)) w11)) (fun (b12 : Bool) w14 => BIf b12 (K (.tuple #[.slice none 0 0, .int .i64 1]) w14) (0 ≤ (256 : Int) ∧ (256 : Int) ≤ (256 : Int) ∧ (256 : Int) * 1 ≤ (140737488355328 : Int) ∧ 0 < 1 ∧ LetW (w14.alloc (.cells ⟨zerosOf ti5.zero (Int.toNat 256)⟩ 5)) fun w15 => LoopW [.slice, .int .i64, .slice, .int .i64] (fun J20 => fun (l16 : Sl) (n17 : Int) (l18 : Sl) (n19 : Int) w21 => BIf (decide ((n19 : Int) < ((a1.len : Nat) : Int))) (0 ≤ (n19 : Int) ∧ (n19 : Int) < ((a1.len : Nat) : Int) ∧ ∃ q22 : Addr, (a1.a : Option Addr) = some q22 ∧ ∃ n23 : Int, w21.cell? ((q22.add (Int.toNat n19 * 2)).add 0) = some (.int .i64 n23) ∧ ∃ l24 : Sl, w21.cell? ((q22.add (Int.toNat n19 * 2)).add 1) = some (.slice l24.a l24.len l24.cap) ∧ LetW (w21.alloc (.cells #[.int .i64 0, .slice none 0 0] 128)) fun w25 => MayN w25 ⟨w21.heap.size, 0, none⟩ 2 ∧ LetW (puts w25 ⟨w21.heap.size, 0, none⟩ 0 [.int .i64 n23, .slice l24.a l24.len l24.cap]) fun w26 => ∃ n27 : Int, w26.cell? ⟨w21.heap.size, 0, none⟩ = some (.int .i64 n27) ∧ JoinW [.bool] (fun J29 => BIf (decide ((n27 : Int) ≤ n17)) (J29 true w26) (∃ n57 : Int, w26.cell? ⟨w21.heap.size, 0, none⟩ = some (.int .i64 n57) ∧ (128 : Int) ≠ 0 ∧ J29 (decide ((n57 : Int) ≥ (IntKind.wrap .i64 (Int.tdiv ((a0.len : Nat) : Int) 128)))) w26)) (fun (b28 : Bool) w30 => JoinW [.bool] (fun J32 => BIf b28 (J32 true w30) (∃ l56 : Sl, w30.cell? ⟨w21.heap.size, 1, none⟩ = some (.slice l56.a l56.len l56.cap) ∧ J32 ((((l56.len : Nat) : Int) : Int) != 128) w30)) (fun (b31 : Bool) w33 => BIf b31 (K (.tuple #[.slice none 0 0, .int .i64 1]) w33) (∃ n34 : Int, w33.cell? ⟨w21.heap.size, 0, none⟩ = some (.int .i64 n34) ∧ ∃ l35 : Sl, w33.cell? ⟨w21.heap.size, 1, none⟩ = some (.slice l35.a l35.len l35.cap) ∧ AppendW 5 ti5 ⟨none, 0, 0⟩ l35 w33 fun l36 w37 => LetW (w37.alloc (.cells #[.int .i64 (IntKind.wrap .i64 (3 + n19)), .slice l36.a l36.len l36.cap] 128)) fun w38 => AppendW 128 ti128 l16 ⟨some ⟨w37.heap.size, 0, none⟩, 1, 1⟩ w38 fun l39 w40 => ∃ n41 : Int, w40.drew.cell? ⟨w21.heap.size, 0, none⟩ = some (.int .i64 n41) ∧ AppendW 5 ti5 ⟨none, 0, 0⟩ l36 w40.drew fun l42 w43 => (∃ n44 : Int, w43.cell? ⟨w21.heap.size, 0, none⟩ = some (.int .i64 n44) ∧ (.int .i64 n44 : Value) = (.int .i64 n41 : Value)) ∧ LetW (w43.alloc (.cells #[.int .i64 n41, .slice l42.a l42.len l42.cap] 128)) fun w45 => AppendW 128 ti128 l18 ⟨some ⟨w43.heap.size, 0, none⟩, 1, 1⟩ w45 fun l46 w47 => ∃ n48 : Int, w47.cell? ⟨w21.heap.size, 0, none⟩ = some (.int .i64 n48) ∧ CallW Try.prog 94 #[.slice (some ⟨w14.heap.size, 0, none⟩) (Int.toNat 256) (Int.toNat 256), .int .i64 (IntKind.wrap .i64 (16 * n19)), .int .u64 (IntKind.wrap .u64 n48)] w47 fun v49 w50 => v49 = .tuple #[] ∧ CallW Try.prog 70 #[.slice l36.a l36.len l36.cap] w50 fun v51 w52 => ∃ n53 : Int, v51 = .int .u64 n53 ∧ CallW Try.prog 94 #[.slice (some ⟨w14.heap.size, 0, none⟩) (Int.toNat 256) (Int.toNat 256), .int .i64 (IntKind.wrap .i64 ((IntKind.wrap .i64 (16 * n19)) + 8)), .int .u64 n53] w52 fun v54 w55 => v54 = .tuple #[] ∧ J20 l39 n34 l46 (IntKind.wrap .i64 (n19 + 1)) w55)))) (∃ n58 : Int, w21.cell? ⟨w2.heap.size, 1, none⟩ = some (.int .u64 n58) ∧ CallW Try.prog 95 #[.slice (some ⟨w14.heap.size, 0, none⟩) (Int.toNat 256) (Int.toNat 256), .int .i64 0] w21 fun v59 w60 => ∃ l61 : Sl, v59 = .slice l61.a l61.len l61.cap ∧ CallW Try.prog 95 #[.slice (some ⟨w14.heap.size, 0, none⟩) (Int.toNat 256) (Int.toNat 256), .int .i64 1] w60 fun v62 w63 => ∃ l64 : Sl, v62 = .slice l64.a l64.len l64.cap ∧ CallW Try.prog 96 #[.int .u64 (IntKind.wrap .u64 (n58 + 1)), .slice (some ⟨w14.heap.size, 0, none⟩) (Int.toNat 256) (Int.toNat 256), .int .i64 ((a1.len : Nat) : Int)] w63 fun v65 w66 => ∃ l67 : Sl, v65 = .slice l67.a l67.len l67.cap ∧ LetW (w66.alloc (.cells #[.int .i64 1, .slice l61.a l61.len l61.cap, .int .i64 2, .slice l64.a l64.len l64.cap, .int .i64 0, .slice l67.a l67.len l67.cap] 128)) fun w68 => AppendW 128 ti128 l16 ⟨some ⟨w66.heap.size, 0, none⟩, 3, 3⟩ w68 fun l69 w70 => AppendW 128 ti128 l69 l18 w70 fun l71 w72 => CallW Try.prog 96 #[.int .u64 (IntKind.wrap .u64 (n58 + 1)), .slice none 0 0, .int .i64 0] w72 fun v73 w74 => ∃ l75 : Sl, v73 = .slice l75.a l75.len l75.cap ∧ LetW (w74.alloc (.cells #[.int .i64 0, .slice l75.a l75.len l75.cap] 128)) fun w76 => AppendW 128 ti128 l71 ⟨some ⟨w74.heap.size, 0, none⟩, 1, 1⟩ w76 fun l77 w78 => K (.tuple #[.slice l77.a l77.len l77.cap, .int .i64 0]) w78)) ((⟨none, 0, 0⟩ : Sl), ((19 : Int), ((⟨none, 0, 0⟩ : Sl), ((0 : Int), ())))) w15)))
theorem eq32 (a0 : Sl) (a1 : Sl) (w : World) (K : Value → World → Prop) : denFn Try.prog tt Try.f32 an32 [.slice a0.a a0.len a0.cap, .slice a1.a a1.len a1.cap] w K = W32 a0 a1 w K := by kernel_rfl
theorem ok32 : OkFn Try.prog 32 := ⟨Try.f32, Try.func32, by kernel_rfl, by kernel_rfl⟩
theorem go32 {a0 : Sl} {a1 : Sl} {w : World} {K : Value → World → Prop} (h : W32 a0 a1 w K) : CallW Try.prog 32 #[.slice a0.a a0.len a0.cap, .slice a1.a a1.len a1.cap] w K :=
  .inl ⟨ok32, denFn_sound tt_ok mix Try.func32 (by kernel_rfl) (eq32 a0 a1 w K ▸ h)⟩

/- loop.example/g00008/laws.eqDiskWriteS -/
def an33 : Ann := (.seq .leaf (.seq (.seq .leaf (.cond (.seq .leaf .leaf) .leaf)) (.seq (.seq .leaf (.in_ (.loop 3 [(5, .int .i64)] (.seq (.seq .leaf (.cond .leaf .leaf)) (.seq (.in_ (.seq (.draw [0, 0, 3, 7, 0, 0, 48, 112, 255, 511] [0, 1, 2, 3, 4, 5, 6, 7, 8, 9]) (.cond (.seq .leaf .leaf) .leaf))) .leaf))))) (.seq .leaf .leaf))))
def W33 (a0 : Sl) (a1 : Sl) (w : World) (K : Value → World → Prop) : Prop :=
  BIf ((((a0.len : Nat) : Int) : Int) != ((a1.len : Nat) : Int)) (K (.bool false) w) (LoopW [.int .i64] (fun J2 => fun (n1 : Int) w3 => BIf (decide ((n1 : Int) < ((a0.len : Nat) : Int))) (0 ≤ (n1 : Int) ∧ (n1 : Int) < ((a0.len : Nat) : Int) ∧ ∃ q4 : Addr, (a0.a : Option Addr) = some q4 ∧ ∃ n5 : Int, w3.drew.cell? ((q4.add (Int.toNat n1 * 2)).add 0) = some (.int .i64 n5) ∧ ∃ l6 : Sl, w3.drew.cell? ((q4.add (Int.toNat n1 * 2)).add 1) = some (.slice l6.a l6.len l6.cap) ∧ 0 ≤ (n1 : Int) ∧ (n1 : Int) < ((a1.len : Nat) : Int) ∧ ∃ q7 : Addr, (a1.a : Option Addr) = some q7 ∧ ∃ n8 : Int, w3.drew.cell? ((q7.add (Int.toNat n1 * 2)).add 0) = some (.int .i64 n8) ∧ ∃ l9 : Sl, w3.drew.cell? ((q7.add (Int.toNat n1 * 2)).add 1) = some (.slice l9.a l9.len l9.cap) ∧ CallW Try.prog 97 #[.agg #[.int .i64 n5, .slice l6.a l6.len l6.cap], .agg #[.int .i64 n8, .slice l9.a l9.len l9.cap]] w3.drew fun v10 w11 => ∃ b12 : Bool, v10 = .bool b12 ∧ BIf (!b12) (K (.bool false) w11) (J2 (IntKind.wrap .i64 (n1 + 1)) w11)) (K (.bool true) w3)) ((0 : Int), ()) w)
theorem eq33 (a0 : Sl) (a1 : Sl) (w : World) (K : Value → World → Prop) : denFn Try.prog tt Try.f33 an33 [.slice a0.a a0.len a0.cap, .slice a1.a a1.len a1.cap] w K = W33 a0 a1 w K := by kernel_rfl
theorem ok33 : OkFn Try.prog 33 := ⟨Try.f33, Try.func33, by kernel_rfl, by kernel_rfl⟩
theorem go33 {a0 : Sl} {a1 : Sl} {w : World} {K : Value → World → Prop} (h : W33 a0 a1 w K) : CallW Try.prog 33 #[.slice a0.a a0.len a0.cap, .slice a1.a a1.len a1.cap] w K :=
  .inl ⟨ok33, denFn_sound tt_ok mix Try.func33 (by kernel_rfl) (eq33 a0 a1 w K ▸ h)⟩

/- loop.example/g00008/laws.eqByteS -/
def an34 : Ann := (.seq .leaf (.seq (.seq .leaf (.cond (.seq .leaf .leaf) .leaf)) (.seq (.seq .leaf (.in_ (.loop 3 [(5, .int .i64)] (.seq (.seq .leaf (.cond .leaf .leaf)) (.seq (.in_ (.seq (.draw [0, 0, 3, 7, 0, 0, 48, 112, 255] [0, 1, 2, 3, 4, 5, 6, 7, 8]) (.cond (.seq .leaf .leaf) .leaf))) .leaf))))) (.seq .leaf .leaf))))
def W34 (a0 : Sl) (a1 : Sl) (w : World) (K : Value → World → Prop) : Prop :=
  BIf ((((a0.len : Nat) : Int) : Int) != ((a1.len : Nat) : Int)) (K (.bool false) w) (LoopW [.int .i64] (fun J2 => fun (n1 : Int) w3 => BIf (decide ((n1 : Int) < ((a0.len : Nat) : Int))) (0 ≤ (n1 : Int) ∧ (n1 : Int) < ((a0.len : Nat) : Int) ∧ ∃ q4 : Addr, (a0.a : Option Addr) = some q4 ∧ ∃ n5 : Int, w3.drew.cell? (q4.add (Int.toNat n1 * 1)) = some (.int .u8 n5) ∧ 0 ≤ (n1 : Int) ∧ (n1 : Int) < ((a1.len : Nat) : Int) ∧ ∃ q6 : Addr, (a1.a : Option Addr) = some q6 ∧ ∃ n7 : Int, w3.drew.cell? (q6.add (Int.toNat n1 * 1)) = some (.int .u8 n7) ∧ BIf ((n5 : Int) != n7) (K (.bool false) w3.drew) (J2 (IntKind.wrap .i64 (n1 + 1)) w3.drew)) (K (.bool true) w3)) ((0 : Int), ()) w)
theorem eq34 (a0 : Sl) (a1 : Sl) (w : World) (K : Value → World → Prop) : denFn Try.prog tt Try.f34 an34 [.slice a0.a a0.len a0.cap, .slice a1.a a1.len a1.cap] w K = W34 a0 a1 w K := by kernel_rfl
theorem ok34 : OkFn Try.prog 34 := ⟨Try.f34, Try.func34, by kernel_rfl, by kernel_rfl⟩
theorem go34 {a0 : Sl} {a1 : Sl} {w : World} {K : Value → World → Prop} (h : W34 a0 a1 w K) : CallW Try.prog 34 #[.slice a0.a a0.len a0.cap, .slice a1.a a1.len a1.cap] w K :=
  .inl ⟨ok34, denFn_sound tt_ok mix Try.func34 (by kernel_rfl) (eq34 a0 a1 w K ▸ h)⟩

/- loop.example/g00008/laws.markByteS -/
def an35 : Ann := (.seq .leaf (.seq (.seq .leaf (.in_ (.loop 1 [(1, .int .i64), (5, .int .i64)] (.seq (.seq .leaf (.cond .leaf .leaf)) (.seq (.in_ (.seq .leaf .leaf)) .leaf))))) (.seq .leaf .leaf)))
def W35 (a0 : Sl) (a1 : Int) (w : World) (K : Value → World → Prop) : Prop :=
  LoopW [.int .i64, .int .i64] (fun J3 => fun (n1 : Int) (n2 : Int) w4 => BIf (decide ((n2 : Int) < ((a0.len : Nat) : Int))) (0 ≤ (n2 : Int) ∧ (n2 : Int) < ((a0.len : Nat) : Int) ∧ ∃ q5 : Addr, (a0.a : Option Addr) = some q5 ∧ May w4 (q5.add (Int.toNat n2 * 1)) ∧ LetW (w4.setCell (q5.add (Int.toNat n2 * 1)) (.int .u8 (IntKind.wrap .u8 n1))) fun w6 => J3 (IntKind.wrap .i64 (n1 + 1)) (IntKind.wrap .i64 (n2 + 1)) w6) (K (.int .i64 n1) w4)) ((a1 : Int), ((0 : Int), ())) w
theorem eq35 (a0 : Sl) (a1 : Int) (w : World) (K : Value → World → Prop) : denFn Try.prog tt Try.f35 an35 [.slice a0.a a0.len a0.cap, .int .i64 a1] w K = W35 a0 a1 w K := by kernel_rfl
theorem ok35 : OkFn Try.prog 35 := ⟨Try.f35, Try.func35, by kernel_rfl, by kernel_rfl⟩
theorem go35 {a0 : Sl} {a1 : Int} {w : World} {K : Value → World → Prop} (h : W35 a0 a1 w K) : CallW Try.prog 35 #[.slice a0.a a0.len a0.cap, .int .i64 a1] w K :=
  .inl ⟨ok35, denFn_sound tt_ok mix Try.func35 (by kernel_rfl) (eq35 a0 a1 w K ▸ h)⟩

/- loop.example/g00008/laws.markDiskWriteS -/
def an36 : Ann := (.seq .leaf (.seq (.seq .leaf (.in_ (.loop 1 [(1, .int .i64), (5, .int .i64)] (.seq (.seq .leaf (.cond .leaf .leaf)) (.seq (.in_ (.seq .leaf (.seq .leaf .leaf))) .leaf))))) (.seq .leaf .leaf)))
def W36 (a0 : Sl) (a1 : Int) (w : World) (K : Value → World → Prop) : Prop :=
  LoopW [.int .i64, .int .i64] (fun J3 => fun (n1 : Int) (n2 : Int) w4 => BIf (decide ((n2 : Int) < ((a0.len : Nat) : Int))) (0 ≤ (n2 : Int) ∧ (n2 : Int) < ((a0.len : Nat) : Int) ∧ ∃ q5 : Addr, (a0.a : Option Addr) = some q5 ∧ May w4 ((q5.add (Int.toNat n2 * 2)).add 0) ∧ LetW (w4.setCell ((q5.add (Int.toNat n2 * 2)).add 0) (.int .i64 n1)) fun w6 => 0 ≤ (n2 : Int) ∧ (n2 : Int) < ((a0.len : Nat) : Int) ∧ ∃ q7 : Addr, (a0.a : Option Addr) = some q7 ∧ ∃ l8 : Sl, w6.cell? ((q7.add (Int.toNat n2 * 2)).add 1) = some (.slice l8.a l8.len l8.cap) ∧ CallW Try.prog 35 #[.slice l8.a l8.len l8.cap, .int .i64 (IntKind.wrap .i64 (n1 + 1))] w6 fun v9 w10 => ∃ n11 : Int, v9 = .int .i64 n11 ∧ J3 n11 (IntKind.wrap .i64 (n2 + 1)) w10) (K (.int .i64 n1) w4)) ((a1 : Int), ((0 : Int), ())) w
theorem eq36 (a0 : Sl) (a1 : Int) (w : World) (K : Value → World → Prop) : denFn Try.prog tt Try.f36 an36 [.slice a0.a a0.len a0.cap, .int .i64 a1] w K = W36 a0 a1 w K := by kernel_rfl
theorem ok36 : OkFn Try.prog 36 := ⟨Try.f36, Try.func36, by kernel_rfl, by kernel_rfl⟩
theorem go36 {a0 : Sl} {a1 : Int} {w : World} {K : Value → World → Prop} (h : W36 a0 a1 w K) : CallW Try.prog 36 #[.slice a0.a a0.len a0.cap, .int .i64 a1] w K :=
  .inl ⟨ok36, denFn_sound tt_ok mix Try.func36 (by kernel_rfl) (eq36 a0 a1 w K ▸ h)⟩

/- loop.example/g00008/laws.heldDiskWriteS -/
def an37 : Ann := (.seq .leaf (.seq (.seq .leaf (.in_ (.loop 1 [(1, .int .i64), (5, .int .i64)] (.seq (.seq .leaf (.cond .leaf .leaf)) (.seq (.in_ (.seq (.seq .leaf (.cond (.seq .leaf .leaf) .leaf)) (.seq .leaf (.seq .leaf (.seq .leaf (.cond (.seq .leaf .leaf) .leaf)))))) .leaf))))) (.seq .leaf .leaf)))
def W37 (a0 : Sl) (a1 : Int) (w : World) (K : Value → World → Prop) : Prop :=
  LoopW [.int .i64, .int .i64] (fun J3 => fun (n1 : Int) (n2 : Int) w4 => BIf (decide ((n2 : Int) < ((a0.len : Nat) : Int))) (0 ≤ (n2 : Int) ∧ (n2 : Int) < ((a0.len : Nat) : Int) ∧ ∃ q5 : Addr, (a0.a : Option Addr) = some q5 ∧ ∃ n6 : Int, w4.cell? ((q5.add (Int.toNat n2 * 2)).add 0) = some (.int .i64 n6) ∧ BIf ((n6 : Int) != n1) (K (.int .i64 (-1)) w4) (0 ≤ (n2 : Int) ∧ (n2 : Int) < ((a0.len : Nat) : Int) ∧ ∃ q7 : Addr, (a0.a : Option Addr) = some q7 ∧ ∃ l8 : Sl, w4.cell? ((q7.add (Int.toNat n2 * 2)).add 1) = some (.slice l8.a l8.len l8.cap) ∧ CallW Try.prog 40 #[.slice l8.a l8.len l8.cap, .int .i64 (IntKind.wrap .i64 (n1 + 1))] w4 fun v9 w10 => ∃ n11 : Int, v9 = .int .i64 n11 ∧ BIf (decide ((n11 : Int) < 0)) (K (.int .i64 (-1)) w10) (J3 n11 (IntKind.wrap .i64 (n2 + 1)) w10))) (K (.int .i64 n1) w4)) ((a1 : Int), ((0 : Int), ())) w
theorem eq37 (a0 : Sl) (a1 : Int) (w : World) (K : Value → World → Prop) : denFn Try.prog tt Try.f37 an37 [.slice a0.a a0.len a0.cap, .int .i64 a1] w K = W37 a0 a1 w K := by kernel_rfl
theorem ok37 : OkFn Try.prog 37 := ⟨Try.f37, Try.func37, by kernel_rfl, by kernel_rfl⟩
theorem go37 {a0 : Sl} {a1 : Int} {w : World} {K : Value → World → Prop} (h : W37 a0 a1 w K) : CallW Try.prog 37 #[.slice a0.a a0.len a0.cap, .int .i64 a1] w K :=
  .inl ⟨ok37, denFn_sound tt_ok mix Try.func37 (by kernel_rfl) (eq37 a0 a1 w K ▸ h)⟩

/- loop.example/g00008/spec.JnlWrite -/
def an38 : Ann := (.seq .leaf (.seq .leaf (.seq (.seq .leaf (.cond (.seq .leaf .leaf) .leaf)) (.seq .leaf (.seq .leaf .leaf)))))
def W38 (a0 : Sl) (a1 : Sl) (w : World) (K : Value → World → Prop) : Prop :=
  CallW Try.prog 29 #[.slice a0.a a0.len a0.cap, .slice a1.a a1.len a1.cap] w fun v1 w2 => ∃ l3 : Sl, ∃ n4 : Int, v1 = .tuple #[.slice l3.a l3.len l3.cap, .int .i64 n4] ∧ BIf ((n4 : Int) != 0) (LetW (w2.alloc (.cells #[] 5)) fun w5 => K (.tuple #[.slice (some ⟨w2.heap.size, 0, none⟩) 0 0, .int .i64 n4]) w5) (CallW Try.prog 98 #[.slice a0.a a0.len a0.cap, .slice l3.a l3.len l3.cap] w2 fun v6 w7 => ∃ l8 : Sl, ∃ b9 : Bool, v6 = .tuple #[.slice l8.a l8.len l8.cap, .bool b9] ∧ K (.tuple #[.slice l8.a l8.len l8.cap, .int .i64 n4]) w7)
theorem eq38 (a0 : Sl) (a1 : Sl) (w : World) (K : Value → World → Prop) : denFn Try.prog tt Try.f38 an38 [.slice a0.a a0.len a0.cap, .slice a1.a a1.len a1.cap] w K = W38 a0 a1 w K := by kernel_rfl
theorem ok38 : OkFn Try.prog 38 := ⟨Try.f38, Try.func38, by kernel_rfl, by kernel_rfl⟩
theorem go38 {a0 : Sl} {a1 : Sl} {w : World} {K : Value → World → Prop} (h : W38 a0 a1 w K) : CallW Try.prog 38 #[.slice a0.a a0.len a0.cap, .slice a1.a a1.len a1.cap] w K :=
  .inl ⟨ok38, denFn_sound tt_ok mix Try.func38 (by kernel_rfl) (eq38 a0 a1 w K ▸ h)⟩

/- loop.example/g00008/impl.JnlWrite -/
def an39 : Ann := (.seq .leaf (.seq .leaf (.seq (.seq .leaf (.cond (.seq .leaf .leaf) .leaf)) (.seq .leaf (.seq .leaf .leaf)))))
def W39 (a0 : Sl) (a1 : Sl) (w : World) (K : Value → World → Prop) : Prop :=
  CallW Try.prog 32 #[.slice a0.a a0.len a0.cap, .slice a1.a a1.len a1.cap] w fun v1 w2 => ∃ l3 : Sl, ∃ n4 : Int, v1 = .tuple #[.slice l3.a l3.len l3.cap, .int .i64 n4] ∧ BIf ((n4 : Int) != 0) (K (.tuple #[.slice none 0 0, .int .i64 n4]) w2) (CallW Try.prog 45 #[.slice a0.a a0.len a0.cap, .slice l3.a l3.len l3.cap] w2 fun v5 w6 => ∃ l7 : Sl, ∃ b8 : Bool, v5 = .tuple #[.slice l7.a l7.len l7.cap, .bool b8] ∧ K (.tuple #[.slice l7.a l7.len l7.cap, .int .i64 0]) w6)
theorem eq39 (a0 : Sl) (a1 : Sl) (w : World) (K : Value → World → Prop) : denFn Try.prog tt Try.f39 an39 [.slice a0.a a0.len a0.cap, .slice a1.a a1.len a1.cap] w K = W39 a0 a1 w K := by kernel_rfl
theorem ok39 : OkFn Try.prog 39 := ⟨Try.f39, Try.func39, by kernel_rfl, by kernel_rfl⟩
theorem go39 {a0 : Sl} {a1 : Sl} {w : World} {K : Value → World → Prop} (h : W39 a0 a1 w K) : CallW Try.prog 39 #[.slice a0.a a0.len a0.cap, .slice a1.a a1.len a1.cap] w K :=
  .inl ⟨ok39, denFn_sound tt_ok mix Try.func39 (by kernel_rfl) (eq39 a0 a1 w K ▸ h)⟩

/- loop.example/g00008/laws.heldByteS -/
def an40 : Ann := (.seq .leaf (.seq (.seq .leaf (.in_ (.loop 1 [(1, .int .i64), (5, .int .i64)] (.seq (.seq .leaf (.cond .leaf .leaf)) (.seq (.in_ (.seq (.seq .leaf (.cond (.seq .leaf .leaf) .leaf)) .leaf)) .leaf))))) (.seq .leaf .leaf)))
def W40 (a0 : Sl) (a1 : Int) (w : World) (K : Value → World → Prop) : Prop :=
  LoopW [.int .i64, .int .i64] (fun J3 => fun (n1 : Int) (n2 : Int) w4 => BIf (decide ((n2 : Int) < ((a0.len : Nat) : Int))) (0 ≤ (n2 : Int) ∧ (n2 : Int) < ((a0.len : Nat) : Int) ∧ ∃ q5 : Addr, (a0.a : Option Addr) = some q5 ∧ ∃ n6 : Int, w4.cell? (q5.add (Int.toNat n2 * 1)) = some (.int .u8 n6) ∧ BIf ((n6 : Int) != (IntKind.wrap .u8 n1)) (K (.int .i64 (-1)) w4) (J3 (IntKind.wrap .i64 (n1 + 1)) (IntKind.wrap .i64 (n2 + 1)) w4)) (K (.int .i64 n1) w4)) ((a1 : Int), ((0 : Int), ())) w
theorem eq40 (a0 : Sl) (a1 : Int) (w : World) (K : Value → World → Prop) : denFn Try.prog tt Try.f40 an40 [.slice a0.a a0.len a0.cap, .int .i64 a1] w K = W40 a0 a1 w K := by kernel_rfl
theorem ok40 : OkFn Try.prog 40 := ⟨Try.f40, Try.func40, by kernel_rfl, by kernel_rfl⟩
theorem go40 {a0 : Sl} {a1 : Int} {w : World} {K : Value → World → Prop} (h : W40 a0 a1 w K) : CallW Try.prog 40 #[.slice a0.a a0.len a0.cap, .int .i64 a1] w K :=
  .inl ⟨ok40, denFn_sound tt_ok mix Try.func40 (by kernel_rfl) (eq40 a0 a1 w K ▸ h)⟩

/- loop.example/g00008/impl.DiskAfter -/
def an45 : Ann := (.seq .leaf (.seq (.seq .leaf (.cond (.seq .leaf .leaf) .leaf)) (.seq .leaf (.seq (.seq .leaf (.in_ (.loop 49216 [(16, .int .i64)] (.seq .leaf (.seq (.cond .leaf .leaf) (.seq (.in_ (.seq .leaf (.seq (.seq (.reg [(4, none), (7, some (115008, [(30, .bool)])), (1, none), (5, some (115008, [(36, .bool)]))]) (.cond (.seq .leaf .leaf) .leaf)) (.draw [0, 0, 2, 6, 15, 0, 32, 127] [0, 1, 2, 3, 4, 5, 6, 7])))) .leaf)))))) (.seq .leaf .leaf)))))
def W45 (a0 : Sl) (a1 : Sl) (w : World) (K : Value → World → Prop) : Prop :=
  CallW Try.prog 106 #[.slice a0.a a0.len a0.cap] w fun v1 w2 => ∃ b3 : Bool, v1 = .bool b3 ∧ BIf (!b3) (K (.tuple #[.slice none 0 0, .bool false]) w2) (AppendW 5 ti5 ⟨none, 0, 0⟩ a0 w2 fun l4 w5 => LoopW [.int .i64] (fun J7 => fun (n6 : Int) w8 => BIf (decide ((n6 : Int) < ((a1.len : Nat) : Int))) (0 ≤ (n6 : Int) ∧ (n6 : Int) < ((a1.len : Nat) : Int) ∧ ∃ q9 : Addr, (a1.a : Option Addr) = some q9 ∧ ∃ n10 : Int, w8.cell? ((q9.add (Int.toNat n6 * 2)).add 0) = some (.int .i64 n10) ∧ ∃ l11 : Sl, w8.cell? ((q9.add (Int.toNat n6 * 2)).add 1) = some (.slice l11.a l11.len l11.cap) ∧ LetW (w8.alloc (.cells #[.int .i64 0, .slice none 0 0] 128)) fun w12 => MayN w12 ⟨w8.heap.size, 0, none⟩ 2 ∧ LetW (puts w12 ⟨w8.heap.size, 0, none⟩ 0 [.int .i64 n10, .slice l11.a l11.len l11.cap]) fun w13 => ∃ n14 : Int, w13.cell? ⟨w8.heap.size, 0, none⟩ = some (.int .i64 n14) ∧ JoinW [.bool] (fun J16 => BIf (decide ((n14 : Int) < 0)) (J16 true w13) (∃ n26 : Int, w13.cell? ⟨w8.heap.size, 0, none⟩ = some (.int .i64 n26) ∧ (128 : Int) ≠ 0 ∧ J16 (decide ((n26 : Int) ≥ (IntKind.wrap .i64 (Int.tdiv ((l4.len : Nat) : Int) 128)))) w13)) (fun (b15 : Bool) w17 => JoinW [.bool] (fun J19 => BIf b15 (J19 true w17) (∃ l25 : Sl, w17.cell? ⟨w8.heap.size, 1, none⟩ = some (.slice l25.a l25.len l25.cap) ∧ J19 ((((l25.len : Nat) : Int) : Int) != 128) w17)) (fun (b18 : Bool) w20 => BIf b18 (K (.tuple #[.slice none 0 0, .bool false]) w20) (∃ n21 : Int, w20.drew.cell? ⟨w8.heap.size, 0, none⟩ = some (.int .i64 n21) ∧ 0 ≤ (IntKind.wrap .i64 (n21 * 128) : Int) ∧ (IntKind.wrap .i64 (n21 * 128) : Int) ≤ ((l4.len : Nat) : Int) ∧ ∃ l22 : Sl, w20.drew.cell? ⟨w8.heap.size, 1, none⟩ = some (.slice l22.a l22.len l22.cap) ∧ ∃ vs24, RowAt w20.drew l22.a ((min l22.len (Int.toNat ((l4.len : Nat) : Int) - Int.toNat (IntKind.wrap .i64 (n21 * 128)))) * 1) vs24 ∧ (∀ v, v ∈ vs24 → plainB v = true) ∧ CopyW (cutA l4.a l4.cap (Int.toNat (IntKind.wrap .i64 (n21 * 128))) 1) w20.drew vs24 vs24.length fun w23 => J7 (IntKind.wrap .i64 (n6 + 1)) w23)))) (K (.tuple #[.slice l4.a l4.len l4.cap, .bool true]) w8)) ((0 : Int), ()) w5)
theorem eq45 (a0 : Sl) (a1 : Sl) (w : World) (K : Value → World → Prop) : denFn Try.prog tt Try.f45 an45 [.slice a0.a a0.len a0.cap, .slice a1.a a1.len a1.cap] w K = W45 a0 a1 w K := by kernel_rfl
theorem ok45 : OkFn Try.prog 45 := ⟨Try.f45, Try.func45, by kernel_rfl, by kernel_rfl⟩
theorem go45 {a0 : Sl} {a1 : Sl} {w : World} {K : Value → World → Prop} (h : W45 a0 a1 w K) : CallW Try.prog 45 #[.slice a0.a a0.len a0.cap, .slice a1.a a1.len a1.cap] w K :=
  .inl ⟨ok45, denFn_sound tt_ok mix Try.func45 (by kernel_rfl) (eq45 a0 a1 w K ▸ h)⟩

/- loop.example/g00008/impl.Crc -/
def an70 : Ann := (.seq .leaf (.seq .leaf (.seq (.seq .leaf (.in_ (.loop 384 [(3, .int .u64), (9, .int .i64)] (.seq .leaf (.seq (.cond .leaf .leaf) (.seq (.in_ (.seq .leaf (.seq .leaf (.seq .leaf (.in_ (.loop 896 [(3, .int .u64), (17, .int .i64)] (.seq .leaf (.seq (.cond .leaf .leaf) (.seq (.in_ (.seq .leaf (.seq .leaf (.seq .leaf (.cond .leaf .leaf))))) .leaf))))))))) .leaf)))))) (.seq .leaf .leaf))))
def W70 (a0 : Sl) (w : World) (K : Value → World → Prop) : Prop :=
  LoopW [.int .u64, .int .i64] (fun J3 => fun (n1 : Int) (n2 : Int) w4 => BIf (decide ((n2 : Int) < ((a0.len : Nat) : Int))) (0 ≤ (n2 : Int) ∧ (n2 : Int) < ((a0.len : Nat) : Int) ∧ ∃ q5 : Addr, (a0.a : Option Addr) = some q5 ∧ ∃ n6 : Int, w4.cell? (q5.add (Int.toNat n2 * 1)) = some (.int .u8 n6) ∧ LoopW [.int .u64, .int .i64] (fun J9 => fun (n7 : Int) (n8 : Int) w10 => BIf (decide ((n8 : Int) < 8)) (0 ≤ (1 : Int) ∧ BIf ((andI .u64 n7 1 : Int) == 1) (J9 (xorI .u64 (shrI .u64 n7 1) 3988292384) (IntKind.wrap .i64 (n8 + 1)) w10) (J9 (shrI .u64 n7 1) (IntKind.wrap .i64 (n8 + 1)) w10)) (J3 n7 (IntKind.wrap .i64 (n2 + 1)) w10)) ((xorI .u64 n1 (IntKind.wrap .u64 n6) : Int), ((0 : Int), ())) w4) (K (.int .u64 (xorI .u64 n1 4294967295)) w4)) ((4294967295 : Int), ((0 : Int), ())) w
theorem eq70 (a0 : Sl) (w : World) (K : Value → World → Prop) : denFn Try.prog tt Try.f70 an70 [.slice a0.a a0.len a0.cap] w K = W70 a0 w K := by kernel_rfl
theorem ok70 : OkFn Try.prog 70 := ⟨Try.f70, Try.func70, by kernel_rfl, by kernel_rfl⟩
theorem go70 {a0 : Sl} {w : World} {K : Value → World → Prop} (h : W70 a0 w K) : CallW Try.prog 70 #[.slice a0.a a0.len a0.cap] w K :=
  .inl ⟨ok70, denFn_sound tt_ok mix Try.func70 (by kernel_rfl) (eq70 a0 w K ▸ h)⟩

/- loop.example/g00008/spec.Crc -/
def an82 : Ann := (.seq .leaf (.seq .leaf (.seq (.seq .leaf (.in_ (.loop 1 [(3, .int .u64), (4, .int .i64)] (.seq (.seq .leaf (.cond .leaf .leaf)) (.seq (.in_ (.seq .leaf (.seq .leaf (.in_ (.loop 17 [(3, .int .u64), (5, .int .i64)] (.seq (.seq .leaf (.cond .leaf .leaf)) (.seq (.in_ (.seq .leaf (.seq .leaf (.seq .leaf (.cond .leaf .leaf))))) .leaf))))))) .leaf))))) (.seq .leaf .leaf))))
def W82 (a0 : Sl) (w : World) (K : Value → World → Prop) : Prop :=
  LoopW [.int .u64, .int .i64] (fun J3 => fun (n1 : Int) (n2 : Int) w4 => BIf (decide ((n2 : Int) < ((a0.len : Nat) : Int))) (0 ≤ (n2 : Int) ∧ (n2 : Int) < ((a0.len : Nat) : Int) ∧ ∃ q5 : Addr, (a0.a : Option Addr) = some q5 ∧ ∃ n6 : Int, w4.cell? (q5.add (Int.toNat n2 * 1)) = some (.int .u8 n6) ∧ LoopW [.int .u64, .int .i64] (fun J9 => fun (n7 : Int) (n8 : Int) w10 => BIf (decide ((n8 : Int) < 8)) ((2 : Int) ≠ 0 ∧ (2 : Int) ≠ 0 ∧ BIf ((Int.tmod n7 2 : Int) == 1) (J9 (xorI .u64 (IntKind.wrap .u64 (Int.tdiv n7 2)) 3988292384) (IntKind.wrap .i64 (n8 + 1)) w10) (J9 (IntKind.wrap .u64 (Int.tdiv n7 2)) (IntKind.wrap .i64 (n8 + 1)) w10)) (J3 n7 (IntKind.wrap .i64 (n2 + 1)) w10)) ((xorI .u64 n1 (IntKind.wrap .u64 n6) : Int), ((0 : Int), ())) w4) (K (.int .u64 (xorI .u64 n1 4294967295)) w4)) ((4294967295 : Int), ((0 : Int), ())) w
theorem eq82 (a0 : Sl) (w : World) (K : Value → World → Prop) : denFn Try.prog tt Try.f82 an82 [.slice a0.a a0.len a0.cap] w K = W82 a0 w K := by kernel_rfl
theorem ok82 : OkFn Try.prog 82 := ⟨Try.f82, Try.func82, by kernel_rfl, by kernel_rfl⟩
theorem go82 {a0 : Sl} {w : World} {K : Value → World → Prop} (h : W82 a0 w K) : CallW Try.prog 82 #[.slice a0.a a0.len a0.cap] w K :=
  .inl ⟨ok82, denFn_sound tt_ok mix Try.func82 (by kernel_rfl) (eq82 a0 w K ▸ h)⟩

/- loop.example/g00008/laws.szDiskWrite -/
def an85 : Ann := (.seq .leaf (.seq .leaf (.seq (.seq .leaf (.cond (.seq .leaf .leaf) .leaf)) (.seq .leaf .leaf))))
def W85 (a0_0 : Int) (a0_1 : Sl) (a1 : Int) (w : World) (K : Value → World → Prop) : Prop :=
  LetW (w.alloc (.cells #[.int .i64 a0_0, .slice a0_1.a a0_1.len a0_1.cap] 123)) fun w1 => ∃ l2 : Sl, w1.cell? ⟨w.heap.size, 1, none⟩ = some (.slice l2.a l2.len l2.cap) ∧ CallW Try.prog 139 #[.slice l2.a l2.len l2.cap, .int .i64 a1] w1 fun v3 w4 => ∃ n5 : Int, v3 = .int .i64 n5 ∧ BIf (decide ((n5 : Int) < 0)) (K (.int .i64 (-1)) w4) (K (.int .i64 n5) w4)
theorem eq85 (a0_0 : Int) (a0_1 : Sl) (a1 : Int) (w : World) (K : Value → World → Prop) : denFn Try.prog tt Try.f85 an85 [.agg #[.int .i64 a0_0, .slice a0_1.a a0_1.len a0_1.cap], .int .i64 a1] w K = W85 a0_0 a0_1 a1 w K := by kernel_rfl
theorem ok85 : OkFn Try.prog 85 := ⟨Try.f85, Try.func85, by kernel_rfl, by kernel_rfl⟩
theorem go85 {a0_0 : Int} {a0_1 : Sl} {a1 : Int} {w : World} {K : Value → World → Prop} (h : W85 a0_0 a0_1 a1 w K) : CallW Try.prog 85 #[.agg #[.int .i64 a0_0, .slice a0_1.a a0_1.len a0_1.cap], .int .i64 a1] w K :=
  .inl ⟨ok85, denFn_sound tt_ok mix Try.func85 (by kernel_rfl) (eq85 a0_0 a0_1 a1 w K ▸ h)⟩

/- loop.example/g00008/spec.JnlRead -/
def an86 : Ann := (.seq .leaf (.seq (.seq .leaf (.cond (.seq .leaf .leaf) .leaf)) (.seq .leaf (.seq .leaf (.seq .leaf (.seq (.seq (.reg [(3, none), (10, some (61, [(30, .bool)]))]) (.cond (.seq .leaf .leaf) .leaf)) (.seq (.seq .leaf (.cond (.seq (.seq .leaf (.cond (.seq .leaf .leaf) .leaf)) (.seq .leaf .leaf)) .leaf)) (.seq .leaf (.seq (.seq .leaf (.cond (.seq .leaf .leaf) .leaf)) (.seq .leaf .leaf))))))))))
def W86 (a0 : Sl) (w : World) (K : Value → World → Prop) : Prop :=
  LetW (w.alloc (.cells #[.int .i64 0, .int .u64 0, .slice none 0 0] 126)) fun w1 => CallW Try.prog 140 #[.slice a0.a a0.len a0.cap] w1 fun v2 w3 => ∃ b4 : Bool, v2 = .bool b4 ∧ BIf (!b4) (MayN w3 ⟨w.heap.size, 0, none⟩ 3 ∧ LetW (puts w3 ⟨w.heap.size, 0, none⟩ 0 [.int .i64 0, .int .u64 0, .slice none 0 0]) fun w5 => ∃ n6 : Int, w5.cell? ⟨w.heap.size, 0, none⟩ = some (.int .i64 n6) ∧ ∃ n7 : Int, w5.cell? ⟨w.heap.size, 1, none⟩ = some (.int .u64 n7) ∧ ∃ l8 : Sl, w5.cell? ⟨w.heap.size, 2, none⟩ = some (.slice l8.a l8.len l8.cap) ∧ K (.agg #[.int .i64 n6, .int .u64 n7, .slice l8.a l8.len l8.cap]) w5) (CallW Try.prog 141 #[.slice a0.a a0.len a0.cap, .int .i64 16] w3 fun v9 w10 => ∃ n11 : Int, v9 = .int .u64 n11 ∧ CallW Try.prog 141 #[.slice a0.a a0.len a0.cap, .int .i64 24] w10 fun v12 w13 => ∃ n14 : Int, v12 = .int .u64 n14 ∧ CallW Try.prog 141 #[.slice a0.a a0.len a0.cap, .int .i64 32] w13 fun v15 w16 => ∃ n17 : Int, v15 = .int .u64 n17 ∧ JoinW [.bool] (fun J19 => BIf (decide ((n14 : Int) > 16)) (J19 true w16) (CallW Try.prog 143 #[.slice a0.a a0.len a0.cap, .int .i64 0] w16 fun v49 w50 => ∃ l51 : Sl, v49 = .slice l51.a l51.len l51.cap ∧ CallW Try.prog 90 #[.int .u64 n11, .int .i64 (IntKind.wrap .i64 n14), .int .u64 n17] w50 fun v52 w53 => ∃ l54 : Sl, v52 = .slice l54.a l54.len l54.cap ∧ CallW Try.prog 142 #[.slice l51.a l51.len l51.cap, .slice l54.a l54.len l54.cap] w53 fun v55 w56 => ∃ b57 : Bool, v55 = .bool b57 ∧ J19 (!b57) w56)) (fun (b18 : Bool) w20 => BIf b18 (MayN w20 ⟨w.heap.size, 0, none⟩ 3 ∧ LetW (puts w20 ⟨w.heap.size, 0, none⟩ 0 [.int .i64 4, .int .u64 0, .slice none 0 0]) fun w21 => ∃ n22 : Int, w21.cell? ⟨w.heap.size, 0, none⟩ = some (.int .i64 n22) ∧ ∃ n23 : Int, w21.cell? ⟨w.heap.size, 1, none⟩ = some (.int .u64 n23) ∧ ∃ l24 : Sl, w21.cell? ⟨w.heap.size, 2, none⟩ = some (.slice l24.a l24.len l24.cap) ∧ K (.agg #[.int .i64 n22, .int .u64 n23, .slice l24.a l24.len l24.cap]) w21) (BIf ((n14 : Int) == 0) (LetW (w20.alloc (.cells #[] 5)) fun w25 => CallW Try.prog 82 #[.slice (some ⟨w20.heap.size, 0, none⟩) 0 0] w25 fun v26 w27 => ∃ n28 : Int, v26 = .int .u64 n28 ∧ BIf ((n17 : Int) != n28) (MayN w27 ⟨w.heap.size, 0, none⟩ 3 ∧ LetW (puts w27 ⟨w.heap.size, 0, none⟩ 0 [.int .i64 4, .int .u64 0, .slice none 0 0]) fun w29 => ∃ n30 : Int, w29.cell? ⟨w.heap.size, 0, none⟩ = some (.int .i64 n30) ∧ ∃ n31 : Int, w29.cell? ⟨w.heap.size, 1, none⟩ = some (.int .u64 n31) ∧ ∃ l32 : Sl, w29.cell? ⟨w.heap.size, 2, none⟩ = some (.slice l32.a l32.len l32.cap) ∧ K (.agg #[.int .i64 n30, .int .u64 n31, .slice l32.a l32.len l32.cap]) w29) (MayN w27 ⟨w.heap.size, 0, none⟩ 3 ∧ LetW (puts w27 ⟨w.heap.size, 0, none⟩ 0 [.int .i64 1, .int .u64 n11, .slice none 0 0]) fun w33 => ∃ n34 : Int, w33.cell? ⟨w.heap.size, 0, none⟩ = some (.int .i64 n34) ∧ ∃ n35 : Int, w33.cell? ⟨w.heap.size, 1, none⟩ = some (.int .u64 n35) ∧ ∃ l36 : Sl, w33.cell? ⟨w.heap.size, 2, none⟩ = some (.slice l36.a l36.len l36.cap) ∧ K (.agg #[.int .i64 n34, .int .u64 n35, .slice l36.a l36.len l36.cap]) w33)) (CallW Try.prog 144 #[.slice a0.a a0.len a0.cap, .int .i64 (IntKind.wrap .i64 n14), .int .u64 n17] w20 fun v37 w38 => ∃ l39 : Sl, ∃ b40 : Bool, v37 = .tuple #[.slice l39.a l39.len l39.cap, .bool b40] ∧ BIf (!b40) (MayN w38 ⟨w.heap.size, 0, none⟩ 3 ∧ LetW (puts w38 ⟨w.heap.size, 0, none⟩ 0 [.int .i64 3, .int .u64 n11, .slice none 0 0]) fun w41 => ∃ n42 : Int, w41.cell? ⟨w.heap.size, 0, none⟩ = some (.int .i64 n42) ∧ ∃ n43 : Int, w41.cell? ⟨w.heap.size, 1, none⟩ = some (.int .u64 n43) ∧ ∃ l44 : Sl, w41.cell? ⟨w.heap.size, 2, none⟩ = some (.slice l44.a l44.len l44.cap) ∧ K (.agg #[.int .i64 n42, .int .u64 n43, .slice l44.a l44.len l44.cap]) w41) (MayN w38 ⟨w.heap.size, 0, none⟩ 3 ∧ LetW (puts w38 ⟨w.heap.size, 0, none⟩ 0 [.int .i64 2, .int .u64 n11, .slice l39.a l39.len l39.cap]) fun w45 => ∃ n46 : Int, w45.cell? ⟨w.heap.size, 0, none⟩ = some (.int .i64 n46) ∧ ∃ n47 : Int, w45.cell? ⟨w.heap.size, 1, none⟩ = some (.int .u64 n47) ∧ ∃ l48 : Sl, w45.cell? ⟨w.heap.size, 2, none⟩ = some (.slice l48.a l48.len l48.cap) ∧ K (.agg #[.int .i64 n46, .int .u64 n47, .slice l48.a l48.len l48.cap]) w45)))))
theorem eq86 (a0 : Sl) (w : World) (K : Value → World → Prop) : denFn Try.prog tt Try.f86 an86 [.slice a0.a a0.len a0.cap] w K = W86 a0 w K := by kernel_rfl
theorem ok86 : OkFn Try.prog 86 := ⟨Try.f86, Try.func86, by kernel_rfl, by kernel_rfl⟩
theorem go86 {a0 : Sl} {w : World} {K : Value → World → Prop} (h : W86 a0 w K) : CallW Try.prog 86 #[.slice a0.a a0.len a0.cap] w K :=
  .inl ⟨ok86, denFn_sound tt_ok mix Try.func86 (by kernel_rfl) (eq86 a0 w K ▸ h)⟩

/- loop.example/g00008/spec.l12Is -/
def an87 : Ann := (.seq .leaf (.seq (.reg [(3, none), (6, some (0, [(13, .bool)])), (1, none)]) .leaf))
def W87 (a0 : Sl) (a1 : Int) (w : World) (K : Value → World → Prop) : Prop :=
  JoinW [.bool] (fun J2 => BIf (decide ((a1 : Int) ≥ 0)) ((128 : Int) ≠ 0 ∧ J2 (decide ((a1 : Int) < (IntKind.wrap .i64 (Int.tdiv ((a0.len : Nat) : Int) 128)))) w) (J2 false w)) (fun (b1 : Bool) w3 => K (.bool b1) w3)
theorem eq87 (a0 : Sl) (a1 : Int) (w : World) (K : Value → World → Prop) : denFn Try.prog tt Try.f87 an87 [.slice a0.a a0.len a0.cap, .int .i64 a1] w K = W87 a0 a1 w K := by kernel_rfl
theorem ok87 : OkFn Try.prog 87 := ⟨Try.f87, Try.func87, by kernel_rfl, by kernel_rfl⟩
theorem go87 {a0 : Sl} {a1 : Int} {w : World} {K : Value → World → Prop} (h : W87 a0 a1 w K) : CallW Try.prog 87 #[.slice a0.a a0.len a0.cap, .int .i64 a1] w K :=
  .inl ⟨ok87, denFn_sound tt_ok mix Try.func87 (by kernel_rfl) (eq87 a0 a1 w K ▸ h)⟩

/- loop.example/g00008/spec.l13Num -/
def an88 : Ann := (.seq .leaf (.seq .leaf (.seq (.seq .leaf (.in_ (.loop 0 [(0, .int .u64), (3, .slice), (4, .int .i64)] (.seq (.seq .leaf (.cond .leaf .leaf)) (.seq (.in_ (.seq .leaf .leaf)) .leaf))))) (.seq .leaf .leaf))))
def W88 (a0 : Int) (w : World) (K : Value → World → Prop) : Prop :=
  LetW (w.alloc (.cells #[] 5)) fun w1 => LoopW [.int .u64, .slice, .int .i64] (fun J5 => fun (n2 : Int) (l3 : Sl) (n4 : Int) w6 => BIf (decide ((n4 : Int) < 8)) ((256 : Int) ≠ 0 ∧ LetW (w6.alloc (.cells #[.int .u8 (IntKind.wrap .u8 (Int.tmod n2 256))] 5)) fun w7 => AppendW 5 ti5 l3 ⟨some ⟨w6.heap.size, 0, none⟩, 1, 1⟩ w7 fun l8 w9 => (256 : Int) ≠ 0 ∧ J5 (IntKind.wrap .u64 (Int.tdiv n2 256)) l8 (IntKind.wrap .i64 (n4 + 1)) w9) (K (.slice l3.a l3.len l3.cap) w6)) ((a0 : Int), ((⟨some ⟨w.heap.size, 0, none⟩, 0, 0⟩ : Sl), ((0 : Int), ()))) w1
theorem eq88 (a0 : Int) (w : World) (K : Value → World → Prop) : denFn Try.prog tt Try.f88 an88 [.int .u64 a0] w K = W88 a0 w K := by kernel_rfl
theorem ok88 : OkFn Try.prog 88 := ⟨Try.f88, Try.func88, by kernel_rfl, by kernel_rfl⟩
theorem go88 {a0 : Int} {w : World} {K : Value → World → Prop} (h : W88 a0 w K) : CallW Try.prog 88 #[.int .u64 a0] w K :=
  .inl ⟨ok88, denFn_sound tt_ok mix Try.func88 (by kernel_rfl) (eq88 a0 w K ▸ h)⟩

/- loop.example/g00008/spec.l13Write -/
def an89 : Ann := (.seq .leaf (.seq .leaf .leaf))
def W89 (a0 : Int) (a1 : Sl) (w : World) (K : Value → World → Prop) : Prop :=
  LetW (w.alloc (.cells #[.int .i64 0, .slice none 0 0] 128)) fun w1 => LetW (w1.alloc (.cells #[] 5)) fun w2 => AppendW 5 ti5 ⟨some ⟨w1.heap.size, 0, none⟩, 0, 0⟩ a1 w2 fun l3 w4 => MayN w4 ⟨w.heap.size, 0, none⟩ 2 ∧ LetW (puts w4 ⟨w.heap.size, 0, none⟩ 0 [.int .i64 a0, .slice l3.a l3.len l3.cap]) fun w5 => ∃ n6 : Int, w5.cell? ⟨w.heap.size, 0, none⟩ = some (.int .i64 n6) ∧ ∃ l7 : Sl, w5.cell? ⟨w.heap.size, 1, none⟩ = some (.slice l7.a l7.len l7.cap) ∧ K (.agg #[.int .i64 n6, .slice l7.a l7.len l7.cap]) w5
theorem eq89 (a0 : Int) (a1 : Sl) (w : World) (K : Value → World → Prop) : denFn Try.prog tt Try.f89 an89 [.int .i64 a0, .slice a1.a a1.len a1.cap] w K = W89 a0 a1 w K := by kernel_rfl
theorem ok89 : OkFn Try.prog 89 := ⟨Try.f89, Try.func89, by kernel_rfl, by kernel_rfl⟩
theorem go89 {a0 : Int} {a1 : Sl} {w : World} {K : Value → World → Prop} (h : W89 a0 a1 w K) : CallW Try.prog 89 #[.int .i64 a0, .slice a1.a a1.len a1.cap] w K :=
  .inl ⟨ok89, denFn_sound tt_ok mix Try.func89 (by kernel_rfl) (eq89 a0 a1 w K ▸ h)⟩

/- loop.example/g00008/spec.l13Head -/
def an90 : Ann := (.seq .leaf (.seq .leaf (.seq .leaf (.seq .leaf (.seq .leaf (.seq .leaf (.seq .leaf .leaf)))))))
def W90 (a0 : Int) (a1 : Int) (a2 : Int) (w : World) (K : Value → World → Prop) : Prop :=
  LetW (w.alloc (.cells #[.int .u8 75, .int .u8 74, .int .u8 78, .int .u8 76] 5)) fun w1 => ∃ p2 : Addr, (some ⟨w.heap.size, 0, none⟩ : Option Addr) = some p2 ∧ MarkW p2 w1 fun w3 => AppendZW 5 ti5 ⟨some p2, 4, 4⟩ 12 w3 fun l4 w5 => CallW Try.prog 88 #[.int .u64 a0] w5 fun v6 w7 => ∃ l8 : Sl, v6 = .slice l8.a l8.len l8.cap ∧ AppendW 5 ti5 l4 l8 w7 fun l9 w10 => CallW Try.prog 88 #[.int .u64 (IntKind.wrap .u64 a1)] w10 fun v11 w12 => ∃ l13 : Sl, v11 = .slice l13.a l13.len l13.cap ∧ AppendW 5 ti5 l9 l13 w12 fun l14 w15 => CallW Try.prog 88 #[.int .u64 a2] w15 fun v16 w17 => ∃ l18 : Sl, v16 = .slice l18.a l18.len l18.cap ∧ AppendW 5 ti5 l14 l18 w17 fun l19 w20 => CallW Try.prog 82 #[.slice l19.a l19.len l19.cap] w20 fun v21 w22 => ∃ n23 : Int, v21 = .int .u64 n23 ∧ CallW Try.prog 88 #[.int .u64 n23] w22 fun v24 w25 => ∃ l26 : Sl, v24 = .slice l26.a l26.len l26.cap ∧ AppendW 5 ti5 l19 l26 w25 fun l27 w28 => CallW Try.prog 145 #[.slice l27.a l27.len l27.cap] w28 fun v29 w30 => ∃ l31 : Sl, v29 = .slice l31.a l31.len l31.cap ∧ K (.slice l31.a l31.len l31.cap) w30
theorem eq90 (a0 : Int) (a1 : Int) (a2 : Int) (w : World) (K : Value → World → Prop) : denFn Try.prog tt Try.f90 an90 [.int .u64 a0, .int .i64 a1, .int .u64 a2] w K = W90 a0 a1 a2 w K := by kernel_rfl
theorem ok90 : OkFn Try.prog 90 := ⟨Try.f90, Try.func90, by kernel_rfl, by kernel_rfl⟩
theorem go90 {a0 : Int} {a1 : Int} {a2 : Int} {w : World} {K : Value → World → Prop} (h : W90 a0 a1 a2 w K) : CallW Try.prog 90 #[.int .u64 a0, .int .i64 a1, .int .u64 a2] w K :=
  .inl ⟨ok90, denFn_sound tt_ok mix Try.func90 (by kernel_rfl) (eq90 a0 a1 a2 w K ▸ h)⟩

/- loop.example/g00008/spec.l13Empty -/
def an91 : Ann := (.seq .leaf (.seq .leaf .leaf))
def W91 (a0 : Int) (w : World) (K : Value → World → Prop) : Prop :=
  LetW (w.alloc (.cells #[.int .i64 0, .slice none 0 0] 128)) fun w1 => LetW (w1.alloc (.cells #[] 5)) fun w2 => CallW Try.prog 82 #[.slice (some ⟨w1.heap.size, 0, none⟩) 0 0] w2 fun v3 w4 => ∃ n5 : Int, v3 = .int .u64 n5 ∧ CallW Try.prog 90 #[.int .u64 a0, .int .i64 0, .int .u64 n5] w4 fun v6 w7 => ∃ l8 : Sl, v6 = .slice l8.a l8.len l8.cap ∧ CallW Try.prog 89 #[.int .i64 0, .slice l8.a l8.len l8.cap] w7 fun v9 w10 => ∃ n11 : Int, ∃ l12 : Sl, v9 = .agg #[.int .i64 n11, .slice l12.a l12.len l12.cap] ∧ MayN w10 ⟨w.heap.size, 0, none⟩ 2 ∧ LetW (puts w10 ⟨w.heap.size, 0, none⟩ 0 [.int .i64 n11, .slice l12.a l12.len l12.cap]) fun w13 => ∃ n14 : Int, w13.cell? ⟨w.heap.size, 0, none⟩ = some (.int .i64 n14) ∧ ∃ l15 : Sl, w13.cell? ⟨w.heap.size, 1, none⟩ = some (.slice l15.a l15.len l15.cap) ∧ K (.agg #[.int .i64 n14, .slice l15.a l15.len l15.cap]) w13
theorem eq91 (a0 : Int) (w : World) (K : Value → World → Prop) : denFn Try.prog tt Try.f91 an91 [.int .u64 a0] w K = W91 a0 w K := by kernel_rfl
theorem ok91 : OkFn Try.prog 91 := ⟨Try.f91, Try.func91, by kernel_rfl, by kernel_rfl⟩
theorem go91 {a0 : Int} {w : World} {K : Value → World → Prop} (h : W91 a0 w K) : CallW Try.prog 91 #[.int .u64 a0] w K :=
  .inl ⟨ok91, denFn_sound tt_ok mix Try.func91 (by kernel_rfl) (eq91 a0 w K ▸ h)⟩

/- loop.example/g00008/laws.toDiskWrite -/
def an92 : Ann := (.seq .leaf (.seq .leaf (.seq .leaf (.seq .leaf (.seq .leaf .leaf)))))
def W92 (a0_0 : Int) (a0_1 : Sl) (w : World) (K : Value → World → Prop) : Prop :=
  LetW (w.alloc (.cells #[.int .i64 a0_0, .slice a0_1.a a0_1.len a0_1.cap] 123)) fun w1 => LetW (w1.alloc (.cells #[.int .i64 0, .slice none 0 0] 128)) fun w2 => LetW (w2.alloc (.cells #[.int .i64 0, .slice none 0 0] 128)) fun w3 => ∃ n4 : Int, w3.cell? ⟨w.heap.size, 0, none⟩ = some (.int .i64 n4) ∧ May w3 ⟨w2.heap.size, 0, none⟩ ∧ LetW (w3.setCell ⟨w2.heap.size, 0, none⟩ (.int .i64 n4)) fun w5 => ∃ l6 : Sl, w5.cell? ⟨w.heap.size, 1, none⟩ = some (.slice l6.a l6.len l6.cap) ∧ CallW Try.prog 30 #[.slice l6.a l6.len l6.cap] w5 fun v7 w8 => ∃ l9 : Sl, v7 = .slice l9.a l9.len l9.cap ∧ May w8 ⟨w2.heap.size, 1, none⟩ ∧ LetW (w8.setCell ⟨w2.heap.size, 1, none⟩ (.slice l9.a l9.len l9.cap)) fun w10 => ∃ n11 : Int, w10.cell? ⟨w2.heap.size, 0, none⟩ = some (.int .i64 n11) ∧ ∃ l12 : Sl, w10.cell? ⟨w2.heap.size, 1, none⟩ = some (.slice l12.a l12.len l12.cap) ∧ MayN w10 ⟨w1.heap.size, 0, none⟩ 2 ∧ LetW (puts w10 ⟨w1.heap.size, 0, none⟩ 0 [.int .i64 n11, .slice l12.a l12.len l12.cap]) fun w13 => ∃ n14 : Int, w13.cell? ⟨w1.heap.size, 0, none⟩ = some (.int .i64 n14) ∧ ∃ l15 : Sl, w13.cell? ⟨w1.heap.size, 1, none⟩ = some (.slice l15.a l15.len l15.cap) ∧ K (.agg #[.int .i64 n14, .slice l15.a l15.len l15.cap]) w13
theorem eq92 (a0_0 : Int) (a0_1 : Sl) (w : World) (K : Value → World → Prop) : denFn Try.prog tt Try.f92 an92 [.agg #[.int .i64 a0_0, .slice a0_1.a a0_1.len a0_1.cap]] w K = W92 a0_0 a0_1 w K := by kernel_rfl
theorem ok92 : OkFn Try.prog 92 := ⟨Try.f92, Try.func92, by kernel_rfl, by kernel_rfl⟩
theorem go92 {a0_0 : Int} {a0_1 : Sl} {w : World} {K : Value → World → Prop} (h : W92 a0_0 a0_1 w K) : CallW Try.prog 92 #[.agg #[.int .i64 a0_0, .slice a0_1.a a0_1.len a0_1.cap]] w K :=
  .inl ⟨ok92, denFn_sound tt_ok mix Try.func92 (by kernel_rfl) (eq92 a0_0 a0_1 w K ▸ h)⟩

/- loop.example/g00008/impl.JnlRead -/
def an93 : Ann := (.seq .leaf (.seq (.seq (.reg [(4, none), (4, some (5, [(18, .bool)]))]) (.cond (.seq .leaf .leaf) .leaf)) (.seq .leaf (.seq .leaf (.seq .leaf (.seq (.seq .leaf (.cond (.seq .leaf .leaf) .leaf)) (.seq .leaf (.seq (.draw [0, 1, 0, 4, 15] [0, 1, 2, 3, 4]) (.seq .leaf (.seq (.seq .leaf (.cond (.seq .leaf .leaf) .leaf)) (.seq .leaf (.seq (.seq (.reg [(3, none), (4, some (61, [(60, .bool)]))]) (.cond (.seq .leaf .leaf) .leaf)) (.seq (.seq .leaf (.cond (.seq .leaf (.seq .leaf .leaf)) .leaf)) (.seq .leaf (.seq (.seq (.draw [0, 1, 0, 0, 8, 28, 63, 127] [0, 2, 3, 4, 5, 1, 6, 7]) (.cond (.seq .leaf .leaf) .leaf)) (.seq .leaf (.seq .leaf (.seq (.seq .leaf (.in_ (.loop 151115727451828646838325 [(7, .slice), (8, .int .u64), (78, .int .i64)] (.seq .leaf (.seq (.cond .leaf .leaf) (.seq (.in_ (.seq .leaf (.seq .leaf (.seq (.seq (.reg [(4, none), (7, some (453347182355485940516533, [(95, .bool)])), (1, none), (12, some (453347182355485940516021, [(108, .bool)]))]) (.cond (.seq .leaf .leaf) .leaf)) (.seq .leaf .leaf))))) .leaf)))))) (.seq (.seq .leaf (.cond (.seq .leaf .leaf) .leaf)) (.seq .leaf (.seq .leaf .leaf)))))))))))))))))))))
def W93 (a0 : Sl) (w : World) (K : Value → World → Prop) : Prop :=
  LetW (w.alloc (.cells #[.int .i64 0, .int .u64 0, .slice none 0 0] 126)) fun w1 => CallW Try.prog 106 #[.slice a0.a a0.len a0.cap] w1 fun v2 w3 => ∃ b4 : Bool, v2 = .bool b4 ∧ JoinW [.bool] (fun J6 => BIf (!b4) (J6 true w3) (J6 (decide ((((a0.len : Nat) : Int) : Int) < 2688)) w3)) (fun (b5 : Bool) w7 => BIf b5 (MayN w7 ⟨w.heap.size, 0, none⟩ 3 ∧ LetW (puts w7 ⟨w.heap.size, 0, none⟩ 0 [.int .i64 0, .int .u64 0, .slice none 0 0]) fun w8 => ∃ n9 : Int, w8.cell? ⟨w.heap.size, 0, none⟩ = some (.int .i64 n9) ∧ ∃ n10 : Int, w8.cell? ⟨w.heap.size, 1, none⟩ = some (.int .u64 n10) ∧ ∃ l11 : Sl, w8.cell? ⟨w.heap.size, 2, none⟩ = some (.slice l11.a l11.len l11.cap) ∧ K (.agg #[.int .i64 n9, .int .u64 n10, .slice l11.a l11.len l11.cap]) w8) (0 ≤ (128 : Int) ∧ (128 : Int) ≤ ((a0.cap : Nat) : Int) ∧ 0 ≤ (384 : Int) ∧ (384 : Int) ≤ ((a0.cap : Nat) : Int) ∧ 0 ≤ (128 : Int) ∧ (128 : Int) ≤ (384 : Int) ∧ CallW Try.prog 146 #[.slice (cutA a0.a a0.cap (Int.toNat 0) 1) (Int.toNat 128 - Int.toNat 0) (a0.cap - Int.toNat 0), .int .i64 24] w7 fun v12 w13 => ∃ n14 : Int, v12 = .int .u64 n14 ∧ BIf (decide ((n14 : Int) > 16)) (MayN w13 ⟨w.heap.size, 0, none⟩ 3 ∧ LetW (puts w13 ⟨w.heap.size, 0, none⟩ 0 [.int .i64 4, .int .u64 0, .slice none 0 0]) fun w15 => ∃ n16 : Int, w15.cell? ⟨w.heap.size, 0, none⟩ = some (.int .i64 n16) ∧ ∃ n17 : Int, w15.cell? ⟨w.heap.size, 1, none⟩ = some (.int .u64 n17) ∧ ∃ l18 : Sl, w15.cell? ⟨w.heap.size, 2, none⟩ = some (.slice l18.a l18.len l18.cap) ∧ K (.agg #[.int .i64 n16, .int .u64 n17, .slice l18.a l18.len l18.cap]) w15) (CallW Try.prog 146 #[.slice (cutA a0.a a0.cap (Int.toNat 0) 1) (Int.toNat 128 - Int.toNat 0) (a0.cap - Int.toNat 0), .int .i64 16] w13 fun v19 w20 => ∃ n21 : Int, v19 = .int .u64 n21 ∧ CallW Try.prog 96 #[.int .u64 n21, .slice (cutA a0.a a0.cap (Int.toNat 128) 1) (Int.toNat 384 - Int.toNat 128) (a0.cap - Int.toNat 128), .int .i64 (IntKind.wrap .i64 n14)] w20 fun v22 w23 => ∃ l24 : Sl, v22 = .slice l24.a l24.len l24.cap ∧ 0 ≤ (40 : Int) ∧ (40 : Int) ≤ ((l24.cap : Nat) : Int) ∧ 0 ≤ (32 : Int) ∧ (32 : Int) ≤ (40 : Int) ∧ 0 ≤ (40 : Int) ∧ (40 : Int) ≤ ((a0.cap - Int.toNat 0 : Nat) : Int) ∧ 0 ≤ (32 : Int) ∧ (32 : Int) ≤ (40 : Int) ∧ ∃ vs26, RowAt w23.drew (cutA (cutA a0.a a0.cap (Int.toNat 0) 1) (a0.cap - Int.toNat 0) (Int.toNat 32) 1) ((min (Int.toNat 40 - Int.toNat 32) (Int.toNat 40 - Int.toNat 32)) * 1) vs26 ∧ (∀ v, v ∈ vs26 → plainB v = true) ∧ CopyW (cutA l24.a l24.cap (Int.toNat 32) 1) w23.drew vs26 vs26.length fun w25 => 0 ≤ (40 : Int) ∧ (40 : Int) ≤ ((l24.cap : Nat) : Int) ∧ CallW Try.prog 70 #[.slice (cutA l24.a l24.cap (Int.toNat 0) 1) (Int.toNat 40 - Int.toNat 0) (l24.cap - Int.toNat 0)] w25 fun v27 w28 => ∃ n29 : Int, v27 = .int .u64 n29 ∧ CallW Try.prog 94 #[.slice l24.a l24.len l24.cap, .int .i64 40, .int .u64 n29] w28 fun v30 w31 => v30 = .tuple #[] ∧ ∃ xs32 : List Int, RowAt w31 l24.a l24.len (xs32.map (Value.int .u8)) ∧ ∃ xs33 : List Int, RowAt w31 (cutA a0.a a0.cap (Int.toNat 0) 1) (Int.toNat 128 - Int.toNat 0) (xs33.map (Value.int .u8)) ∧ BIf (!strEq (strOfNums xs32) (strOfNums xs33)) (MayN w31 ⟨w.heap.size, 0, none⟩ 3 ∧ LetW (puts w31 ⟨w.heap.size, 0, none⟩ 0 [.int .i64 4, .int .u64 0, .slice none 0 0]) fun w34 => ∃ n35 : Int, w34.cell? ⟨w.heap.size, 0, none⟩ = some (.int .i64 n35) ∧ ∃ n36 : Int, w34.cell? ⟨w.heap.size, 1, none⟩ = some (.int .u64 n36) ∧ ∃ l37 : Sl, w34.cell? ⟨w.heap.size, 2, none⟩ = some (.slice l37.a l37.len l37.cap) ∧ K (.agg #[.int .i64 n35, .int .u64 n36, .slice l37.a l37.len l37.cap]) w34) (CallW Try.prog 146 #[.slice (cutA a0.a a0.cap (Int.toNat 0) 1) (Int.toNat 128 - Int.toNat 0) (a0.cap - Int.toNat 0), .int .i64 16] w31 fun v38 w39 => ∃ n40 : Int, v38 = .int .u64 n40 ∧ May w39 ⟨w.heap.size, 1, none⟩ ∧ LetW (w39.setCell ⟨w.heap.size, 1, none⟩ (.int .u64 n40)) fun w41 => JoinW [.bool] (fun J43 => BIf ((n14 : Int) == 0) (CallW Try.prog 146 #[.slice (cutA a0.a a0.cap (Int.toNat 0) 1) (Int.toNat 128 - Int.toNat 0) (a0.cap - Int.toNat 0), .int .i64 32] w41 fun v123 w124 => ∃ n125 : Int, v123 = .int .u64 n125 ∧ J43 ((n125 : Int) != 0) w124) (J43 false w41)) (fun (b42 : Bool) w44 => BIf b42 (MayN w44 ⟨w.heap.size, 0, none⟩ 3 ∧ LetW (puts w44 ⟨w.heap.size, 0, none⟩ 0 [.int .i64 4, .int .u64 0, .slice none 0 0]) fun w45 => ∃ n46 : Int, w45.cell? ⟨w.heap.size, 0, none⟩ = some (.int .i64 n46) ∧ ∃ n47 : Int, w45.cell? ⟨w.heap.size, 1, none⟩ = some (.int .u64 n47) ∧ ∃ l48 : Sl, w45.cell? ⟨w.heap.size, 2, none⟩ = some (.slice l48.a l48.len l48.cap) ∧ K (.agg #[.int .i64 n46, .int .u64 n47, .slice l48.a l48.len l48.cap]) w45) (BIf ((n14 : Int) == 0) (May w44 ⟨w.heap.size, 0, none⟩ ∧ LetW (w44.setCell ⟨w.heap.size, 0, none⟩ (.int .i64 1)) fun w49 => ∃ n50 : Int, w49.cell? ⟨w.heap.size, 0, none⟩ = some (.int .i64 n50) ∧ ∃ n51 : Int, w49.cell? ⟨w.heap.size, 1, none⟩ = some (.int .u64 n51) ∧ ∃ l52 : Sl, w49.cell? ⟨w.heap.size, 2, none⟩ = some (.slice l52.a l52.len l52.cap) ∧ MayN w49 ⟨w.heap.size, 0, none⟩ 3 ∧ LetW (puts w49 ⟨w.heap.size, 0, none⟩ 0 [.int .i64 n50, .int .u64 n51, .slice l52.a l52.len l52.cap]) fun w53 => ∃ n54 : Int, w53.cell? ⟨w.heap.size, 0, none⟩ = some (.int .i64 n54) ∧ ∃ n55 : Int, w53.cell? ⟨w.heap.size, 1, none⟩ = some (.int .u64 n55) ∧ ∃ l56 : Sl, w53.cell? ⟨w.heap.size, 2, none⟩ = some (.slice l56.a l56.len l56.cap) ∧ K (.agg #[.int .i64 n54, .int .u64 n55, .slice l56.a l56.len l56.cap]) w53) (May w44 ⟨w.heap.size, 0, none⟩ ∧ LetW (w44.setCell ⟨w.heap.size, 0, none⟩ (.int .i64 3)) fun w57 => 0 ≤ (IntKind.wrap .u64 (16 * n14) : Int) ∧ (IntKind.wrap .u64 (16 * n14) : Int) ≤ ((a0.cap - Int.toNat 128 : Nat) : Int) ∧ CallW Try.prog 146 #[.slice (cutA a0.a a0.cap (Int.toNat 0) 1) (Int.toNat 128 - Int.toNat 0) (a0.cap - Int.toNat 0), .int .i64 32] w57.drew fun v58 w59 => ∃ n60 : Int, v58 = .int .u64 n60 ∧ CallW Try.prog 70 #[.slice (cutA (cutA a0.a a0.cap (Int.toNat 128) 1) (a0.cap - Int.toNat 128) (Int.toNat 0) 1) (Int.toNat (IntKind.wrap .u64 (16 * n14)) - Int.toNat 0) ((a0.cap - Int.toNat 128) - Int.toNat 0)] w59 fun v61 w62 => ∃ n63 : Int, v61 = .int .u64 n63 ∧ BIf ((n60 : Int) != n63) (∃ n64 : Int, w62.cell? ⟨w.heap.size, 0, none⟩ = some (.int .i64 n64) ∧ ∃ n65 : Int, w62.cell? ⟨w.heap.size, 1, none⟩ = some (.int .u64 n65) ∧ ∃ l66 : Sl, w62.cell? ⟨w.heap.size, 2, none⟩ = some (.slice l66.a l66.len l66.cap) ∧ MayN w62 ⟨w.heap.size, 0, none⟩ 3 ∧ LetW (puts w62 ⟨w.heap.size, 0, none⟩ 0 [.int .i64 n64, .int .u64 n65, .slice l66.a l66.len l66.cap]) fun w67 => ∃ n68 : Int, w67.cell? ⟨w.heap.size, 0, none⟩ = some (.int .i64 n68) ∧ ∃ n69 : Int, w67.cell? ⟨w.heap.size, 1, none⟩ = some (.int .u64 n69) ∧ ∃ l70 : Sl, w67.cell? ⟨w.heap.size, 2, none⟩ = some (.slice l70.a l70.len l70.cap) ∧ K (.agg #[.int .i64 n68, .int .u64 n69, .slice l70.a l70.len l70.cap]) w67) (LoopW [.slice, .int .u64, .int .i64] (fun J74 => fun (l71 : Sl) (n72 : Int) (n73 : Int) w75 => BIf (decide ((n73 : Int) < (IntKind.wrap .i64 n14))) (CallW Try.prog 146 #[.slice (cutA a0.a a0.cap (Int.toNat 128) 1) (Int.toNat 384 - Int.toNat 128) (a0.cap - Int.toNat 128), .int .i64 (IntKind.wrap .i64 (16 * n73))] w75 fun v76 w77 => ∃ n78 : Int, v76 = .int .u64 n78 ∧ JoinW [.bool] (fun J80 => BIf (decide ((n78 : Int) ≤ n72)) (J80 true w77) ((128 : Int) ≠ 0 ∧ J80 (decide ((n78 : Int) ≥ (IntKind.wrap .u64 (IntKind.wrap .i64 (Int.tdiv ((a0.len : Nat) : Int) 128))))) w77)) (fun (b79 : Bool) w81 => JoinW [.bool] (fun J83 => BIf b79 (J83 true w81) (CallW Try.prog 146 #[.slice (cutA a0.a a0.cap (Int.toNat 128) 1) (Int.toNat 384 - Int.toNat 128) (a0.cap - Int.toNat 128), .int .i64 (IntKind.wrap .i64 ((IntKind.wrap .i64 (16 * n73)) + 8))] w81 fun v95 w96 => ∃ n97 : Int, v95 = .int .u64 n97 ∧ CallW Try.prog 95 #[.slice a0.a a0.len a0.cap, .int .i64 (IntKind.wrap .i64 (3 + n73))] w96 fun v98 w99 => ∃ l100 : Sl, v98 = .slice l100.a l100.len l100.cap ∧ CallW Try.prog 70 #[.slice l100.a l100.len l100.cap] w99 fun v101 w102 => ∃ n103 : Int, v101 = .int .u64 n103 ∧ J83 ((n97 : Int) != n103) w102)) (fun (b82 : Bool) w84 => BIf b82 (∃ n85 : Int, w84.cell? ⟨w.heap.size, 0, none⟩ = some (.int .i64 n85) ∧ ∃ n86 : Int, w84.cell? ⟨w.heap.size, 1, none⟩ = some (.int .u64 n86) ∧ ∃ l87 : Sl, w84.cell? ⟨w.heap.size, 2, none⟩ = some (.slice l87.a l87.len l87.cap) ∧ MayN w84 ⟨w.heap.size, 0, none⟩ 3 ∧ LetW (puts w84 ⟨w.heap.size, 0, none⟩ 0 [.int .i64 n85, .int .u64 n86, .slice l87.a l87.len l87.cap]) fun w88 => ∃ n89 : Int, w88.cell? ⟨w.heap.size, 0, none⟩ = some (.int .i64 n89) ∧ ∃ n90 : Int, w88.cell? ⟨w.heap.size, 1, none⟩ = some (.int .u64 n90) ∧ ∃ l91 : Sl, w88.cell? ⟨w.heap.size, 2, none⟩ = some (.slice l91.a l91.len l91.cap) ∧ K (.agg #[.int .i64 n89, .int .u64 n90, .slice l91.a l91.len l91.cap]) w88) (LetW (w84.alloc (.cells #[.int .i64 (IntKind.wrap .i64 n78)] 2)) fun w92 => AppendW 2 ti2 l71 ⟨some ⟨w84.heap.size, 0, none⟩, 1, 1⟩ w92 fun l93 w94 => J74 l93 n78 (IntKind.wrap .i64 (n73 + 1)) w94)))) (0 ≤ (IntKind.wrap .u64 (16 * n14) : Int) ∧ (IntKind.wrap .u64 (16 * n14) : Int) ≤ ((Int.toNat 384 - Int.toNat 128 : Nat) : Int) ∧ CallW Try.prog 147 #[.slice (cutA (cutA a0.a a0.cap (Int.toNat 128) 1) (a0.cap - Int.toNat 128) (Int.toNat (IntKind.wrap .u64 (16 * n14))) 1) (Int.toNat ((Int.toNat 384 - Int.toNat 128 : Nat) : Int) - Int.toNat (IntKind.wrap .u64 (16 * n14))) ((a0.cap - Int.toNat 128) - Int.toNat (IntKind.wrap .u64 (16 * n14)))] w75 fun v104 w105 => ∃ b106 : Bool, v104 = .bool b106 ∧ BIf (!b106) (∃ n107 : Int, w105.cell? ⟨w.heap.size, 0, none⟩ = some (.int .i64 n107) ∧ ∃ n108 : Int, w105.cell? ⟨w.heap.size, 1, none⟩ = some (.int .u64 n108) ∧ ∃ l109 : Sl, w105.cell? ⟨w.heap.size, 2, none⟩ = some (.slice l109.a l109.len l109.cap) ∧ MayN w105 ⟨w.heap.size, 0, none⟩ 3 ∧ LetW (puts w105 ⟨w.heap.size, 0, none⟩ 0 [.int .i64 n107, .int .u64 n108, .slice l109.a l109.len l109.cap]) fun w110 => ∃ n111 : Int, w110.cell? ⟨w.heap.size, 0, none⟩ = some (.int .i64 n111) ∧ ∃ n112 : Int, w110.cell? ⟨w.heap.size, 1, none⟩ = some (.int .u64 n112) ∧ ∃ l113 : Sl, w110.cell? ⟨w.heap.size, 2, none⟩ = some (.slice l113.a l113.len l113.cap) ∧ K (.agg #[.int .i64 n111, .int .u64 n112, .slice l113.a l113.len l113.cap]) w110) (May w105 ⟨w.heap.size, 0, none⟩ ∧ LetW (w105.setCell ⟨w.heap.size, 0, none⟩ (.int .i64 2)) fun w114 => May w114 ⟨w.heap.size, 2, none⟩ ∧ LetW (w114.setCell ⟨w.heap.size, 2, none⟩ (.slice l71.a l71.len l71.cap)) fun w115 => ∃ n116 : Int, w115.cell? ⟨w.heap.size, 0, none⟩ = some (.int .i64 n116) ∧ ∃ n117 : Int, w115.cell? ⟨w.heap.size, 1, none⟩ = some (.int .u64 n117) ∧ ∃ l118 : Sl, w115.cell? ⟨w.heap.size, 2, none⟩ = some (.slice l118.a l118.len l118.cap) ∧ MayN w115 ⟨w.heap.size, 0, none⟩ 3 ∧ LetW (puts w115 ⟨w.heap.size, 0, none⟩ 0 [.int .i64 n116, .int .u64 n117, .slice l118.a l118.len l118.cap]) fun w119 => ∃ n120 : Int, w119.cell? ⟨w.heap.size, 0, none⟩ = some (.int .i64 n120) ∧ ∃ n121 : Int, w119.cell? ⟨w.heap.size, 1, none⟩ = some (.int .u64 n121) ∧ ∃ l122 : Sl, w119.cell? ⟨w.heap.size, 2, none⟩ = some (.slice l122.a l122.len l122.cap) ∧ K (.agg #[.int .i64 n120, .int .u64 n121, .slice l122.a l122.len l122.cap]) w119))) ((⟨none, 0, 0⟩ : Sl), ((19 : Int), ((0 : Int), ()))) w62))))))))
theorem eq93 (a0 : Sl) (w : World) (K : Value → World → Prop) : denFn Try.prog tt Try.f93 an93 [.slice a0.a a0.len a0.cap] w K = W93 a0 w K := by kernel_rfl
theorem ok93 : OkFn Try.prog 93 := ⟨Try.f93, Try.func93, by kernel_rfl, by kernel_rfl⟩
theorem go93 {a0 : Sl} {w : World} {K : Value → World → Prop} (h : W93 a0 w K) : CallW Try.prog 93 #[.slice a0.a a0.len a0.cap] w K :=
  .inl ⟨ok93, denFn_sound tt_ok mix Try.func93 (by kernel_rfl) (eq93 a0 w K ▸ h)⟩

/- loop.example/g00008/impl.put8 -/
def an94 : Ann := (.seq .leaf (.in_ (.loop 7 [(7, .int .i64)] (.seq .leaf (.seq (.cond .leaf .leaf) (.seq (.in_ (.seq .leaf .leaf)) .leaf))))))
def W94 (a0 : Sl) (a1 : Int) (a2 : Int) (w : World) (K : Value → World → Prop) : Prop :=
  LoopW [.int .i64] (fun J2 => fun (n1 : Int) w3 => BIf (decide ((n1 : Int) < 8)) (0 ≤ (IntKind.wrap .i64 (8 * n1) : Int) ∧ 0 ≤ (IntKind.wrap .i64 (a1 + n1) : Int) ∧ (IntKind.wrap .i64 (a1 + n1) : Int) < ((a0.len : Nat) : Int) ∧ ∃ q4 : Addr, (a0.a : Option Addr) = some q4 ∧ May w3 (q4.add (Int.toNat (IntKind.wrap .i64 (a1 + n1)) * 1)) ∧ LetW (w3.setCell (q4.add (Int.toNat (IntKind.wrap .i64 (a1 + n1)) * 1)) (.int .u8 (IntKind.wrap .u8 (shrI .u64 a2 (IntKind.wrap .i64 (8 * n1)))))) fun w5 => J2 (IntKind.wrap .i64 (n1 + 1)) w5) (K (.tuple #[]) w3)) ((0 : Int), ()) w
theorem eq94 (a0 : Sl) (a1 : Int) (a2 : Int) (w : World) (K : Value → World → Prop) : denFn Try.prog tt Try.f94 an94 [.slice a0.a a0.len a0.cap, .int .i64 a1, .int .u64 a2] w K = W94 a0 a1 a2 w K := by kernel_rfl
theorem ok94 : OkFn Try.prog 94 := ⟨Try.f94, Try.func94, by kernel_rfl, by kernel_rfl⟩
theorem go94 {a0 : Sl} {a1 : Int} {a2 : Int} {w : World} {K : Value → World → Prop} (h : W94 a0 a1 a2 w K) : CallW Try.prog 94 #[.slice a0.a a0.len a0.cap, .int .i64 a1, .int .u64 a2] w K :=
  .inl ⟨ok94, denFn_sound tt_ok mix Try.func94 (by kernel_rfl) (eq94 a0 a1 a2 w K ▸ h)⟩

/- loop.example/g00008/impl.sectorOf -/
def an95 : Ann := (.seq .leaf (.seq .leaf .leaf))
def W95 (a0 : Sl) (a1 : Int) (w : World) (K : Value → World → Prop) : Prop :=
  0 ≤ (IntKind.wrap .i64 ((IntKind.wrap .i64 (a1 + 1)) * 128) : Int) ∧ (IntKind.wrap .i64 ((IntKind.wrap .i64 (a1 + 1)) * 128) : Int) ≤ ((a0.cap : Nat) : Int) ∧ 0 ≤ (IntKind.wrap .i64 (a1 * 128) : Int) ∧ (IntKind.wrap .i64 (a1 * 128) : Int) ≤ (IntKind.wrap .i64 ((IntKind.wrap .i64 (a1 + 1)) * 128) : Int) ∧ AppendW 5 ti5 ⟨none, 0, 0⟩ ⟨cutA a0.a a0.cap (Int.toNat (IntKind.wrap .i64 (a1 * 128))) 1, Int.toNat (IntKind.wrap .i64 ((IntKind.wrap .i64 (a1 + 1)) * 128)) - Int.toNat (IntKind.wrap .i64 (a1 * 128)), a0.cap - Int.toNat (IntKind.wrap .i64 (a1 * 128))⟩ w fun l1 w2 => K (.slice l1.a l1.len l1.cap) w2
theorem eq95 (a0 : Sl) (a1 : Int) (w : World) (K : Value → World → Prop) : denFn Try.prog tt Try.f95 an95 [.slice a0.a a0.len a0.cap, .int .i64 a1] w K = W95 a0 a1 w K := by kernel_rfl
theorem ok95 : OkFn Try.prog 95 := ⟨Try.f95, Try.func95, by kernel_rfl, by kernel_rfl⟩
theorem go95 {a0 : Sl} {a1 : Int} {w : World} {K : Value → World → Prop} (h : W95 a0 a1 w K) : CallW Try.prog 95 #[.slice a0.a a0.len a0.cap, .int .i64 a1] w K :=
  .inl ⟨ok95, denFn_sound tt_ok mix Try.func95 (by kernel_rfl) (eq95 a0 a1 w K ▸ h)⟩

/- loop.example/g00008/impl.jnlHead -/
def an96 : Ann := (.seq .leaf (.seq .leaf (.seq .leaf (.seq .leaf (.seq .leaf (.seq .leaf (.seq .leaf (.seq .leaf .leaf))))))))
def W96 (a0 : Int) (a1 : Sl) (a2 : Int) (w : World) (K : Value → World → Prop) : Prop :=
  0 ≤ (128 : Int) ∧ (128 : Int) ≤ (128 : Int) ∧ (128 : Int) * 1 ≤ (140737488355328 : Int) ∧ 0 < 1 ∧ LetW (w.alloc (.cells ⟨zerosOf ti5.zero (Int.toNat 128)⟩ 5)) fun w1 => CopyW (some ⟨w.heap.size, 0, none⟩) w1 (((⟨#[75, 74, 78, 76]⟩ : ByteArray).data.toList.take (min (⟨#[75, 74, 78, 76]⟩ : ByteArray).size (Int.toNat 128))).map fun b => .int .u8 (b.toNat : Int)) (min (⟨#[75, 74, 78, 76]⟩ : ByteArray).size (Int.toNat 128)) fun w2 => CallW Try.prog 94 #[.slice (some ⟨w.heap.size, 0, none⟩) (Int.toNat 128) (Int.toNat 128), .int .i64 16, .int .u64 a0] w2 fun v3 w4 => v3 = .tuple #[] ∧ CallW Try.prog 94 #[.slice (some ⟨w.heap.size, 0, none⟩) (Int.toNat 128) (Int.toNat 128), .int .i64 24, .int .u64 (IntKind.wrap .u64 a2)] w4 fun v5 w6 => v5 = .tuple #[] ∧ 0 ≤ (IntKind.wrap .i64 (16 * a2) : Int) ∧ (IntKind.wrap .i64 (16 * a2) : Int) ≤ ((a1.cap : Nat) : Int) ∧ CallW Try.prog 70 #[.slice (cutA a1.a a1.cap (Int.toNat 0) 1) (Int.toNat (IntKind.wrap .i64 (16 * a2)) - Int.toNat 0) (a1.cap - Int.toNat 0)] w6 fun v7 w8 => ∃ n9 : Int, v7 = .int .u64 n9 ∧ CallW Try.prog 94 #[.slice (some ⟨w.heap.size, 0, none⟩) (Int.toNat 128) (Int.toNat 128), .int .i64 32, .int .u64 n9] w8 fun v10 w11 => v10 = .tuple #[] ∧ 0 ≤ (40 : Int) ∧ (40 : Int) ≤ ((Int.toNat 128 : Nat) : Int) ∧ CallW Try.prog 70 #[.slice (cutA (some ⟨w.heap.size, 0, none⟩) (Int.toNat 128) (Int.toNat 0) 1) (Int.toNat 40 - Int.toNat 0) ((Int.toNat 128) - Int.toNat 0)] w11 fun v12 w13 => ∃ n14 : Int, v12 = .int .u64 n14 ∧ CallW Try.prog 94 #[.slice (some ⟨w.heap.size, 0, none⟩) (Int.toNat 128) (Int.toNat 128), .int .i64 40, .int .u64 n14] w13 fun v15 w16 => v15 = .tuple #[] ∧ K (.slice (some ⟨w.heap.size, 0, none⟩) (Int.toNat 128) (Int.toNat 128)) w16
theorem eq96 (a0 : Int) (a1 : Sl) (a2 : Int) (w : World) (K : Value → World → Prop) : denFn Try.prog tt Try.f96 an96 [.int .u64 a0, .slice a1.a a1.len a1.cap, .int .i64 a2] w K = W96 a0 a1 a2 w K := by kernel_rfl
theorem ok96 : OkFn Try.prog 96 := ⟨Try.f96, Try.func96, by kernel_rfl, by kernel_rfl⟩
theorem go96 {a0 : Int} {a1 : Sl} {a2 : Int} {w : World} {K : Value → World → Prop} (h : W96 a0 a1 a2 w K) : CallW Try.prog 96 #[.int .u64 a0, .slice a1.a a1.len a1.cap, .int .i64 a2] w K :=
  .inl ⟨ok96, denFn_sound tt_ok mix Try.func96 (by kernel_rfl) (eq96 a0 a1 a2 w K ▸ h)⟩

/- loop.example/g00008/laws.eqDiskWrite -/
def an97 : Ann := (.seq .leaf (.seq (.seq .leaf (.cond (.seq .leaf .leaf) .leaf)) (.seq (.seq .leaf (.cond (.seq .leaf .leaf) .leaf)) (.seq .leaf .leaf))))
def W97 (a0_0 : Int) (a0_1 : Sl) (a1_0 : Int) (a1_1 : Sl) (w : World) (K : Value → World → Prop) : Prop :=
  LetW (w.alloc (.cells #[.int .i64 a0_0, .slice a0_1.a a0_1.len a0_1.cap] 128)) fun w1 => LetW (w1.alloc (.cells #[.int .i64 a1_0, .slice a1_1.a a1_1.len a1_1.cap] 128)) fun w2 => ∃ n3 : Int, w2.cell? ⟨w.heap.size, 0, none⟩ = some (.int .i64 n3) ∧ ∃ n4 : Int, w2.cell? ⟨w1.heap.size, 0, none⟩ = some (.int .i64 n4) ∧ BIf ((n3 : Int) != n4) (K (.bool false) w2) (∃ l5 : Sl, w2.cell? ⟨w.heap.size, 1, none⟩ = some (.slice l5.a l5.len l5.cap) ∧ ∃ l6 : Sl, w2.cell? ⟨w1.heap.size, 1, none⟩ = some (.slice l6.a l6.len l6.cap) ∧ CallW Try.prog 34 #[.slice l5.a l5.len l5.cap, .slice l6.a l6.len l6.cap] w2 fun v7 w8 => ∃ b9 : Bool, v7 = .bool b9 ∧ BIf (!b9) (K (.bool false) w8) (K (.bool true) w8))
theorem eq97 (a0_0 : Int) (a0_1 : Sl) (a1_0 : Int) (a1_1 : Sl) (w : World) (K : Value → World → Prop) : denFn Try.prog tt Try.f97 an97 [.agg #[.int .i64 a0_0, .slice a0_1.a a0_1.len a0_1.cap], .agg #[.int .i64 a1_0, .slice a1_1.a a1_1.len a1_1.cap]] w K = W97 a0_0 a0_1 a1_0 a1_1 w K := by kernel_rfl
theorem ok97 : OkFn Try.prog 97 := ⟨Try.f97, Try.func97, by kernel_rfl, by kernel_rfl⟩
theorem go97 {a0_0 : Int} {a0_1 : Sl} {a1_0 : Int} {a1_1 : Sl} {w : World} {K : Value → World → Prop} (h : W97 a0_0 a0_1 a1_0 a1_1 w K) : CallW Try.prog 97 #[.agg #[.int .i64 a0_0, .slice a0_1.a a0_1.len a0_1.cap], .agg #[.int .i64 a1_0, .slice a1_1.a a1_1.len a1_1.cap]] w K :=
  .inl ⟨ok97, denFn_sound tt_ok mix Try.func97 (by kernel_rfl) (eq97 a0_0 a0_1 a1_0 a1_1 w K ▸ h)⟩

/- loop.example/g00008/spec.DiskAfter -/
def an98 : Ann := (.seq .leaf (.seq (.seq .leaf (.cond (.seq .leaf .leaf) .leaf)) (.seq .leaf (.seq (.seq .leaf (.in_ (.loop 67 [(7, .int .i64)] (.seq (.seq .leaf (.cond .leaf .leaf)) (.seq (.in_ (.seq .leaf (.seq (.seq (.reg [(6, none), (5, some (451, [(37, .bool)]))]) (.cond (.seq .leaf .leaf) .leaf)) (.seq .leaf (.in_ (.loop 451 [(9, .int .i64)] (.seq (.seq .leaf (.cond .leaf .leaf)) (.seq (.in_ (.draw [0, 0, 2, 6, 0, 30, 0, 64, 0, 448, 960, 2047, 4095] [0, 1, 2, 3, 4, 5, 6, 7, 8, 9, 10, 11, 12])) .leaf)))))))) .leaf))))) (.seq .leaf .leaf)))))
def W98 (a0 : Sl) (a1 : Sl) (w : World) (K : Value → World → Prop) : Prop :=
  CallW Try.prog 148 #[.slice a0.a a0.len a0.cap] w fun v1 w2 => ∃ b3 : Bool, v1 = .bool b3 ∧ BIf (!b3) (LetW (w2.alloc (.cells #[] 5)) fun w4 => K (.tuple #[.slice (some ⟨w2.heap.size, 0, none⟩) 0 0, .bool false]) w4) (LetW (w2.alloc (.cells #[] 5)) fun w5 => AppendW 5 ti5 ⟨some ⟨w2.heap.size, 0, none⟩, 0, 0⟩ a0 w5 fun l6 w7 => LoopW [.int .i64] (fun J9 => fun (n8 : Int) w10 => BIf (decide ((n8 : Int) < ((a1.len : Nat) : Int))) (0 ≤ (n8 : Int) ∧ (n8 : Int) < ((a1.len : Nat) : Int) ∧ ∃ q11 : Addr, (a1.a : Option Addr) = some q11 ∧ ∃ n12 : Int, w10.cell? ((q11.add (Int.toNat n8 * 2)).add 0) = some (.int .i64 n12) ∧ ∃ l13 : Sl, w10.cell? ((q11.add (Int.toNat n8 * 2)).add 1) = some (.slice l13.a l13.len l13.cap) ∧ LetW (w10.alloc (.cells #[.int .i64 0, .slice none 0 0] 128)) fun w14 => MayN w14 ⟨w10.heap.size, 0, none⟩ 2 ∧ LetW (puts w14 ⟨w10.heap.size, 0, none⟩ 0 [.int .i64 n12, .slice l13.a l13.len l13.cap]) fun w15 => ∃ n16 : Int, w15.cell? ⟨w10.heap.size, 0, none⟩ = some (.int .i64 n16) ∧ CallW Try.prog 87 #[.slice a0.a a0.len a0.cap, .int .i64 n16] w15 fun v17 w18 => ∃ b19 : Bool, v17 = .bool b19 ∧ JoinW [.bool] (fun J21 => BIf (!b19) (J21 true w18) (∃ l33 : Sl, w18.cell? ⟨w10.heap.size, 1, none⟩ = some (.slice l33.a l33.len l33.cap) ∧ J21 ((((l33.len : Nat) : Int) : Int) != 128) w18)) (fun (b20 : Bool) w22 => BIf b20 (LetW (w22.alloc (.cells #[] 5)) fun w23 => K (.tuple #[.slice (some ⟨w22.heap.size, 0, none⟩) 0 0, .bool false]) w23) (LoopW [.int .i64] (fun J25 => fun (n24 : Int) w26 => BIf (decide ((n24 : Int) < 128)) (∃ n27 : Int, w26.drew.cell? ⟨w10.heap.size, 0, none⟩ = some (.int .i64 n27) ∧ ∃ l28 : Sl, w26.drew.cell? ⟨w10.heap.size, 1, none⟩ = some (.slice l28.a l28.len l28.cap) ∧ 0 ≤ (n24 : Int) ∧ (n24 : Int) < ((l28.len : Nat) : Int) ∧ ∃ q29 : Addr, (l28.a : Option Addr) = some q29 ∧ ∃ n30 : Int, w26.drew.cell? (q29.add (Int.toNat n24 * 1)) = some (.int .u8 n30) ∧ 0 ≤ (IntKind.wrap .i64 ((IntKind.wrap .i64 (n27 * 128)) + n24) : Int) ∧ (IntKind.wrap .i64 ((IntKind.wrap .i64 (n27 * 128)) + n24) : Int) < ((l6.len : Nat) : Int) ∧ ∃ q31 : Addr, (l6.a : Option Addr) = some q31 ∧ May w26.drew (q31.add (Int.toNat (IntKind.wrap .i64 ((IntKind.wrap .i64 (n27 * 128)) + n24)) * 1)) ∧ LetW (w26.drew.setCell (q31.add (Int.toNat (IntKind.wrap .i64 ((IntKind.wrap .i64 (n27 * 128)) + n24)) * 1)) (.int .u8 n30)) fun w32 => J25 (IntKind.wrap .i64 (n24 + 1)) w32) (J9 (IntKind.wrap .i64 (n8 + 1)) w26)) ((0 : Int), ()) w22))) (K (.tuple #[.slice l6.a l6.len l6.cap, .bool true]) w10)) ((0 : Int), ()) w7)
theorem eq98 (a0 : Sl) (a1 : Sl) (w : World) (K : Value → World → Prop) : denFn Try.prog tt Try.f98 an98 [.slice a0.a a0.len a0.cap, .slice a1.a a1.len a1.cap] w K = W98 a0 a1 w K := by kernel_rfl
theorem ok98 : OkFn Try.prog 98 := ⟨Try.f98, Try.func98, by kernel_rfl, by kernel_rfl⟩
theorem go98 {a0 : Sl} {a1 : Sl} {w : World} {K : Value → World → Prop} (h : W98 a0 a1 w K) : CallW Try.prog 98 #[.slice a0.a a0.len a0.cap, .slice a1.a a1.len a1.cap] w K :=
  .inl ⟨ok98, denFn_sound tt_ok mix Try.func98 (by kernel_rfl) (eq98 a0 a1 w K ▸ h)⟩

/- loop.example/g00008/impl.diskOk -/
def an106 : Ann := (.seq .leaf (.seq (.reg [(5, none), (4, some (0, [(11, .bool)])), (1, none)]) .leaf))
def W106 (a0 : Sl) (w : World) (K : Value → World → Prop) : Prop :=
  (128 : Int) ≠ 0 ∧ JoinW [.bool] (fun J2 => BIf ((Int.tmod ((a0.len : Nat) : Int) 128 : Int) == 0) (J2 (decide ((((a0.len : Nat) : Int) : Int) ≤ 131072)) w) (J2 false w)) (fun (b1 : Bool) w3 => K (.bool b1) w3)
theorem eq106 (a0 : Sl) (w : World) (K : Value → World → Prop) : denFn Try.prog tt Try.f106 an106 [.slice a0.a a0.len a0.cap] w K = W106 a0 w K := by kernel_rfl
theorem ok106 : OkFn Try.prog 106 := ⟨Try.f106, Try.func106, by kernel_rfl, by kernel_rfl⟩
theorem go106 {a0 : Sl} {w : World} {K : Value → World → Prop} (h : W106 a0 w K) : CallW Try.prog 106 #[.slice a0.a a0.len a0.cap] w K :=
  .inl ⟨ok106, denFn_sound tt_ok mix Try.func106 (by kernel_rfl) (eq106 a0 w K ▸ h)⟩

/- loop.example/g00008/laws.szByteS -/
def an139 : Ann := (.seq .leaf (.seq .leaf (.seq (.seq .leaf (.cond (.seq .leaf .leaf) .leaf)) (.seq .leaf .leaf))))
def W139 (a0 : Sl) (a1 : Int) (w : World) (K : Value → World → Prop) : Prop :=
  BIf (decide ((IntKind.wrap .i64 (a1 - ((a0.len : Nat) : Int)) : Int) < 0)) (K (.int .i64 (-1)) w) (K (.int .i64 (IntKind.wrap .i64 (a1 - ((a0.len : Nat) : Int)))) w)
theorem eq139 (a0 : Sl) (a1 : Int) (w : World) (K : Value → World → Prop) : denFn Try.prog tt Try.f139 an139 [.slice a0.a a0.len a0.cap, .int .i64 a1] w K = W139 a0 a1 w K := by kernel_rfl
theorem ok139 : OkFn Try.prog 139 := ⟨Try.f139, Try.func139, by kernel_rfl, by kernel_rfl⟩
theorem go139 {a0 : Sl} {a1 : Int} {w : World} {K : Value → World → Prop} (h : W139 a0 a1 w K) : CallW Try.prog 139 #[.slice a0.a a0.len a0.cap, .int .i64 a1] w K :=
  .inl ⟨ok139, denFn_sound tt_ok mix Try.func139 (by kernel_rfl) (eq139 a0 a1 w K ▸ h)⟩

/- loop.example/g00008/spec.l13Big -/
def an140 : Ann := (.seq .leaf (.seq (.reg [(3, none), (4, some (0, [(9, .bool)])), (1, none)]) .leaf))
def W140 (a0 : Sl) (w : World) (K : Value → World → Prop) : Prop :=
  CallW Try.prog 148 #[.slice a0.a a0.len a0.cap] w fun v1 w2 => ∃ b3 : Bool, v1 = .bool b3 ∧ JoinW [.bool] (fun J5 => BIf b3 (J5 (decide ((((a0.len : Nat) : Int) : Int) > 2560)) w2) (J5 false w2)) (fun (b4 : Bool) w6 => K (.bool b4) w6)
theorem eq140 (a0 : Sl) (w : World) (K : Value → World → Prop) : denFn Try.prog tt Try.f140 an140 [.slice a0.a a0.len a0.cap] w K = W140 a0 w K := by kernel_rfl
theorem ok140 : OkFn Try.prog 140 := ⟨Try.f140, Try.func140, by kernel_rfl, by kernel_rfl⟩
theorem go140 {a0 : Sl} {w : World} {K : Value → World → Prop} (h : W140 a0 w K) : CallW Try.prog 140 #[.slice a0.a a0.len a0.cap] w K :=
  .inl ⟨ok140, denFn_sound tt_ok mix Try.func140 (by kernel_rfl) (eq140 a0 w K ▸ h)⟩

/- loop.example/g00008/spec.l13Word -/
def an141 : Ann := (.seq .leaf (.seq .leaf (.seq .leaf .leaf)))
def W141 (a0 : Sl) (a1 : Int) (w : World) (K : Value → World → Prop) : Prop :=
  CallW Try.prog 171 #[.slice a0.a a0.len a0.cap, .int .i64 a1, .int .i64 8, .bool false] w fun v1 w2 => ∃ n3 : Int, ∃ b4 : Bool, v1 = .tuple #[.int .u64 n3, .bool b4] ∧ K (.int .u64 n3) w2
theorem eq141 (a0 : Sl) (a1 : Int) (w : World) (K : Value → World → Prop) : denFn Try.prog tt Try.f141 an141 [.slice a0.a a0.len a0.cap, .int .i64 a1] w K = W141 a0 a1 w K := by kernel_rfl
theorem ok141 : OkFn Try.prog 141 := ⟨Try.f141, Try.func141, by kernel_rfl, by kernel_rfl⟩
theorem go141 {a0 : Sl} {a1 : Int} {w : World} {K : Value → World → Prop} (h : W141 a0 a1 w K) : CallW Try.prog 141 #[.slice a0.a a0.len a0.cap, .int .i64 a1] w K :=
  .inl ⟨ok141, denFn_sound tt_ok mix Try.func141 (by kernel_rfl) (eq141 a0 a1 w K ▸ h)⟩

/- loop.example/g00008/spec.l12Same -/
def an142 : Ann := (.seq .leaf (.seq (.seq .leaf (.cond (.seq .leaf .leaf) .leaf)) (.seq (.seq .leaf (.in_ (.loop 3 [(5, .int .i64)] (.seq (.seq .leaf (.cond .leaf .leaf)) (.seq (.in_ (.seq (.draw [0, 0, 3, 7, 0, 0, 48, 112, 255] [0, 1, 2, 3, 4, 5, 6, 7, 8]) (.cond (.seq .leaf .leaf) .leaf))) .leaf))))) (.seq .leaf .leaf))))
def W142 (a0 : Sl) (a1 : Sl) (w : World) (K : Value → World → Prop) : Prop :=
  BIf ((((a0.len : Nat) : Int) : Int) != ((a1.len : Nat) : Int)) (K (.bool false) w) (LoopW [.int .i64] (fun J2 => fun (n1 : Int) w3 => BIf (decide ((n1 : Int) < ((a0.len : Nat) : Int))) (0 ≤ (n1 : Int) ∧ (n1 : Int) < ((a0.len : Nat) : Int) ∧ ∃ q4 : Addr, (a0.a : Option Addr) = some q4 ∧ ∃ n5 : Int, w3.drew.cell? (q4.add (Int.toNat n1 * 1)) = some (.int .u8 n5) ∧ 0 ≤ (n1 : Int) ∧ (n1 : Int) < ((a1.len : Nat) : Int) ∧ ∃ q6 : Addr, (a1.a : Option Addr) = some q6 ∧ ∃ n7 : Int, w3.drew.cell? (q6.add (Int.toNat n1 * 1)) = some (.int .u8 n7) ∧ BIf ((n5 : Int) != n7) (K (.bool false) w3.drew) (J2 (IntKind.wrap .i64 (n1 + 1)) w3.drew)) (K (.bool true) w3)) ((0 : Int), ()) w)
theorem eq142 (a0 : Sl) (a1 : Sl) (w : World) (K : Value → World → Prop) : denFn Try.prog tt Try.f142 an142 [.slice a0.a a0.len a0.cap, .slice a1.a a1.len a1.cap] w K = W142 a0 a1 w K := by kernel_rfl
theorem ok142 : OkFn Try.prog 142 := ⟨Try.f142, Try.func142, by kernel_rfl, by kernel_rfl⟩
theorem go142 {a0 : Sl} {a1 : Sl} {w : World} {K : Value → World → Prop} (h : W142 a0 a1 w K) : CallW Try.prog 142 #[.slice a0.a a0.len a0.cap, .slice a1.a a1.len a1.cap] w K :=
  .inl ⟨ok142, denFn_sound tt_ok mix Try.func142 (by kernel_rfl) (eq142 a0 a1 w K ▸ h)⟩

/- loop.example/g00008/spec.l12Get -/
def an143 : Ann := (.seq .leaf (.seq .leaf .leaf))
def W143 (a0 : Sl) (a1 : Int) (w : World) (K : Value → World → Prop) : Prop :=
  LetW (w.alloc (.cells #[] 5)) fun w1 => 0 ≤ (IntKind.wrap .i64 ((IntKind.wrap .i64 (a1 + 1)) * 128) : Int) ∧ (IntKind.wrap .i64 ((IntKind.wrap .i64 (a1 + 1)) * 128) : Int) ≤ ((a0.cap : Nat) : Int) ∧ 0 ≤ (IntKind.wrap .i64 (a1 * 128) : Int) ∧ (IntKind.wrap .i64 (a1 * 128) : Int) ≤ (IntKind.wrap .i64 ((IntKind.wrap .i64 (a1 + 1)) * 128) : Int) ∧ AppendW 5 ti5 ⟨some ⟨w.heap.size, 0, none⟩, 0, 0⟩ ⟨cutA a0.a a0.cap (Int.toNat (IntKind.wrap .i64 (a1 * 128))) 1, Int.toNat (IntKind.wrap .i64 ((IntKind.wrap .i64 (a1 + 1)) * 128)) - Int.toNat (IntKind.wrap .i64 (a1 * 128)), a0.cap - Int.toNat (IntKind.wrap .i64 (a1 * 128))⟩ w1 fun l2 w3 => K (.slice l2.a l2.len l2.cap) w3
theorem eq143 (a0 : Sl) (a1 : Int) (w : World) (K : Value → World → Prop) : denFn Try.prog tt Try.f143 an143 [.slice a0.a a0.len a0.cap, .int .i64 a1] w K = W143 a0 a1 w K := by kernel_rfl
theorem ok143 : OkFn Try.prog 143 := ⟨Try.f143, Try.func143, by kernel_rfl, by kernel_rfl⟩
theorem go143 {a0 : Sl} {a1 : Int} {w : World} {K : Value → World → Prop} (h : W143 a0 a1 w K) : CallW Try.prog 143 #[.slice a0.a a0.len a0.cap, .int .i64 a1] w K :=
  .inl ⟨ok143, denFn_sound tt_ok mix Try.func143 (by kernel_rfl) (eq143 a0 a1 w K ▸ h)⟩

/- loop.example/g00008/spec.l13List -/
def an144 : Ann := (.seq .leaf (.seq .leaf (.seq .leaf (.seq (.seq .leaf (.cond (.seq .leaf .leaf) .leaf)) (.seq (.seq .leaf (.in_ (.loop 259 [(9, .slice), (10, .int .i64)] (.seq (.seq .leaf (.cond .leaf .leaf)) (.seq (.in_ (.seq .leaf (.seq (.seq (.reg [(3, none), (7, some (3843, [(45, .bool)])), (1, none), (13, some (3843, [(59, .bool)]))]) (.cond (.seq .leaf .leaf) .leaf)) (.seq (.seq .leaf (.cond (.seq .leaf .leaf) .leaf)) .leaf)))) .leaf))))) (.seq (.seq .leaf (.in_ (.loop 769 [(12, .int .i64)] (.seq (.seq .leaf (.cond .leaf .leaf)) (.seq (.in_ (.seq .leaf (.cond (.seq .leaf .leaf) .leaf))) .leaf))))) (.seq .leaf .leaf)))))))
def W144 (a0 : Sl) (a1 : Int) (a2 : Int) (w : World) (K : Value → World → Prop) : Prop :=
  LetW (w.alloc (.cells #[] 2)) fun w1 => 0 ≤ (IntKind.wrap .i64 (128 + (IntKind.wrap .i64 (16 * a1))) : Int) ∧ (IntKind.wrap .i64 (128 + (IntKind.wrap .i64 (16 * a1))) : Int) ≤ ((a0.cap : Nat) : Int) ∧ 0 ≤ (128 : Int) ∧ (128 : Int) ≤ (IntKind.wrap .i64 (128 + (IntKind.wrap .i64 (16 * a1))) : Int) ∧ CallW Try.prog 82 #[.slice (cutA a0.a a0.cap (Int.toNat 128) 1) (Int.toNat (IntKind.wrap .i64 (128 + (IntKind.wrap .i64 (16 * a1)))) - Int.toNat 128) (a0.cap - Int.toNat 128)] w1 fun v2 w3 => ∃ n4 : Int, v2 = .int .u64 n4 ∧ BIf ((n4 : Int) != a2) (K (.tuple #[.slice (some ⟨w.heap.size, 0, none⟩) 0 0, .bool false]) w3) (LoopW [.slice, .int .i64] (fun J7 => fun (l5 : Sl) (n6 : Int) w8 => BIf (decide ((n6 : Int) < a1)) (CallW Try.prog 141 #[.slice a0.a a0.len a0.cap, .int .i64 (IntKind.wrap .i64 (128 + (IntKind.wrap .i64 (16 * n6))))] w8 fun v9 w10 => ∃ n11 : Int, v9 = .int .u64 n11 ∧ JoinW [.bool] (fun J13 => BIf (decide ((n11 : Int) < 20)) (J13 true w10) ((128 : Int) ≠ 0 ∧ J13 (decide ((n11 : Int) ≥ (IntKind.wrap .u64 (IntKind.wrap .i64 (Int.tdiv ((a0.len : Nat) : Int) 128))))) w10)) (fun (b12 : Bool) w14 => JoinW [.bool] (fun J16 => BIf b12 (J16 true w14) (BIf (decide ((n6 : Int) > 0)) (0 ≤ (IntKind.wrap .i64 (n6 - 1) : Int) ∧ (IntKind.wrap .i64 (n6 - 1) : Int) < ((l5.len : Nat) : Int) ∧ ∃ q30 : Addr, (l5.a : Option Addr) = some q30 ∧ ∃ n31 : Int, w14.cell? (q30.add (Int.toNat (IntKind.wrap .i64 (n6 - 1)) * 1)) = some (.int .i64 n31) ∧ J16 (decide ((IntKind.wrap .i64 n11 : Int) ≤ n31)) w14) (J16 false w14))) (fun (b15 : Bool) w17 => BIf b15 (K (.tuple #[.slice l5.a l5.len l5.cap, .bool false]) w17) (CallW Try.prog 141 #[.slice a0.a a0.len a0.cap, .int .i64 (IntKind.wrap .i64 ((IntKind.wrap .i64 (128 + (IntKind.wrap .i64 (16 * n6)))) + 8))] w17 fun v18 w19 => ∃ n20 : Int, v18 = .int .u64 n20 ∧ CallW Try.prog 143 #[.slice a0.a a0.len a0.cap, .int .i64 (IntKind.wrap .i64 (3 + n6))] w19 fun v21 w22 => ∃ l23 : Sl, v21 = .slice l23.a l23.len l23.cap ∧ CallW Try.prog 82 #[.slice l23.a l23.len l23.cap] w22 fun v24 w25 => ∃ n26 : Int, v24 = .int .u64 n26 ∧ BIf ((n20 : Int) != n26) (K (.tuple #[.slice l5.a l5.len l5.cap, .bool false]) w25) (LetW (w25.alloc (.cells #[.int .i64 (IntKind.wrap .i64 n11)] 2)) fun w27 => AppendW 2 ti2 l5 ⟨some ⟨w25.heap.size, 0, none⟩, 1, 1⟩ w27 fun l28 w29 => J7 l28 (IntKind.wrap .i64 (n6 + 1)) w29))))) (LoopW [.int .i64] (fun J33 => fun (n32 : Int) w34 => BIf (decide ((n32 : Int) < 256)) (0 ≤ (IntKind.wrap .i64 (128 + n32) : Int) ∧ (IntKind.wrap .i64 (128 + n32) : Int) < ((a0.len : Nat) : Int) ∧ ∃ q35 : Addr, (a0.a : Option Addr) = some q35 ∧ ∃ n36 : Int, w34.cell? (q35.add (Int.toNat (IntKind.wrap .i64 (128 + n32)) * 1)) = some (.int .u8 n36) ∧ BIf ((n36 : Int) != 0) (K (.tuple #[.slice l5.a l5.len l5.cap, .bool false]) w34) (J33 (IntKind.wrap .i64 (n32 + 1)) w34)) (K (.tuple #[.slice l5.a l5.len l5.cap, .bool true]) w34)) ((IntKind.wrap .i64 (16 * a1) : Int), ()) w8)) ((⟨some ⟨w.heap.size, 0, none⟩, 0, 0⟩ : Sl), ((0 : Int), ())) w3)
theorem eq144 (a0 : Sl) (a1 : Int) (a2 : Int) (w : World) (K : Value → World → Prop) : denFn Try.prog tt Try.f144 an144 [.slice a0.a a0.len a0.cap, .int .i64 a1, .int .u64 a2] w K = W144 a0 a1 a2 w K := by kernel_rfl
theorem ok144 : OkFn Try.prog 144 := ⟨Try.f144, Try.func144, by kernel_rfl, by kernel_rfl⟩
theorem go144 {a0 : Sl} {a1 : Int} {a2 : Int} {w : World} {K : Value → World → Prop} (h : W144 a0 a1 a2 w K) : CallW Try.prog 144 #[.slice a0.a a0.len a0.cap, .int .i64 a1, .int .u64 a2] w K :=
  .inl ⟨ok144, denFn_sound tt_ok mix Try.func144 (by kernel_rfl) (eq144 a0 a1 a2 w K ▸ h)⟩

/- loop.example/g00008/spec.l13Fill -/
def an145 : Ann := (.seq .leaf (.seq (.in_ (.loop 0 [(0, .slice)] (.seq (.seq .leaf (.cond .leaf .leaf)) (.in_ .leaf)))) (.seq .leaf .leaf)))
def W145 (a0 : Sl) (w : World) (K : Value → World → Prop) : Prop :=
  LoopW [.slice] (fun J2 => fun (l1 : Sl) w3 => BIf (decide ((((l1.len : Nat) : Int) : Int) < 128)) (LetW (w3.alloc (.cells #[.int .u8 0] 5)) fun w4 => AppendW 5 ti5 l1 ⟨some ⟨w3.heap.size, 0, none⟩, 1, 1⟩ w4 fun l5 w6 => J2 l5 w6) (K (.slice l1.a l1.len l1.cap) w3)) ((a0 : Sl), ()) w
theorem eq145 (a0 : Sl) (w : World) (K : Value → World → Prop) : denFn Try.prog tt Try.f145 an145 [.slice a0.a a0.len a0.cap] w K = W145 a0 w K := by kernel_rfl
theorem ok145 : OkFn Try.prog 145 := ⟨Try.f145, Try.func145, by kernel_rfl, by kernel_rfl⟩
theorem go145 {a0 : Sl} {w : World} {K : Value → World → Prop} (h : W145 a0 w K) : CallW Try.prog 145 #[.slice a0.a a0.len a0.cap] w K :=
  .inl ⟨ok145, denFn_sound tt_ok mix Try.func145 (by kernel_rfl) (eq145 a0 w K ▸ h)⟩

/- loop.example/g00008/impl.get8 -/
def an146 : Ann := (.seq .leaf (.seq (.seq .leaf (.in_ (.loop 3 [(4, .int .u64), (5, .int .i64)] (.seq (.seq .leaf (.cond .leaf .leaf)) (.seq (.in_ .leaf) .leaf))))) (.seq .leaf .leaf)))
def W146 (a0 : Sl) (a1 : Int) (w : World) (K : Value → World → Prop) : Prop :=
  LoopW [.int .u64, .int .i64] (fun J3 => fun (n1 : Int) (n2 : Int) w4 => BIf (decide ((n2 : Int) ≥ 0)) (0 ≤ (8 : Int) ∧ 0 ≤ (IntKind.wrap .i64 (a1 + n2) : Int) ∧ (IntKind.wrap .i64 (a1 + n2) : Int) < ((a0.len : Nat) : Int) ∧ ∃ q5 : Addr, (a0.a : Option Addr) = some q5 ∧ ∃ n6 : Int, w4.cell? (q5.add (Int.toNat (IntKind.wrap .i64 (a1 + n2)) * 1)) = some (.int .u8 n6) ∧ J3 (orI .u64 (shlI .u64 n1 8) (IntKind.wrap .u64 n6)) (IntKind.wrap .i64 (n2 - 1)) w4) (K (.int .u64 n1) w4)) ((0 : Int), ((7 : Int), ())) w
theorem eq146 (a0 : Sl) (a1 : Int) (w : World) (K : Value → World → Prop) : denFn Try.prog tt Try.f146 an146 [.slice a0.a a0.len a0.cap, .int .i64 a1] w K = W146 a0 a1 w K := by kernel_rfl
theorem ok146 : OkFn Try.prog 146 := ⟨Try.f146, Try.func146, by kernel_rfl, by kernel_rfl⟩
theorem go146 {a0 : Sl} {a1 : Int} {w : World} {K : Value → World → Prop} (h : W146 a0 a1 w K) : CallW Try.prog 146 #[.slice a0.a a0.len a0.cap, .int .i64 a1] w K :=
  .inl ⟨ok146, denFn_sound tt_ok mix Try.func146 (by kernel_rfl) (eq146 a0 a1 w K ▸ h)⟩

/- loop.example/g00008/impl.zeros -/
def an147 : Ann := (.seq .leaf (.seq (.seq .leaf (.in_ (.loop 96 [(7, .int .i64)] (.seq .leaf (.seq (.cond .leaf .leaf) (.seq (.in_ (.seq .leaf (.seq .leaf (.cond (.seq .leaf .leaf) .leaf)))) .leaf)))))) (.seq .leaf .leaf)))
def W147 (a0 : Sl) (w : World) (K : Value → World → Prop) : Prop :=
  LoopW [.int .i64] (fun J2 => fun (n1 : Int) w3 => BIf (decide ((n1 : Int) < ((a0.len : Nat) : Int))) (0 ≤ (n1 : Int) ∧ (n1 : Int) < ((a0.len : Nat) : Int) ∧ ∃ q4 : Addr, (a0.a : Option Addr) = some q4 ∧ ∃ n5 : Int, w3.cell? (q4.add (Int.toNat n1 * 1)) = some (.int .u8 n5) ∧ BIf ((n5 : Int) != 0) (K (.bool false) w3) (J2 (IntKind.wrap .i64 (n1 + 1)) w3)) (K (.bool true) w3)) ((0 : Int), ()) w
theorem eq147 (a0 : Sl) (w : World) (K : Value → World → Prop) : denFn Try.prog tt Try.f147 an147 [.slice a0.a a0.len a0.cap] w K = W147 a0 w K := by kernel_rfl
theorem ok147 : OkFn Try.prog 147 := ⟨Try.f147, Try.func147, by kernel_rfl, by kernel_rfl⟩
theorem go147 {a0 : Sl} {w : World} {K : Value → World → Prop} (h : W147 a0 w K) : CallW Try.prog 147 #[.slice a0.a a0.len a0.cap] w K :=
  .inl ⟨ok147, denFn_sound tt_ok mix Try.func147 (by kernel_rfl) (eq147 a0 w K ▸ h)⟩

/- loop.example/g00008/spec.l12Disk -/
def an148 : Ann := (.seq .leaf (.seq (.reg [(5, none), (4, some (0, [(11, .bool)])), (1, none)]) .leaf))
def W148 (a0 : Sl) (w : World) (K : Value → World → Prop) : Prop :=
  (128 : Int) ≠ 0 ∧ JoinW [.bool] (fun J2 => BIf ((Int.tmod ((a0.len : Nat) : Int) 128 : Int) == 0) (J2 (decide ((((a0.len : Nat) : Int) : Int) ≤ 131072)) w) (J2 false w)) (fun (b1 : Bool) w3 => K (.bool b1) w3)
theorem eq148 (a0 : Sl) (w : World) (K : Value → World → Prop) : denFn Try.prog tt Try.f148 an148 [.slice a0.a a0.len a0.cap] w K = W148 a0 w K := by kernel_rfl
theorem ok148 : OkFn Try.prog 148 := ⟨Try.f148, Try.func148, by kernel_rfl, by kernel_rfl⟩
theorem go148 {a0 : Sl} {w : World} {K : Value → World → Prop} (h : W148 a0 w K) : CallW Try.prog 148 #[.slice a0.a a0.len a0.cap] w K :=
  .inl ⟨ok148, denFn_sound tt_ok mix Try.func148 (by kernel_rfl) (eq148 a0 w K ▸ h)⟩

/- loop.example/g00008/spec.LoadWord -/
def an171 : Ann := (.seq .leaf (.seq (.seq (.reg [(4, none), (3, some (15, [(18, .bool)])), (1, none), (7, some (15, [(26, .bool)]))]) (.cond (.seq .leaf .leaf) .leaf)) (.seq .leaf (.seq (.seq .leaf (.in_ (.loop 15 [(10, .int .u64), (11, .int .i64)] (.seq (.seq .leaf (.cond .leaf .leaf)) (.seq (.in_ .leaf) .leaf))))) (.seq (.seq .leaf (.cond (.seq .leaf .leaf) .leaf)) (.seq .leaf .leaf))))))
def W171 (a0 : Sl) (a1 : Int) (a2 : Int) (a3 : Bool) (w : World) (K : Value → World → Prop) : Prop :=
  CallW Try.prog 185 #[.int .i64 a2] w fun v1 w2 => ∃ b3 : Bool, v1 = .bool b3 ∧ JoinW [.bool] (fun J5 => BIf (!b3) (J5 true w2) (J5 (decide ((a1 : Int) < 0)) w2)) (fun (b4 : Bool) w6 => JoinW [.bool] (fun J8 => BIf b4 (J8 true w6) (J8 (decide ((a1 : Int) > (IntKind.wrap .i64 (((a0.len : Nat) : Int) - a2)))) w6)) (fun (b7 : Bool) w9 => BIf b7 (K (.tuple #[.int .u64 0, .bool false]) w9) (LoopW [.int .u64, .int .i64] (fun J12 => fun (n10 : Int) (n11 : Int) w13 => BIf (decide ((n11 : Int) ≥ 0)) (0 ≤ (IntKind.wrap .i64 (a1 + n11) : Int) ∧ (IntKind.wrap .i64 (a1 + n11) : Int) < ((a0.len : Nat) : Int) ∧ ∃ q14 : Addr, (a0.a : Option Addr) = some q14 ∧ ∃ n15 : Int, w13.cell? (q14.add (Int.toNat (IntKind.wrap .i64 (a1 + n11)) * 1)) = some (.int .u8 n15) ∧ J12 (IntKind.wrap .u64 ((IntKind.wrap .u64 (n10 * 256)) + (IntKind.wrap .u64 n15))) (IntKind.wrap .i64 (n11 - 1)) w13) (BIf a3 (CallW Try.prog 186 #[.int .u64 n10, .int .i64 (IntKind.wrap .i64 (8 * a2))] w13 fun v16 w17 => ∃ n18 : Int, v16 = .int .u64 n18 ∧ K (.tuple #[.int .u64 n18, .bool true]) w17) (K (.tuple #[.int .u64 n10, .bool true]) w13))) ((0 : Int), ((IntKind.wrap .i64 (a2 - 1) : Int), ())) w9)))
theorem eq171 (a0 : Sl) (a1 : Int) (a2 : Int) (a3 : Bool) (w : World) (K : Value → World → Prop) : denFn Try.prog tt Try.f171 an171 [.slice a0.a a0.len a0.cap, .int .i64 a1, .int .i64 a2, .bool a3] w K = W171 a0 a1 a2 a3 w K := by kernel_rfl
theorem ok171 : OkFn Try.prog 171 := ⟨Try.f171, Try.func171, by kernel_rfl, by kernel_rfl⟩
theorem go171 {a0 : Sl} {a1 : Int} {a2 : Int} {a3 : Bool} {w : World} {K : Value → World → Prop} (h : W171 a0 a1 a2 a3 w K) : CallW Try.prog 171 #[.slice a0.a a0.len a0.cap, .int .i64 a1, .int .i64 a2, .bool a3] w K :=
  .inl ⟨ok171, denFn_sound tt_ok mix Try.func171 (by kernel_rfl) (eq171 a0 a1 a2 a3 w K ▸ h)⟩

/- loop.example/g00008/spec.l1SizeOk -/
def an185 : Ann := (.seq .leaf (.seq (.reg [(3, none), (3, some (1, [(8, .bool)])), (1, none), (3, some (1, [(12, .bool)])), (1, none), (3, some (0, [(16, .bool)])), (1, none)]) .leaf))
def W185 (a0 : Int) (w : World) (K : Value → World → Prop) : Prop :=
  JoinW [.bool] (fun J2 => BIf ((a0 : Int) == 1) (J2 true w) (J2 ((a0 : Int) == 2) w)) (fun (b1 : Bool) w3 => JoinW [.bool] (fun J5 => BIf b1 (J5 true w3) (J5 ((a0 : Int) == 4) w3)) (fun (b4 : Bool) w6 => JoinW [.bool] (fun J8 => BIf b4 (J8 true w6) (J8 ((a0 : Int) == 8) w6)) (fun (b7 : Bool) w9 => K (.bool b7) w9)))
theorem eq185 (a0 : Int) (w : World) (K : Value → World → Prop) : denFn Try.prog tt Try.f185 an185 [.int .i64 a0] w K = W185 a0 w K := by kernel_rfl
theorem ok185 : OkFn Try.prog 185 := ⟨Try.f185, Try.func185, by kernel_rfl, by kernel_rfl⟩
theorem go185 {a0 : Int} {w : World} {K : Value → World → Prop} (h : W185 a0 w K) : CallW Try.prog 185 #[.int .i64 a0] w K :=
  .inl ⟨ok185, denFn_sound tt_ok mix Try.func185 (by kernel_rfl) (eq185 a0 w K ▸ h)⟩

/- loop.example/g00008/spec.Extend -/
def an186 : Ann := (.seq .leaf (.seq (.seq (.reg [(3, none), (3, some (3, [(12, .bool)]))]) (.cond (.seq .leaf .leaf) .leaf)) (.seq .leaf (.seq (.seq .leaf (.in_ (.loop 3 [(5, .int .u64), (6, .int .i64)] (.seq (.seq .leaf (.cond .leaf .leaf)) (.seq (.in_ (.seq .leaf (.cond .leaf .leaf))) .leaf))))) (.seq .leaf .leaf)))))
def W186 (a0 : Int) (a1 : Int) (w : World) (K : Value → World → Prop) : Prop :=
  JoinW [.bool] (fun J2 => BIf (decide ((a1 : Int) < 1)) (J2 true w) (J2 (decide ((a1 : Int) > 64)) w)) (fun (b1 : Bool) w3 => BIf b1 (K (.int .u64 0) w3) (LoopW [.int .u64, .int .i64] (fun J6 => fun (n4 : Int) (n5 : Int) w7 => BIf (decide ((n5 : Int) ≥ 0)) (BIf (decide ((n5 : Int) < a1)) (CallW Try.prog 190 #[.int .u64 a0, .int .i64 n5] w7 fun v8 w9 => ∃ n10 : Int, v8 = .int .u64 n10 ∧ J6 (IntKind.wrap .u64 ((IntKind.wrap .u64 (n4 * 2)) + n10)) (IntKind.wrap .i64 (n5 - 1)) w9) (CallW Try.prog 190 #[.int .u64 a0, .int .i64 (IntKind.wrap .i64 (a1 - 1))] w7 fun v11 w12 => ∃ n13 : Int, v11 = .int .u64 n13 ∧ J6 (IntKind.wrap .u64 ((IntKind.wrap .u64 (n4 * 2)) + n13)) (IntKind.wrap .i64 (n5 - 1)) w12)) (K (.int .u64 n4) w7)) ((0 : Int), ((63 : Int), ())) w3))
theorem eq186 (a0 : Int) (a1 : Int) (w : World) (K : Value → World → Prop) : denFn Try.prog tt Try.f186 an186 [.int .u64 a0, .int .i64 a1] w K = W186 a0 a1 w K := by kernel_rfl
theorem ok186 : OkFn Try.prog 186 := ⟨Try.f186, Try.func186, by kernel_rfl, by kernel_rfl⟩
theorem go186 {a0 : Int} {a1 : Int} {w : World} {K : Value → World → Prop} (h : W186 a0 a1 w K) : CallW Try.prog 186 #[.int .u64 a0, .int .i64 a1] w K :=
  .inl ⟨ok186, denFn_sound tt_ok mix Try.func186 (by kernel_rfl) (eq186 a0 a1 w K ▸ h)⟩

/- loop.example/g00008/spec.l1Bit -/
def an190 : Ann := (.seq .leaf (.seq .leaf .leaf))
def W190 (a0 : Int) (a1 : Int) (w : World) (K : Value → World → Prop) : Prop :=
  CallW Try.prog 191 #[.int .i64 a1] w fun v1 w2 => ∃ n3 : Int, v1 = .int .u64 n3 ∧ (n3 : Int) ≠ 0 ∧ (2 : Int) ≠ 0 ∧ K (.int .u64 (Int.tmod (IntKind.wrap .u64 (Int.tdiv a0 n3)) 2)) w2
theorem eq190 (a0 : Int) (a1 : Int) (w : World) (K : Value → World → Prop) : denFn Try.prog tt Try.f190 an190 [.int .u64 a0, .int .i64 a1] w K = W190 a0 a1 w K := by kernel_rfl
theorem ok190 : OkFn Try.prog 190 := ⟨Try.f190, Try.func190, by kernel_rfl, by kernel_rfl⟩
theorem go190 {a0 : Int} {a1 : Int} {w : World} {K : Value → World → Prop} (h : W190 a0 a1 w K) : CallW Try.prog 190 #[.int .u64 a0, .int .i64 a1] w K :=
  .inl ⟨ok190, denFn_sound tt_ok mix Try.func190 (by kernel_rfl) (eq190 a0 a1 w K ▸ h)⟩

/- loop.example/g00008/spec.l1Pow -/
def an191 : Ann := (.seq .leaf (.seq .leaf (.seq (.seq .leaf (.in_ (.loop 1 [(3, .int .u64), (4, .int .i64)] (.seq (.seq .leaf (.cond .leaf .leaf)) (.seq (.in_ .leaf) .leaf))))) (.seq .leaf .leaf))))
def W191 (a0 : Int) (w : World) (K : Value → World → Prop) : Prop :=
  LoopW [.int .u64, .int .i64] (fun J3 => fun (n1 : Int) (n2 : Int) w4 => BIf (decide ((n2 : Int) < a0)) (J3 (IntKind.wrap .u64 (n1 * 2)) (IntKind.wrap .i64 (n2 + 1)) w4) (K (.int .u64 n1) w4)) ((1 : Int), ((0 : Int), ())) w
theorem eq191 (a0 : Int) (w : World) (K : Value → World → Prop) : denFn Try.prog tt Try.f191 an191 [.int .i64 a0] w K = W191 a0 w K := by kernel_rfl
theorem ok191 : OkFn Try.prog 191 := ⟨Try.f191, Try.func191, by kernel_rfl, by kernel_rfl⟩
theorem go191 {a0 : Int} {w : World} {K : Value → World → Prop} (h : W191 a0 w K) : CallW Try.prog 191 #[.int .i64 a0] w K :=
  .inl ⟨ok191, denFn_sound tt_ok mix Try.func191 (by kernel_rfl) (eq191 a0 w K ▸ h)⟩

end Go.Proofs.Ytenhcpjlkmbedaa

/- The types of the laws' parameters, as values of Lean's. Conditions: none. -/
set_option linter.unusedVariables false
set_option maxRecDepth 100000
namespace Go.Proofs.Ytenhcpjlkmbedaa
open Go Go.Den
theorem o5 : Opens Try.prog 5 (cInt .u8) := opens_int Try.underlying5
theorem o41 : Opens Try.prog 41 (cSlice (cInt .u8)) := opens_slice Try.underlying41 (by kernel_rfl) o5
theorem o2 : Opens Try.prog 2 (cInt .i64) := opens_int Try.underlying2
structure DDiskWrite where
  Sector : Int
  Data : List Int
def cDDiskWrite : Cod DDiskWrite := cMap (cPair (cInt .i64) (cPair (cSlice (cInt .u8)) cUnit)) (fun x => ⟨x.1, x.2.1⟩)
abbrev TyDiskWrite : Ty := .st [(.int .i64), (.sl 1 (.int .u8))]
def DDiskWrite.dat (x : DDiskWrite) : Dat := .st [.int .i64 x.Sector, .sl 1 (x.Data.map (Dat.int .u8))]
theorem cDDiskWrite_dat {w : World} {cs : List Value} {x : DDiskWrite} (h : cDDiskWrite.is w cs x) : IsD w x.dat cs := by
  obtain ⟨y, rfl, ⟨a0, b0, rfl, _, h0, ⟨a1, b1, rfl, _, h1, z⟩⟩⟩ := h
  exact isD_mkSt (isF_mk (isD_mkInt h0) (isF_mk (isD_mkSl (f := Dat.int .u8) h1 (fun es x hx => isD_mkInt hx)) (isF_mk0 z)))
theorem DDiskWrite.has (x : DDiskWrite) : Has TyDiskWrite x.dat := mk_st (mkF_cons (mk_int) (mkF_cons (mk_sl (fun e he => by obtain ⟨y, _, rfl⟩ := List.mem_map.1 he; exact mk_int)) (mkF_nil)))
theorem o123 : Opens Try.prog 123 cDDiskWrite := opens_map _ (opens_struct Try.underlying123 (by kernel_rfl) (opensF_cons rfl (by kernel_rfl) o2 (opensF_cons rfl (by kernel_rfl) o41 opensF_nil)))
theorem o55 : Opens Try.prog 55 (cSlice cDDiskWrite) := opens_slice Try.underlying55 (by kernel_rfl) o123
end Go.Proofs.Ytenhcpjlkmbedaa

/- The law's own functions over trees: copies, sizes, comparisons, marks; printed by a program. Conditions: none. -/
set_option linter.unusedVariables false
set_option linter.unusedSimpArgs false
set_option maxRecDepth 4000
namespace Go.Proofs.Ytenhcpjlkmbedaa
open Go Go.Den

theorem has_DiskWrite {d : Dat} (h : Has TyDiskWrite d) : ∃ x_0 : Int, ∃ l_1 : List Dat, d = .st [.int .i64 x_0, .sl 1 l_1] ∧ (∀ e, e ∈ l_1 → Has (.int .u8) e) := by
  obtain ⟨_, rfl, g⟩ := has_st h
  obtain ⟨_, _, rfl, h_0, g⟩ := hasF_cons g
  obtain ⟨_, _, rfl, h_1, g⟩ := hasF_cons g
  obtain rfl := hasF_nil g
  obtain ⟨x_0, rfl⟩ := has_int h_0
  obtain ⟨l_1, rfl, t_1⟩ := has_sl h_1
  exact ⟨x_0, l_1, rfl, t_1⟩
theorem cells_DiskWrite {w : World} {x_0 : Int} {l_1 : List Dat} {cs : List Value} (h : IsD w (.st [.int .i64 x_0, .sl 1 l_1]) cs) : ∃ s_1 : Sl, cs = [.int .i64 x_0, .slice s_1.a s_1.len s_1.cap] ∧ ((Lit.int .i64 x_0).wf = true) ∧ (IsD w (.sl 1 l_1) [.slice s_1.a s_1.len s_1.cap]) := by
  have q := isD_st h
  obtain ⟨_, _, rfl, i_0, q⟩ := isF_cons q
  obtain ⟨_, _, rfl, i_1, q⟩ := isF_cons q
  obtain rfl := isF_nil q
  obtain ⟨rfl, ws_0⟩ := isD_int i_0
  obtain ⟨s_1, rfl⟩ := isD_sl_s i_1
  have is_1 := i_1
  exact ⟨s_1, rfl, ws_0, is_1⟩
/- szByteS -/
theorem c139 {l : List Dat} {a0 : Sl} {left : Int} {w : World} (ht : ∀ e, e ∈ l → Has (.int .u8) e) (h : IsD w (.sl 1 l) [.slice a0.a a0.len a0.cap]) (h0 : 0 ≤ left) (hl : left ≤ 4611686018427387904) : CallW Try.prog 139 #[.slice a0.a a0.len a0.cap, .int .i64 left] w (fun v w' => SzPost (Dat.sl 1 l).sz left v ∧ Ext w w') := by
  refine go139 ?_
  unfold W139
  obtain ⟨hlen, hmax, hel⟩ := isD_sl h
  have hmx : maxLen = 9223372036854775807 := rfl
  rw [hlen, w64 (by omega) (by omega)]
  have hz : Dat.szs l = 0 := by
    refine szs_zero (fun d hd => ?_)
    have ht0 := ht d hd
    obtain ⟨x, rfl⟩ := has_int ht0
    rfl
  refine BIf.dec (fun hn => ⟨⟨_, rfl, .inr ⟨by omega, by simp only [Dat.sz]; omega⟩⟩, Only.refl _ _⟩) (fun hp => ⟨⟨_, rfl, .inl ⟨by simp only [Dat.sz]; omega, by omega⟩⟩, Only.refl _ _⟩)

/- szDiskWrite -/
theorem c85 {d : Dat} {cs : List Value} {left : Int} {w : World} (ht : Has TyDiskWrite d) (h : IsD w d cs) (h0 : 0 ≤ left) (hl : left ≤ 4611686018427387904) : CallW Try.prog 85 #[.agg ⟨cs⟩, .int .i64 left] w (fun v w' => SzPost d.sz left v ∧ Ext w w') := by
  obtain ⟨x_0, l_1, rfl, t_1⟩ := has_DiskWrite ht
  obtain ⟨s_1, rfl, ws_0, is_1⟩ := cells_DiskWrite h
  show CallW Try.prog 85 #[.agg #[.int .i64 x_0, .slice s_1.a s_1.len s_1.cap], .int .i64 left] w _
  refine go85 ?_
  unfold W85
  refine alloc_step (fun w1 e ha n1 => ?_)
  have hmx : maxLen = 9223372036854775807 := rfl
  have hx : (0 : Int) ≤ left ∧ left ≤ left := ⟨h0, Int.le_refl _⟩
  have hd := Int.sub_zero left
  refine ⟨s_1, ha.cell 1, (c139 t_1 (IsD.ext e _ _ is_1) (by omega) (by omega)).mono ?_⟩
  rintro _ w2 ⟨⟨r2, rfl, hr2⟩, e2⟩
  have ha := ha.ext e2
  have e := Only.trans e e2
  refine ⟨r2, rfl, BIf.dec (fun hn => ⟨⟨_, rfl, .inr ⟨by omega, by simp only [Dat.sz, Dat.szs] at *; omega⟩⟩, e⟩) (fun hp2 => ?_)⟩
  exact ⟨⟨_, rfl, .inl ⟨by simp only [Dat.sz, Dat.szs] at *; omega, by omega⟩⟩, e⟩

/- szDiskWriteS -/
theorem c28 {l : List Dat} {a0 : Sl} {left : Int} {w : World} (ht : ∀ e, e ∈ l → Has TyDiskWrite e) (h : IsD w (.sl 2 l) [.slice a0.a a0.len a0.cap]) (h0 : 0 ≤ left) (hl : left ≤ 4611686018427387904) : CallW Try.prog 28 #[.slice a0.a a0.len a0.cap, .int .i64 left] w (fun v w' => SzPost (Dat.sl 2 l).sz left v ∧ Ext w w') := by
  refine go28 ?_
  unfold W28
  obtain ⟨hlen, hmax, hel⟩ := isD_sl h
  have hmx : maxLen = 9223372036854775807 := rfl
  rw [hlen, w64 (by omega) (by omega)]
  refine BIf.dec (fun hn => ⟨⟨_, rfl, .inr ⟨by omega, by simp only [Dat.sz]; omega⟩⟩, Only.refl _ _⟩) (fun hp => ?_)
  refine LoopW.m2 (fun (x i : Int) w' => ∃ k : Nat, i = k ∧ k ≤ l.length ∧ Ext w w' ∧ x = left - l.length - Dat.szs (l.take k) ∧ 0 ≤ x) (fun _ (i : Int) _ => (l.length - i).toNat) ⟨0, rfl, by omega, Only.refl _ _, by simp [Dat.szs], by omega⟩ ?_
  rintro (x : Int) (i : Int) w4 ⟨k, rfl, hk, e4, hx, hx0⟩ J hJ
  refine BIf.dec (fun hlt => ?_) (fun hge => ?_)
  · obtain ⟨d, hd⟩ : ∃ d, l[k]? = some d := ⟨_, List.getElem?_eq_getElem (by omega)⟩
    have hsz := szs_get hd
    have hst := szs_take hd
    obtain ⟨p, es, hp, he, hc, his⟩ := isD_at (IsD.ext e4 _ _ h) hd
    have ht0 := ht d (mem_get hd)
    have ht1 := ht0
    obtain ⟨x_0, l_1, rfl, t_1⟩ := has_DiskWrite ht1
    have his0 := his
    obtain ⟨s_1, rfl, ws_0, is_1⟩ := cells_DiskWrite his
    refine ⟨by omega, by omega, p, hp, _, hc 0 _ rfl, s_1, hc 1 _ rfl, (c85 (cs := [.int .i64 x_0, .slice s_1.a s_1.len s_1.cap]) ht0 his0 hx0 (by omega)).mono ?_⟩
    rintro _ w9 ⟨⟨r, rfl, hr⟩, e9⟩
    refine ⟨r, rfl, BIf.dec (fun hn => ⟨⟨_, rfl, .inr ⟨by omega, by simp only [Dat.sz] at *; omega⟩⟩, Only.trans e4 e9⟩) (fun hp => ?_)⟩
    rw [w64 (by omega) (by omega)]
    refine hJ _ _ _ ⟨k + 1, by omega, by omega, Only.trans e4 e9, by rw [hst]; omega, by omega⟩ (by omega)
  · rw [List.take_of_length_le (by omega)] at hx
    exact ⟨⟨_, rfl, .inl ⟨by simp only [Dat.sz]; omega, hx0⟩⟩, e4⟩

/- toByteS -/
theorem c30 {l : List Dat} {a0 : Sl} {w : World} (ht : ∀ e, e ∈ l → Has (.int .u8) e) (h : IsD w (.sl 1 l) [.slice a0.a a0.len a0.cap]) (hs : (Dat.sl 1 l).sz ≤ 4194304) : CallW Try.prog 30 #[.slice a0.a a0.len a0.cap] w (fun v w' => ∃ s : Sl, v = .slice s.a s.len s.cap ∧ Fr w.heap.size w'.heap.size w' (.sl 1 l) [.slice s.a s.len s.cap] ∧ Ext w w') := by
  refine go30 ?_
  unfold W30
  obtain ⟨hlen, hmax, hel⟩ := isD_sl h
  simp only [Dat.sz] at hs
  rw [hlen]; simp only [Int.toNat_natCast]
  refine ⟨by omega, by omega, by omega, by omega, LetW_iff.2 ?_⟩
  have hs0 := ToInv.start (w := w) (z := 1) (zero := ti5.zero) (e := 5) l rfl
  generalize w.alloc (.cells ⟨zerosOf ti5.zero l.length⟩ 5) = w1 at *
  refine LoopW.m1 (fun (i : Int) w' => ∃ (k : Nat) (bs : List Nat) (vs : List Value), i = k ∧ ToInv w w' w.heap.size 1 l k bs vs) (fun (i : Int) _ => (l.length - i).toNat) ⟨0, [], _, rfl, hs0⟩ ?_
  rintro (i : Int) w4 ⟨k, bs, vs, rfl, hi⟩ J hJ
  refine BIf.dec (fun hlt => ?_) (fun hge => ?_)
  · obtain ⟨d, hd⟩ : ∃ d, l[k]? = some d := ⟨_, List.getElem?_eq_getElem (by omega)⟩
    have hsz := szs_get hd
    obtain ⟨p, es, hp, he, hc, his⟩ := isD_at (IsD.ext hi.ext _ _ h) hd
    have ht0 := ht d (mem_get hd)
    obtain ⟨x, rfl⟩ := has_int ht0
    obtain ⟨rfl, ws⟩ := isD_int his
    obtain ⟨b1, ho, hn, hb⟩ := fr_int (lo := w4.heap.size) (hi := w4.heap.size) (w := w4) ws
    obtain ⟨hm, hi2⟩ := hi.step hd (Only.refl _ _) ho hn (fun c hc => (hb c hc).1) rfl
    rw [puts_one] at hi2
    refine ⟨by omega, by omega, p, hp, _, hc 0 _ rfl, by omega, by omega, _, rfl, mayN_one hm, LetW_iff.2 ?_⟩
    rw [w64 (by omega) (by omega)]
    exact hJ _ _ ⟨k + 1, _, _, by omega, hi2⟩ (by omega)
  · exact ⟨⟨some ⟨w.heap.size, 0, none⟩, l.length, l.length⟩, rfl, (hi.done (by omega) hmax).fr, hi.ext⟩

/- toDiskWrite -/
theorem c92 {d : Dat} {cs : List Value} {w : World} (ht : Has TyDiskWrite d) (h : IsD w d cs) (hs : d.sz ≤ 4194304) : CallW Try.prog 92 #[.agg ⟨cs⟩] w (fun v w' => ∃ cs', v = .agg ⟨cs'⟩ ∧ Fr w.heap.size w'.heap.size w' d cs' ∧ Ext w w') := by
  obtain ⟨x_0, l_1, rfl, t_1⟩ := has_DiskWrite ht
  obtain ⟨s_1, rfl, ws_0, is_1⟩ := cells_DiskWrite h
  show CallW Try.prog 92 #[.agg #[.int .i64 x_0, .slice s_1.a s_1.len s_1.cap]] w _
  refine go92 ?_
  unfold W92
  refine alloc_step (fun w1 e1 ha n1 => ?_)
  refine alloc_step (fun w2 e2 hc n2 => ?_)
  have ha := ha.ext e2
  refine alloc_step (fun w3 e3 hb n3 => ?_)
  have ha := ha.ext e3
  have hc := hc.ext e3
  have e := Only.trans e1 (Only.trans e2 e3)
  refine ⟨_, ha.cell 0, ?_⟩
  refine set_step hb (by simp) (fun w4 o4 hb n4 => ?_)
  have ha := ha.only o4 (by omega)
  have hc := hc.only o4 (by omega)
  have e := Ext.own e o4 (fun k hk => by omega)
  refine ⟨s_1, ha.cell 1, ?_⟩
  refine (c30 t_1 (IsD.ext e _ _ is_1) (by simp only [Dat.sz, Dat.szs] at hs ⊢; omega)).mono ?_
  rintro _ w5 ⟨r_1, rfl, f_1, e5⟩
  refine ⟨r_1, rfl, ?_⟩
  have ha := ha.ext e5
  have hb := hb.ext e5
  have hc := hc.ext e5
  have e := Only.trans e e5
  have z5 := e5.size
  refine set_step hb (by simp) (fun w6 o6 hb n6 => ?_)
  have ha := ha.only o6 (by omega)
  have hc := hc.only o6 (by omega)
  have e := Ext.own e o6 (fun k hk => by omega)
  have f_1 := f_1.only o6 (fun k _ _ => by omega)
  refine ⟨_, hb.cell 0, r_1, hb.cell 1, ?_⟩
  refine put_step hc rfl rfl (fun w7 o7 hc n7 => ?_)
  have e := Ext.own e o7 (fun k hk => by omega)
  have f_1 := f_1.only o7 (fun k _ _ => by omega)
  refine ⟨_, hc.cell 0, r_1, hc.cell 1, ?_⟩
  exact ⟨[.int .i64 x_0, .slice r_1.a r_1.len r_1.cap], rfl, frF_st (frF_cons (m := w.heap.size) (fr_int ws_0) (frF_cons (m := w5.heap.size) (f_1.mono (by omega) (Nat.le_refl _)) (frF_nil) (by omega) (by omega)) (by omega) (by omega)), e⟩

/- toDiskWriteS -/
theorem c31 {l : List Dat} {a0 : Sl} {w : World} (ht : ∀ e, e ∈ l → Has TyDiskWrite e) (h : IsD w (.sl 2 l) [.slice a0.a a0.len a0.cap]) (hs : (Dat.sl 2 l).sz ≤ 4194304) : CallW Try.prog 31 #[.slice a0.a a0.len a0.cap] w (fun v w' => ∃ s : Sl, v = .slice s.a s.len s.cap ∧ Fr w.heap.size w'.heap.size w' (.sl 2 l) [.slice s.a s.len s.cap] ∧ Ext w w') := by
  refine go31 ?_
  unfold W31
  obtain ⟨hlen, hmax, hel⟩ := isD_sl h
  simp only [Dat.sz] at hs
  rw [hlen]; simp only [Int.toNat_natCast]
  refine ⟨by omega, by omega, by omega, by omega, LetW_iff.2 ?_⟩
  have hs0 := ToInv.start (w := w) (z := 2) (zero := ti128.zero) (e := 128) l rfl
  generalize w.alloc (.cells ⟨zerosOf ti128.zero l.length⟩ 128) = w1 at *
  refine LoopW.m1 (fun (i : Int) w' => ∃ (k : Nat) (bs : List Nat) (vs : List Value), i = k ∧ ToInv w w' w.heap.size 2 l k bs vs) (fun (i : Int) _ => (l.length - i).toNat) ⟨0, [], _, rfl, hs0⟩ ?_
  rintro (i : Int) w4 ⟨k, bs, vs, rfl, hi⟩ J hJ
  refine BIf.dec (fun hlt => ?_) (fun hge => ?_)
  · obtain ⟨d, hd⟩ : ∃ d, l[k]? = some d := ⟨_, List.getElem?_eq_getElem (by omega)⟩
    have hsz := szs_get hd
    obtain ⟨p, es, hp, he, hc, his⟩ := isD_at (IsD.ext hi.ext _ _ h) hd
    have ht0 := ht d (mem_get hd)
    obtain ⟨x_0, l_1, rfl, t_1⟩ := has_DiskWrite ht0
    have his0 := his
    obtain ⟨s_1, rfl, ws_0, is_1⟩ := cells_DiskWrite his
    refine ⟨by omega, by omega, p, hp, _, hc 0 _ rfl, s_1, hc 1 _ rfl, (c92 (cs := [.int .i64 x_0, .slice s_1.a s_1.len s_1.cap]) ht0 his0 (by omega)).mono ?_⟩
    rintro _ w9 ⟨r, rfl, f, e9⟩
    have hr := f.is
    obtain ⟨r_1, rfl, wr_0, ir_1⟩ := cells_DiskWrite hr
    obtain ⟨b1, ho, hn, hb⟩ := f
    obtain ⟨hm, hi2⟩ := hi.step hd e9 ho hn (fun c hc => (hb c hc).1) rfl
    refine ⟨_, r_1, rfl, by omega, by omega, _, rfl, hm, LetW_iff.2 ?_⟩
    rw [w64 (by omega) (by omega)]
    exact hJ _ _ ⟨k + 1, _, _, by omega, hi2⟩ (by omega)
  · exact ⟨⟨some ⟨w.heap.size, 0, none⟩, l.length, l.length⟩, rfl, (hi.done (by omega) hmax).fr, hi.ext⟩

/- eqByteS -/
theorem c34 {l : List Dat} {a0 a1 : Sl} {w : World} (ht : ∀ e, e ∈ l → Has (.int .u8) e) (h : IsD w (.sl 1 l) [.slice a0.a a0.len a0.cap]) (h2 : IsD w (.sl 1 l) [.slice a1.a a1.len a1.cap]) : CallW Try.prog 34 #[.slice a0.a a0.len a0.cap, .slice a1.a a1.len a1.cap] w (fun v w' => v = .bool true ∧ Ext w w') := by
  refine go34 ?_
  unfold W34
  obtain ⟨hlen, hmax, hel⟩ := isD_sl h
  obtain ⟨hlen2, _, hel2⟩ := isD_sl h2
  have hmx : maxLen = 9223372036854775807 := rfl
  rw [hlen, hlen2]
  refine BIf.f (by simp) ?_
  refine LoopW.m1 (fun (i : Int) w' => ∃ k : Nat, i = k ∧ k ≤ l.length ∧ Ext w w') (fun (i : Int) _ => (l.length - i).toNat) ⟨0, rfl, by omega, Only.refl _ _⟩ ?_
  rintro (i : Int) w4 ⟨k, rfl, hk, e4⟩ J hJ
  refine BIf.dec (fun hlt => ?_) (fun hge => ⟨rfl, e4⟩)
  obtain ⟨d, hd⟩ : ∃ d, l[k]? = some d := ⟨_, List.getElem?_eq_getElem (by omega)⟩
  have e4 := Only.trans e4 (ext_drew w4)
  obtain ⟨p, es, hp, he, hc, his⟩ := isD_at (IsD.ext e4 _ _ h) hd
  obtain ⟨p2, es2, hp2, he2, hc2, his2⟩ := isD_at (IsD.ext e4 _ _ h2) hd
  have ht0 := ht d (mem_get hd)
  have ht1 := ht0
  obtain ⟨x, rfl⟩ := has_int ht1
  obtain ⟨rfl, ws⟩ := isD_int his
  obtain ⟨rfl, wu⟩ := isD_int his2
  refine ⟨by omega, by omega, p, hp, _, hc 0 _ rfl, by omega, by omega, p2, hp2, _, hc2 0 _ rfl, BIf.f (by simp) ?_⟩
  rw [w64 (by omega) (by omega)]
  exact hJ _ _ ⟨k + 1, by omega, by omega, e4⟩ (by omega)

/- eqDiskWrite -/
theorem c97 {d : Dat} {cs1 cs2 : List Value} {w : World} (ht : Has TyDiskWrite d) (h : IsD w d cs1) (h2 : IsD w d cs2) : CallW Try.prog 97 #[.agg ⟨cs1⟩, .agg ⟨cs2⟩] w (fun v w' => v = .bool true ∧ Ext w w') := by
  obtain ⟨x_0, l_1, rfl, t_1⟩ := has_DiskWrite ht
  obtain ⟨s_1, rfl, ws_0, is_1⟩ := cells_DiskWrite h
  obtain ⟨u_1, rfl, wu_0, iu_1⟩ := cells_DiskWrite h2
  show CallW Try.prog 97 #[.agg #[.int .i64 x_0, .slice s_1.a s_1.len s_1.cap], .agg #[.int .i64 x_0, .slice u_1.a u_1.len u_1.cap]] w _
  refine go97 ?_
  unfold W97
  refine alloc_step (fun w1 e1 ha n1 => ?_)
  refine alloc_step (fun w2 e2 hb n2 => ?_)
  have ha := ha.ext e2
  have e := Only.trans e1 e2
  refine ⟨_, ha.cell 0, _, hb.cell 0, BIf.f (by simp) ?_⟩
  refine ⟨s_1, ha.cell 1, u_1, hb.cell 1, (c34 t_1 (IsD.ext e _ _ is_1) (IsD.ext e _ _ iu_1)).mono ?_⟩
  rintro _ w3 ⟨rfl, e3⟩
  have ha := ha.ext e3
  have hb := hb.ext e3
  have e := Only.trans e e3
  refine ⟨true, rfl, BIf.f rfl ?_⟩
  exact ⟨rfl, e⟩

/- eqDiskWriteS -/
theorem c33 {l : List Dat} {a0 a1 : Sl} {w : World} (ht : ∀ e, e ∈ l → Has TyDiskWrite e) (h : IsD w (.sl 2 l) [.slice a0.a a0.len a0.cap]) (h2 : IsD w (.sl 2 l) [.slice a1.a a1.len a1.cap]) : CallW Try.prog 33 #[.slice a0.a a0.len a0.cap, .slice a1.a a1.len a1.cap] w (fun v w' => v = .bool true ∧ Ext w w') := by
  refine go33 ?_
  unfold W33
  obtain ⟨hlen, hmax, hel⟩ := isD_sl h
  obtain ⟨hlen2, _, hel2⟩ := isD_sl h2
  have hmx : maxLen = 9223372036854775807 := rfl
  rw [hlen, hlen2]
  refine BIf.f (by simp) ?_
  refine LoopW.m1 (fun (i : Int) w' => ∃ k : Nat, i = k ∧ k ≤ l.length ∧ Ext w w') (fun (i : Int) _ => (l.length - i).toNat) ⟨0, rfl, by omega, Only.refl _ _⟩ ?_
  rintro (i : Int) w4 ⟨k, rfl, hk, e4⟩ J hJ
  refine BIf.dec (fun hlt => ?_) (fun hge => ⟨rfl, e4⟩)
  obtain ⟨d, hd⟩ : ∃ d, l[k]? = some d := ⟨_, List.getElem?_eq_getElem (by omega)⟩
  have e4 := Only.trans e4 (ext_drew w4)
  obtain ⟨p, es, hp, he, hc, his⟩ := isD_at (IsD.ext e4 _ _ h) hd
  obtain ⟨p2, es2, hp2, he2, hc2, his2⟩ := isD_at (IsD.ext e4 _ _ h2) hd
  have ht0 := ht d (mem_get hd)
  have ht1 := ht0
  obtain ⟨x_0, l_1, rfl, t_1⟩ := has_DiskWrite ht1
  have his0 := his
  have his20 := his2
  obtain ⟨s_1, rfl, ws_0, is_1⟩ := cells_DiskWrite his
  obtain ⟨u_1, rfl, wu_0, iu_1⟩ := cells_DiskWrite his2
  refine ⟨by omega, by omega, p, hp, _, hc 0 _ rfl, s_1, hc 1 _ rfl, by omega, by omega, p2, hp2, _, hc2 0 _ rfl, u_1, hc2 1 _ rfl, (c97 (cs1 := [.int .i64 x_0, .slice s_1.a s_1.len s_1.cap]) (cs2 := [.int .i64 x_0, .slice u_1.a u_1.len u_1.cap]) ht0 his0 his20).mono ?_⟩
  rintro _ w9 ⟨rfl, e9⟩
  refine ⟨true, rfl, BIf.f rfl ?_⟩
  rw [w64 (by omega) (by omega)]
  exact hJ _ _ ⟨k + 1, by omega, by omega, Only.trans e4 e9⟩ (by omega)

/- markByteS -/
theorem c35 {l : List Dat} {a0 : Sl} {bs : List Nat} {k0 : Int} {w : World} (ht : ∀ e, e ∈ l → Has (.int .u8) e) (h : OwnD w (.sl 1 l) bs [.slice a0.a a0.len a0.cap]) (hn : bs.Nodup) (h0 : 1 ≤ k0) (hk : k0 + Dat.cnts l ≤ 1099511627776) : CallW Try.prog 35 #[.slice a0.a a0.len a0.cap, .int .i64 k0] w (fun v w' => v = .int .i64 (k0 + Dat.cnts l) ∧ ∃ l', l'.length = l.length ∧ Dat.cnts l' = Dat.cnts l ∧ (∀ e, e ∈ l' → Has (.int .u8) e) ∧ MarkedF TXT l' k0 ∧ OwnD w' (.sl 1 l') bs [.slice a0.a a0.len a0.cap] ∧ Only (fun k => k ∈ bs) w w') := by
  refine go35 ?_
  unfold W35
  obtain ⟨hlen, hmax⟩ := ownD_len h
  have hmx : maxLen = 9223372036854775807 := rfl
  rw [hlen]
  refine LoopW.m2 (fun (x i : Int) w' => ∃ (k : Nat) (l' : List Dat), i = k ∧ k ≤ l.length ∧ l'.length = k ∧ x = k0 + Dat.cnts l' ∧ Dat.cnts l' = Dat.cnts (l.take k) ∧ (∀ e, e ∈ l' → Has (.int .u8) e) ∧ MarkedF TXT l' k0 ∧ OwnD w' (.sl 1 (l' ++ l.drop k)) bs [.slice a0.a a0.len a0.cap] ∧ Only (fun k => k ∈ bs) w w') (fun _ (i : Int) _ => (l.length - i).toNat) ⟨0, [], rfl, by omega, rfl, by simp [Dat.cnts], by simp [Dat.cnts], fun e he => (by cases he), markedF_nil, by simpa using h, Only.refl _ _⟩ ?_
  rintro (kx : Int) (i : Int) w4 ⟨k, l', rfl, hkl, hl', hx, hcn, hty, hmk, ho, o4⟩ J hJ
  refine BIf.dec (fun hlt => ?_) (fun hge => ?_)
  · obtain ⟨d, hd⟩ : ∃ d, l[k]? = some d := ⟨_, List.getElem?_eq_getElem (by omega)⟩
    have hcg := cnts_get hd
    have hct := cnts_take hd
    have ht0 := ht d (mem_get hd)
    obtain ⟨x, rfl⟩ := has_int ht0
    simp only [Dat.cnt, Dat.cnts] at hcg hct
    obtain ⟨b, bp, b1, bq, vp, v1, vq, ha, hbs, hvp, hod, hm, hvl, hlc, _⟩ := ownD_at ho (get_app hl' hd)
    rw [(take_app hl').1, (take_app hl').2] at hm
    have hv0 := hm.len
    have hbs0 := hbs
    rw [Int.toNat_natCast, ← hvp]
    simp (disch := omega) only [w64]
    refine ⟨by omega, by omega, _, ha, ?_⟩
    obtain ⟨hmay, hm2, o5⟩ := hm.set (fun c hc he => by rw [hbs] at hn; simp only [List.nodup_cons, List.mem_append, not_or] at hn; subst he; rcases hc with hc | hc; exact hn.1.1 hc; exact hn.1.2.2 hc) (j := 0) (by omega) (.int .u8 (IntKind.wrap .u8 (kx)))
    refine ⟨hmay, LetW_iff.2 ?_⟩
    have o4 := Only.trans o4 (o5.mono (fun c _ hc => by subst hc; rw [hbs]; simp))
    have hrow := row_close (bs := bs) (a0 := a0) (d' := .int .u8 (IntKind.wrap .u8 (kx))) hm2 (bd := b1) (by obtain ⟨hb1, hc1⟩ := sc_int _ _ hod; subst hb1; obtain ⟨y, rfl⟩ : ∃ y, v1 = [y] := by { match v1, hc1 with | [y], _ => exact ⟨y, rfl⟩ }; exact own_int wf_u8w) hvp hl' (by omega) ha (by rw [hlen]) hbs (by have : (l' ++ l.drop k).length = l.length := (by simp; omega); omega) hmax hv0 hvl
    refine hJ _ _ _ ⟨k + 1, l' ++ [_], by omega, by omega, by simp; omega, ?_, ?_, has_snoc hty mk_int, markedF_snoc hmk (marked_int rfl) hx, hrow, o4⟩ (by omega)
    · rw [cnts_snoc]; simp only [Dat.cnt, Dat.cnts]; omega
    · rw [cnts_snoc, hct]; simp only [Dat.cnt, Dat.cnts]; omega
  · have hkl2 : k = l.length := by omega
    subst hkl2
    rw [List.take_length] at hcn
    rw [List.drop_length, List.append_nil, hlen] at ho
    exact ⟨by rw [hx, hcn], l', hl', hcn, hty, hmk, ho, o4⟩

/- markDiskWriteS -/
theorem c36 {l : List Dat} {a0 : Sl} {bs : List Nat} {k0 : Int} {w : World} (ht : ∀ e, e ∈ l → Has TyDiskWrite e) (h : OwnD w (.sl 2 l) bs [.slice a0.a a0.len a0.cap]) (hn : bs.Nodup) (h0 : 1 ≤ k0) (hk : k0 + Dat.cnts l ≤ 1099511627776) : CallW Try.prog 36 #[.slice a0.a a0.len a0.cap, .int .i64 k0] w (fun v w' => v = .int .i64 (k0 + Dat.cnts l) ∧ ∃ l', l'.length = l.length ∧ Dat.cnts l' = Dat.cnts l ∧ (∀ e, e ∈ l' → Has TyDiskWrite e) ∧ MarkedF TXT l' k0 ∧ OwnD w' (.sl 2 l') bs [.slice a0.a a0.len a0.cap] ∧ Only (fun k => k ∈ bs) w w') := by
  refine go36 ?_
  unfold W36
  obtain ⟨hlen, hmax⟩ := ownD_len h
  have hmx : maxLen = 9223372036854775807 := rfl
  rw [hlen]
  refine LoopW.m2 (fun (x i : Int) w' => ∃ (k : Nat) (l' : List Dat), i = k ∧ k ≤ l.length ∧ l'.length = k ∧ x = k0 + Dat.cnts l' ∧ Dat.cnts l' = Dat.cnts (l.take k) ∧ (∀ e, e ∈ l' → Has TyDiskWrite e) ∧ MarkedF TXT l' k0 ∧ OwnD w' (.sl 2 (l' ++ l.drop k)) bs [.slice a0.a a0.len a0.cap] ∧ Only (fun k => k ∈ bs) w w') (fun _ (i : Int) _ => (l.length - i).toNat) ⟨0, [], rfl, by omega, rfl, by simp [Dat.cnts], by simp [Dat.cnts], fun e he => (by cases he), markedF_nil, by simpa using h, Only.refl _ _⟩ ?_
  rintro (kx : Int) (i : Int) w4 ⟨k, l', rfl, hkl, hl', hx, hcn, hty, hmk, ho, o4⟩ J hJ
  refine BIf.dec (fun hlt => ?_) (fun hge => ?_)
  · obtain ⟨d, hd⟩ : ∃ d, l[k]? = some d := ⟨_, List.getElem?_eq_getElem (by omega)⟩
    have hcg := cnts_get hd
    have hct := cnts_take hd
    have ht0 := ht d (mem_get hd)
    obtain ⟨x_0, l_1, rfl, t_1⟩ := has_DiskWrite ht0
    simp only [Dat.cnt, Dat.cnts] at hcg hct
    obtain ⟨b, bp, b1, bq, vp, v1, vq, ha, hbs, hvp, hod, hm, hvl, hlc, _⟩ := ownD_at ho (get_app hl' hd)
    rw [(take_app hl').1, (take_app hl').2] at hm
    have hv0 := hm.len
    have hbs0 := hbs
    rw [Int.toNat_natCast, ← hvp]
    simp (disch := omega) only [w64]
    have hbs : bs = b :: (bp ++ (([] ++ b1) ++ bq)) := hbs
    have me : ME w4 b 2 l' (l.drop (k + 1)) bp bq vp vq [] _ [] b1 [] v1 := ⟨hm, by unfold OwnF; exact ⟨rfl, rfl⟩, ownD_st hod, by rw [← hbs]; exact hn⟩
    refine ⟨by omega, by omega, _, ha, ?_⟩
    refine me.sc (d' := .int .i64 (kx)) sc_int (fun w => own_int (wf_i64 (by omega) (by omega))) rfl (fun w5 cr5 o5 me => ?_)
    have o4 := Only.trans o4 (o5.mono (fun c _ hc => by subst hc; rw [hbs]; simp))
    obtain ⟨b6, c6, hod6, hn6, hc6, hcl6⟩ := me.open
    obtain ⟨s6, rfl⟩ := ownD_sl_s hod6
    refine ⟨by omega, by omega, _, ha, s6, hc6 0 _ rfl, (c35 t_1 hod6 hn6 (by omega) (by omega)).mono ?_⟩
    rintro _ w6 ⟨rfl, m_1, g1_1, g2_1, g3_1, g4_1, g5_1, o6⟩
    obtain ⟨br6, cr6, me, hbs2⟩ := hcl6 w6 _ o6 g5_1
    have hbs := hbs.trans hbs2
    have o4 := Only.trans o4 (o6.mono (fun c _ hc => by rw [hbs]; simp [hc]))
    refine ⟨_, rfl, ?_⟩
    try simp (disch := omega) only [w64]
    obtain ⟨hm2, hod2, hbr⟩ := me.fin
    subst hbr
    have hrow := row_close (bs := bs) (a0 := a0) hm2 hod2 hvp hl' (by omega) ha (by rw [hlen]) (by rw [hbs, List.append_nil]) (by have : (l' ++ l.drop k).length = l.length := (by simp; omega); omega) hmax hv0 hvl
    have hmkd : Marked TXT (.st [.int .i64 (kx), .sl 1 m_1]) kx := marked_st (markedF_cons (k := kx) (k' := kx + 1) (marked_int (by rw [w64 (by omega) (by omega)])) (markedF_cons (k := kx + 1) (k' := kx + 1 + (Dat.cnts l_1 : Int)) (marked_sl g4_1) (markedF_nil (k := kx + 1 + (Dat.cnts l_1 : Int))) (by simp only [Dat.cnt]; omega)) (by simp only [Dat.cnt]; omega))
    have hhas : Has TyDiskWrite (.st [.int .i64 (kx), .sl 1 m_1]) := mk_st (mkF_cons mk_int (mkF_cons (mk_sl g3_1) (mkF_nil)))
    refine hJ _ _ _ ⟨k + 1, l' ++ [_], by omega, by omega, by simp; omega, ?_, ?_, has_snoc hty hhas, markedF_snoc hmk hmkd hx, hrow, o4⟩ (by omega)
    · rw [cnts_snoc]; simp only [Dat.cnt, Dat.cnts]; omega
    · rw [cnts_snoc, hct]; simp only [Dat.cnt, Dat.cnts]; omega
  · have hkl2 : k = l.length := by omega
    subst hkl2
    rw [List.take_length] at hcn
    rw [List.drop_length, List.append_nil, hlen] at ho
    exact ⟨by rw [hx, hcn], l', hl', hcn, hty, hmk, ho, o4⟩

/- heldByteS -/
theorem c40 {l : List Dat} {a0 : Sl} {k0 : Int} {w : World} (ht : ∀ e, e ∈ l → Has (.int .u8) e) (h : IsD w (.sl 1 l) [.slice a0.a a0.len a0.cap]) (hm : MarkedF TXT l k0) (h0 : 1 ≤ k0) (hk : k0 + Dat.cnts l ≤ 1099511627776) : CallW Try.prog 40 #[.slice a0.a a0.len a0.cap, .int .i64 k0] w (fun v w' => v = .int .i64 (k0 + Dat.cnts l) ∧ Ext w w') := by
  refine go40 ?_
  unfold W40
  obtain ⟨hlen, hmax, _⟩ := isD_sl h
  have hmx : maxLen = 9223372036854775807 := rfl
  rw [hlen]
  refine LoopW.m2 (fun (x i : Int) w' => ∃ k : Nat, i = k ∧ k ≤ l.length ∧ x = k0 + Dat.cnts (l.take k) ∧ Ext w w') (fun _ (i : Int) _ => (l.length - i).toNat) ⟨0, rfl, by omega, by simp [Dat.cnts], Only.refl _ _⟩ ?_
  rintro (kx : Int) (i : Int) w4 ⟨k, rfl, hkl, hx, e4⟩ J hJ
  refine BIf.dec (fun hlt => ?_) (fun hge => ?_)
  · obtain ⟨d, hd⟩ : ∃ d, l[k]? = some d := ⟨_, List.getElem?_eq_getElem (by omega)⟩
    have hcg := cnts_get hd
    have hct := cnts_take hd
    have hmd := markedF_get hm hd
    rw [← hx] at hmd
    have ht0 := ht d (mem_get hd)
    obtain ⟨p, es, hp, he, hc, his⟩ := isD_at (IsD.ext e4 _ _ h) hd
    obtain ⟨x, rfl⟩ := has_int ht0
    obtain ⟨rfl, ws⟩ := isD_int his
    simp only [Dat.cnt, Dat.cnts] at hcg hct
    simp only [Marked, MarkedF, Dat.cnt, Dat.cnts] at hmd
    have m := hmd
    try simp (disch := omega) only [w64]
    refine ⟨by omega, by omega, p, hp, _, hc 0 _ rfl, BIf.f (by rw [m]; first | (simp; done) | (simp; congr 1; omega)) ?_⟩
    exact hJ _ _ _ ⟨k + 1, by omega, by omega, by rw [hct]; omega, e4⟩ (by omega)
  · rw [List.take_of_length_le (by omega)] at hx
    exact ⟨by rw [hx], e4⟩

/- heldDiskWriteS -/
theorem c37 {l : List Dat} {a0 : Sl} {k0 : Int} {w : World} (ht : ∀ e, e ∈ l → Has TyDiskWrite e) (h : IsD w (.sl 2 l) [.slice a0.a a0.len a0.cap]) (hm : MarkedF TXT l k0) (h0 : 1 ≤ k0) (hk : k0 + Dat.cnts l ≤ 1099511627776) : CallW Try.prog 37 #[.slice a0.a a0.len a0.cap, .int .i64 k0] w (fun v w' => v = .int .i64 (k0 + Dat.cnts l) ∧ Ext w w') := by
  refine go37 ?_
  unfold W37
  obtain ⟨hlen, hmax, _⟩ := isD_sl h
  have hmx : maxLen = 9223372036854775807 := rfl
  rw [hlen]
  refine LoopW.m2 (fun (x i : Int) w' => ∃ k : Nat, i = k ∧ k ≤ l.length ∧ x = k0 + Dat.cnts (l.take k) ∧ Ext w w') (fun _ (i : Int) _ => (l.length - i).toNat) ⟨0, rfl, by omega, by simp [Dat.cnts], Only.refl _ _⟩ ?_
  rintro (kx : Int) (i : Int) w4 ⟨k, rfl, hkl, hx, e4⟩ J hJ
  refine BIf.dec (fun hlt => ?_) (fun hge => ?_)
  · obtain ⟨d, hd⟩ : ∃ d, l[k]? = some d := ⟨_, List.getElem?_eq_getElem (by omega)⟩
    have hcg := cnts_get hd
    have hct := cnts_take hd
    have hmd := markedF_get hm hd
    rw [← hx] at hmd
    have ht0 := ht d (mem_get hd)
    obtain ⟨p, es, hp, he, hc, his⟩ := isD_at (IsD.ext e4 _ _ h) hd
    obtain ⟨x_0, l_1, rfl, t_1⟩ := has_DiskWrite ht0
    obtain ⟨s_1, rfl, ws_0, is_1⟩ := cells_DiskWrite his
    simp only [Dat.cnt, Dat.cnts] at hcg hct
    simp only [Marked, MarkedF, Dat.cnt, Dat.cnts] at hmd
    obtain ⟨m_0, m_1, _⟩ := hmd
    try simp (disch := omega) only [w64]
    refine ⟨by omega, by omega, p, hp, _, hc 0 _ rfl, BIf.f (by rw [m_0, w64 (by omega) (by omega)]; first | (simp; done) | (simp; omega)) ?_⟩
    refine ⟨by omega, by omega, p, hp, s_1, hc 1 _ rfl, (c40 (k0 := kx + 1) t_1 is_1 (markedF_at m_1 (by omega)) (by omega) (by omega)).mono ?_⟩
    rintro _ w5 ⟨rfl, e5⟩
    refine ⟨_, rfl, BIf.f (decide_eq_false (by omega)) ?_⟩
    try simp (disch := omega) only [w64]
    have hc := fun m v hv => e5.cell (hc m v hv)
    exact hJ _ _ _ ⟨k + 1, by omega, by omega, by rw [hct]; omega, Only.trans e4 e5⟩ (by omega)
  · rw [List.take_of_length_le (by omega)] at hx
    exact ⟨by rw [hx], e4⟩

end Go.Proofs.Ytenhcpjlkmbedaa

/- Checksums, both sides. Conditions: none. -/
set_option linter.unusedVariables false
set_option linter.unusedSimpArgs false
namespace Go.Proofs.Ytenhcpjlkmbedaa
open Go Go.Den
structure Bytes (w : World) (s : Sl) (m : List Int) : Prop where
  len : s.len = m.length
  cap : s.len ≤ s.cap
  row : RowAt w s.a s.len (m.map (Value.int .u8))
  rng : ∀ x, x ∈ m → 0 ≤ x ∧ x ≤ 255
  small : m.length ≤ 1099511627776
theorem Bytes.ext {w w' : World} {s : Sl} {m : List Int} (h : Bytes w s m) (e : Ext w w') : Bytes w' s m := ⟨h.len, h.cap, e.row h.row, h.rng, h.small⟩
theorem Bytes.get {w : World} {s : Sl} {m : List Int} (h : Bytes w s m) {i : Nat} {x : Int} (hx : m[i]? = some x) : ∃ p, s.a = some p ∧ w.cell? (p.add (i * 1)) = some (.int .u8 x) := by
  obtain ⟨p, hp, hc⟩ := h.row.cell (i := i) (v := .int .u8 x) (by simp [hx])
  exact ⟨p, hp, by rw [Nat.mul_one]; exact hc⟩
def crcB (x : Int) : Nat → Int
  | 0 => x
  | k + 1 => if crcB x k % 2 = 1 then xorI .u64 (crcB x k / 2) 3988292384 else crcB x k / 2
def crcF (m : List Int) : Nat → Int
  | 0 => 4294967295
  | k + 1 => match m[k]? with | some x => crcB (xorI .u64 (crcF m k) x) 8 | none => crcF m k
def crc (m : List Int) : Int := xorI .u64 (crcF m m.length) 4294967295
theorem crcB_rng {x : Int} (h : 0 ≤ x ∧ x < 18446744073709551616) : ∀ k, 0 ≤ crcB x k ∧ crcB x k < 18446744073709551616
  | 0 => h
  | k + 1 => by
    have ih := crcB_rng h k
    unfold crcB
    split
    · exact xorI_rng _ _
    · omega
theorem crcF_step {m : List Int} {k : Nat} {x : Int} (hx : m[k]? = some x) : crcF m (k + 1) = crcB (xorI .u64 (crcF m k) x) 8 := by rw [crcF, hx]
theorem crc_rng (m : List Int) : 0 ≤ crc m ∧ crc m < 18446744073709551616 := xorI_rng _ _
theorem c70 {s : Sl} {m : List Int} {w : World} (h : Bytes w s m) : CallW Try.prog 70 #[.slice s.a s.len s.cap] w (fun v w' => v = .int .u64 (crc m) ∧ w' = w) := by
  refine go70 ?_
  unfold W70
  have hl := h.len
  have hs := h.small
  refine LoopW.m2 (fun (n i : Int) w' => ∃ k : Nat, i = k ∧ k ≤ m.length ∧ n = crcF m k ∧ w' = w) (fun _ (i : Int) _ => ((m.length : Int) - i).toNat) ⟨0, rfl, by omega, rfl, rfl⟩ ?_
  rintro (n : Int) (i : Int) w4 ⟨k, rfl, hk, rfl, rfl⟩ J hJ
  rw [hl]
  refine BIf.dec (fun hlt => ?_) (fun hge => ?_)
  · obtain ⟨x, hx⟩ : ∃ x, m[k]? = some x := ⟨_, List.getElem?_eq_getElem (by omega)⟩
    obtain ⟨p, hp, hc⟩ := h.get hx
    have hxr := h.rng x (List.mem_of_getElem? hx)
    refine ⟨by omega, by omega, p, hp, _, hc, ?_⟩
    rw [wu64 (n := x) (by omega) (by omega)]
    have hr0 := xorI_rng (crcF m k) x
    refine LoopW.m2 (fun (y j : Int) w' => ∃ q : Nat, j = q ∧ q ≤ 8 ∧ y = crcB (xorI .u64 (crcF m k) x) q ∧ w' = w4) (fun _ (j : Int) _ => (8 - j).toNat) ⟨0, rfl, by omega, rfl, rfl⟩ ?_
    rintro (y : Int) (j : Int) w5 ⟨q, rfl, hq, rfl, rfl⟩ J2 hJ2
    have hr := crcB_rng hr0 q
    refine BIf.dec (fun hlt2 => ?_) (fun hge2 => ?_)
    · rw [w64 (n := (q : Int) + 1) (by omega) (by omega)]
      rw [andI_one hr.1 hr.2, shrI_one]
      refine ⟨by omega, BIf.of (fun hb => ?_) (fun hb => ?_)⟩
      · have hb : crcB (xorI .u64 (crcF m k) x) q % 2 = 1 := by simpa using hb
        exact hJ2 _ _ _ ⟨q + 1, by omega, by omega, by rw [crcB, if_pos hb], rfl⟩ (by omega)
      · have hb : ¬ crcB (xorI .u64 (crcF m k) x) q % 2 = 1 := by simpa using hb
        exact hJ2 _ _ _ ⟨q + 1, by omega, by omega, by rw [crcB, if_neg hb], rfl⟩ (by omega)
    · have hq8 : q = 8 := by omega
      subst hq8
      rw [w64 (by omega) (by omega)]
      exact hJ _ _ _ ⟨k + 1, by omega, by omega, (crcF_step hx).symm, rfl⟩ (by omega)
  · have hk2 : k = m.length := by omega
    subst hk2
    exact ⟨rfl, rfl⟩
theorem c82 {s : Sl} {m : List Int} {w : World} (h : Bytes w s m) : CallW Try.prog 82 #[.slice s.a s.len s.cap] w (fun v w' => v = .int .u64 (crc m) ∧ w' = w) := by
  refine go82 ?_
  unfold W82
  have hl := h.len
  have hs := h.small
  refine LoopW.m2 (fun (n i : Int) w' => ∃ k : Nat, i = k ∧ k ≤ m.length ∧ n = crcF m k ∧ w' = w) (fun _ (i : Int) _ => ((m.length : Int) - i).toNat) ⟨0, rfl, by omega, rfl, rfl⟩ ?_
  rintro (n : Int) (i : Int) w4 ⟨k, rfl, hk, rfl, rfl⟩ J hJ
  rw [hl]
  refine BIf.dec (fun hlt => ?_) (fun hge => ?_)
  · obtain ⟨x, hx⟩ : ∃ x, m[k]? = some x := ⟨_, List.getElem?_eq_getElem (by omega)⟩
    obtain ⟨p, hp, hc⟩ := h.get hx
    have hxr := h.rng x (List.mem_of_getElem? hx)
    refine ⟨by omega, by omega, p, hp, _, hc, ?_⟩
    rw [wu64 (n := x) (by omega) (by omega)]
    have hr0 := xorI_rng (crcF m k) x
    refine LoopW.m2 (fun (y j : Int) w' => ∃ q : Nat, j = q ∧ q ≤ 8 ∧ y = crcB (xorI .u64 (crcF m k) x) q ∧ w' = w4) (fun _ (j : Int) _ => (8 - j).toNat) ⟨0, rfl, by omega, rfl, rfl⟩ ?_
    rintro (y : Int) (j : Int) w5 ⟨q, rfl, hq, rfl, rfl⟩ J2 hJ2
    have hr := crcB_rng hr0 q
    refine BIf.dec (fun hlt2 => ?_) (fun hge2 => ?_)
    · rw [w64 (n := (q : Int) + 1) (by omega) (by omega)]
      rw [Int.tmod_eq_emod_of_nonneg hr.1, Int.tdiv_eq_ediv_of_nonneg hr.1, wu64 (n := crcB (xorI .u64 (crcF m k) x) q / 2) (by omega) (by omega)]
      refine ⟨by omega, by omega, BIf.of (fun hb => ?_) (fun hb => ?_)⟩
      · have hb : crcB (xorI .u64 (crcF m k) x) q % 2 = 1 := by simpa using hb
        exact hJ2 _ _ _ ⟨q + 1, by omega, by omega, by rw [crcB, if_pos hb], rfl⟩ (by omega)
      · have hb : ¬ crcB (xorI .u64 (crcF m k) x) q % 2 = 1 := by simpa using hb
        exact hJ2 _ _ _ ⟨q + 1, by omega, by omega, by rw [crcB, if_neg hb], rfl⟩ (by omega)
    · have hq8 : q = 8 := by omega
      subst hq8
      rw [w64 (by omega) (by omega)]
      exact hJ _ _ _ ⟨k + 1, by omega, by omega, (crcF_step hx).symm, rfl⟩ (by omega)
  · have hk2 : k = m.length := by omega
    subst hk2
    exact ⟨rfl, rfl⟩
end Go.Proofs.Ytenhcpjlkmbedaa

/- Numbers as eight bytes, both sides. Conditions: none. -/
set_option linter.unusedVariables false
set_option linter.unusedSimpArgs false
namespace Go.Proofs.Ytenhcpjlkmbedaa
open Go Go.Den
def u8s (m : List Int) : List Value := m.map (Value.int .u8)
theorem u8s_len (m : List Int) : (u8s m).length = m.length := by unfold u8s; simp
theorem u8s_app (a b : List Int) : u8s (a ++ b) = u8s a ++ u8s b := by unfold u8s; simp
def le (x : Int) : Nat → List Int
  | 0 => []
  | k + 1 => le x k ++ [x / ((256 ^ k : Nat) : Int) % 256]
theorem le_len (x : Int) : ∀ k, (le x k).length = k
  | 0 => rfl
  | k + 1 => by unfold le; rw [List.length_append, le_len x k]; rfl
theorem c88 {x : Int} {w : World} (h0 : 0 ≤ x) (h1 : x < 18446744073709551616) : CallW Try.prog 88 #[.int .u64 x] w (fun v w' => ∃ t : Sl, v = .slice t.a t.len t.cap ∧ OwnS w' w.heap.size t 1 (u8s (le x 8)) ∧ Ext w w') := by
  refine go88 ?_
  unfold W88
  refine alloc_step (fun w1 e1 _ n1 => ?_)
  refine LoopW.m3 (fun (y : Int) (s : Sl) (i : Int) w' => ∃ k : Nat, i = k ∧ k ≤ 8 ∧ y = x / ((256 ^ k : Nat) : Int) ∧ OwnS w' w.heap.size s 1 (u8s (le x k)) ∧ Ext w w') (fun _ _ (i : Int) _ => (8 - i).toNat) ⟨0, rfl, by omega, by simp, OwnS.none _ _ _ _, e1⟩ ?_
  rintro (y : Int) (s : Sl) (i : Int) w6 ⟨k, rfl, hk, rfl, own, e6⟩ J hJ
  have z6 := e6.size
  have hp : 1 ≤ 256 ^ k := Nat.one_le_pow _ _ (by omega)
  have hy0 : 0 ≤ x / ((256 ^ k : Nat) : Int) := Int.ediv_nonneg h0 (by omega)
  have hy1 : x / ((256 ^ k : Nat) : Int) ≤ x := Int.ediv_le_self _ h0
  have hl := own.len
  rw [u8s_len, le_len, Nat.mul_one] at hl
  refine BIf.dec (fun hlt => ?_) (fun hge => ?_)
  · rw [Int.tmod_eq_emod_of_nonneg hy0, Int.tdiv_eq_ediv_of_nonneg hy0]
    have hm : IntKind.u8.wrap (x / ((256 ^ k : Nat) : Int) % 256) = x / ((256 ^ k : Nat) : Int) % 256 := by rw [IntKind.wrap_u8]; omega
    rw [hm]
    refine ⟨by omega, LetW_iff.2 (AppendW.one (x := [.int .u8 (x / ((256 ^ k : Nat) : Int) % 256)]) own z6 rfl rfl rfl (by decide) (by show (s.len + 1) * 1 ≤ _; omega) (fun v hv => by simp at hv; subst hv; rfl) (fun s' w9 g1 g2 g3 g4 => ?_))⟩
    refine ⟨by omega, ?_⟩
    rw [w64 (by omega) (by omega), wu64 (by omega) (by omega)]
    refine hJ _ _ _ _ ⟨k + 1, by omega, by omega, ?_, ?_, Ext.own e6 g3 (fun j hj => hj.1)⟩ (by omega)
    · rw [Nat.pow_succ, Int.natCast_mul, ← Int.ediv_ediv_of_nonneg (by omega)]; rfl
    · rw [le, u8s_app]; exact g2
  · have hk8 : k = 8 := by omega
    subst hk8
    exact ⟨s, rfl, own, e6⟩
theorem u8s_set (m : List Int) (i : Nat) (x : Int) : (u8s m).set i (.int .u8 x) = u8s (m.set i x) := by unfold u8s; rw [List.map_set]
theorem OwnS.capLe {w : World} {b0 z : Nat} {s : Sl} {vs : List Value} (h : OwnS w b0 s z vs) : s.len ≤ s.cap := by
  rcases h.2 with ⟨h1, h2⟩ | ⟨b, cs, _, _, _, _, h, _⟩
  · omega
  · exact h
theorem OwnS.where_ {w : World} {b0 z : Nat} {s : Sl} {vs : List Value} (h : OwnS w b0 s z vs) (hc : 0 < s.cap) : ∃ q, s.a = some ⟨q, 0, none⟩ ∧ b0 ≤ q ∧ q < w.heap.size := by
  rcases h.2 with ⟨h1, h2⟩ | ⟨b, cs, ha, hb, hbl, _⟩
  · omega
  · exact ⟨b, ha, hb, hbl.lt⟩
theorem own_set1 {w : World} {b0 : Nat} {s : Sl} {m : List Int} {i : Nat} {x : Int} {k : World → Prop} (h : OwnS w b0 s 1 (u8s m)) (hi : i < m.length)
    (hk : ∀ w2, OwnS w2 b0 s 1 (u8s (m.set i x)) → Only (fun q => b0 ≤ q ∧ s.a = some ⟨q, 0, none⟩ ∧ q < w.heap.size) w w2 → w2.heap.size = w.heap.size → k w2) :
    ∃ p, s.a = some p ∧ May w (p.add (i * 1)) ∧ LetW (w.setCell (p.add (i * 1)) (.int .u8 x)) k := by
  have hl := h.len
  rw [u8s_len, Nat.mul_one] at hl
  obtain ⟨p, hp, hm, ho, hn⟩ := h.set (i := i) (by rw [u8s_len]; exact hi) (.int .u8 x)
  rw [Nat.mul_one]
  refine ⟨p, hp, hm, LetW_iff.2 (hk _ (by rw [← u8s_set]; exact ho) ?_ (size_set w _ _))⟩
  have hcap := OwnS.capLe h
  obtain ⟨q, hq, hq0, hq1⟩ := OwnS.where_ h (by omega)
  rw [hp] at hq
  cases hq
  have hos := only_set w ((⟨q, 0, none⟩ : Addr).add i) (.int .u8 x)
  exact hos.mono (fun j _ hj => by rw [add_block] at hj; subst hj; exact ⟨hq0, hp, hq1⟩)
def putN (m : List Int) (a : Nat) (x : Int) : Nat → List Int
  | 0 => m
  | k + 1 => (putN m a x k).set (a + k) (x / ((256 ^ k : Nat) : Int) % 256)
theorem putN_len (m : List Int) (a : Nat) (x : Int) : ∀ k, (putN m a x k).length = m.length
  | 0 => rfl
  | k + 1 => by unfold putN; rw [List.length_set, putN_len m a x k]
theorem pow256 : ∀ k : Nat, ((2 ^ (8 * k) : Nat) : Int) = ((256 ^ k : Nat) : Int) := fun k => by rw [Nat.pow_mul]
theorem c94 {sm : Sl} {m : List Int} {b0 a : Nat} {x : Int} {w : World} (h : OwnS w b0 sm 1 (u8s m)) (ha : a + 8 ≤ m.length) (hs : m.length ≤ 1099511627776) (h0 : 0 ≤ x) (h1 : x < 18446744073709551616) :
    CallW Try.prog 94 #[.slice sm.a sm.len sm.cap, .int .i64 (a : Int), .int .u64 x] w (fun v w' => v = .tuple #[] ∧ OwnS w' b0 sm 1 (u8s (putN m a x 8)) ∧ Only (fun q => b0 ≤ q ∧ sm.a = some ⟨q, 0, none⟩) w w') := by
  refine go94 ?_
  unfold W94
  have hl := h.len
  rw [u8s_len, Nat.mul_one] at hl
  refine LoopW.m1 (fun (i : Int) w' => ∃ k : Nat, i = k ∧ k ≤ 8 ∧ OwnS w' b0 sm 1 (u8s (putN m a x k)) ∧ Only (fun q => b0 ≤ q ∧ sm.a = some ⟨q, 0, none⟩) w w') (fun (i : Int) _ => (8 - i).toNat) ⟨0, rfl, by omega, h, Only.refl _ _⟩ ?_
  rintro (i : Int) w4 ⟨k, rfl, hk, h4, o4⟩ J hJ
  refine BIf.dec (fun hlt => ?_) (fun hge => ?_)
  · have hidx : IntKind.i64.wrap ((a : Int) + (k : Int)) = ((a + k : Nat) : Int) := by rw [w64 (by omega) (by omega)]; omega
    have h8 : IntKind.i64.wrap (8 * (k : Int)) = ((8 * k : Nat) : Int) := by rw [w64 (by omega) (by omega)]; omega
    rw [hidx, Int.toNat_natCast, h8, shrI_u64 (by omega), pow256]
    have hp : 1 ≤ 256 ^ k := Nat.one_le_pow _ _ (by omega)
    have hm : IntKind.u8.wrap (x / ((256 ^ k : Nat) : Int)) = x / ((256 ^ k : Nat) : Int) % 256 := by rw [IntKind.wrap_u8]
    rw [hm]
    refine ⟨by omega, by omega, by omega, own_set1 h4 (by rw [putN_len]; omega) (fun w7 h7 o7 n7 => ?_)⟩
    rw [w64 (by omega) (by omega)]
    exact hJ _ _ ⟨k + 1, by omega, by omega, h7, Only.trans o4 (o7.mono (fun j _ hj => ⟨hj.1, hj.2.1⟩))⟩ (by omega)
  · have hk2 : k = 8 := by omega
    subst hk2
    exact ⟨rfl, h4, o4⟩
end Go.Proofs.Ytenhcpjlkmbedaa

/- Words of eight bytes, read on both sides. Conditions: none. -/
set_option linter.unusedVariables false
set_option linter.unusedSimpArgs false
namespace Go.Proofs.Ytenhcpjlkmbedaa
open Go Go.Den
def byt (m : List Int) (i : Int) : Int := m.getD i.toNat 0
/-- Bytes that are lent. -/
theorem Bytes.at {w : World} {s : Sl} {m : List Int} (h : Bytes w s m) {i : Int} (h0 : 0 ≤ i) (h1 : i < m.length) : ∃ p, s.a = some p ∧ w.cell? (p.add (i.toNat * 1)) = some (.int .u8 (byt m i)) := by
  have hi : i.toNat < m.length := by omega
  obtain ⟨p, hp, hc⟩ := h.row.cell (i := i.toNat) (v := .int .u8 (byt m i)) (by rw [List.getElem?_map, List.getElem?_eq_getElem hi]; simp [byt, List.getD_eq_getElem?_getD, List.getElem?_eq_getElem hi])
  exact ⟨p, hp, by rw [Nat.mul_one]; exact hc⟩
theorem byt_rng {m : List Int} (h : ∀ x, x ∈ m → 0 ≤ x ∧ x ≤ 255) (i : Int) : 0 ≤ byt m i ∧ byt m i ≤ 255 := by
  unfold byt
  rw [List.getD_eq_getElem?_getD]
  cases hx : m[i.toNat]? with
  | none => simp
  | some x => exact h x (List.mem_of_getElem? hx)
def hornr (m : List Int) (at_ : Int) : Nat → Int → Int
  | 0, x => x
  | i + 1, x => hornr m at_ i (x * 256 + byt m (at_ + (i : Int)))
def word (m : List Int) (at_ : Int) : Int := hornr m at_ 8 0
def B256 : Nat → Int
  | 0 => 1
  | n + 1 => 256 * B256 n
theorem B256_le : ∀ n, n ≤ 8 → 1 ≤ B256 n ∧ B256 n ≤ 18446744073709551616 := by decide
theorem hornr_rng {m : List Int} (hm : ∀ x, x ∈ m → 0 ≤ x ∧ x ≤ 255) (at_ : Int) : ∀ (k : Nat) (x : Int), k ≤ 8 → 0 ≤ x → x < B256 (8 - k) → 0 ≤ hornr m at_ k x ∧ hornr m at_ k x < 18446744073709551616
  | 0, x, hk, h0, h1 => ⟨h0, by have : B256 (8 - 0) = 18446744073709551616 := by decide
                                unfold hornr; omega⟩
  | k + 1, x, hk, h0, h1 => by
    have hb := byt_rng hm (at_ + (k : Int))
    have e : B256 (8 - k) = 256 * B256 (8 - (k + 1)) := by rw [show 8 - k = (8 - (k + 1)) + 1 by omega]; rfl
    exact hornr_rng hm at_ k _ (by omega) (by omega) (by omega)
theorem word_rng {m : List Int} (hm : ∀ x, x ∈ m → 0 ≤ x ∧ x ≤ 255) (at_ : Int) : 0 ≤ word m at_ ∧ word m at_ < 18446744073709551616 := hornr_rng hm at_ 8 0 (by omega) (by omega) (by decide)
/-! ## Bits -/
theorem ofInt_nat {y : Int} (h0 : 0 ≤ y) (h1 : y < 18446744073709551616) : (BitVec.ofInt 64 y).toNat = y.toNat := by
  rw [BitVec.toNat_ofInt]
  have : y % ((2 ^ 64 : Nat) : Int) = y := Int.emod_eq_of_lt h0 (by simpa using h1)
  rw [this]
theorem shl_byte {v : Int} (h0 : 0 ≤ v) (h1 : v < 72057594037927936) : shlI .u64 v 8 = v * 256 := by
  unfold shlI
  show IntKind.u64.wrap (v * 2 ^ (min (Int.toNat 8) 64)) = _
  rw [show v * 2 ^ (min (Int.toNat 8) 64) = v * 256 from rfl, wu64 (by omega) (by omega)]
theorem or_byte {v b : Int} (h0 : 0 ≤ v) (h1 : v < 72057594037927936) (hb0 : 0 ≤ b) (hb1 : b ≤ 255) : orI .u64 (shlI .u64 v 8) (IntKind.wrap .u64 b) = v * 256 + b := by
  rw [shl_byte h0 h1, wu64 hb0 (by omega)]
  unfold orI
  show IntKind.u64.wrap ((BitVec.ofInt 64 (v * 256) ||| BitVec.ofInt 64 b).toNat : Int) = _
  rw [BitVec.toNat_or, ofInt_nat (by omega) (by omega), ofInt_nat (by omega) (by omega)]
  obtain ⟨n, rfl⟩ := Int.eq_ofNat_of_zero_le h0
  obtain ⟨c, rfl⟩ := Int.eq_ofNat_of_zero_le hb0
  have h := Nat.shiftLeft_add_eq_or_of_lt (show c < 2 ^ 8 by omega) n
  rw [show ((n : Int) * 256).toNat = n <<< 8 by rw [Nat.shiftLeft_eq]; omega, Int.toNat_natCast, ← h, Nat.shiftLeft_eq, wu64 (by omega) (by omega)]
  omega
theorem c185 {w : World} : CallW Try.prog 185 #[.int .i64 8] w (fun v w' => v = .bool true ∧ w' = w) := by
  refine go185 ?_
  unfold W185
  simp only [join_or]
  exact ⟨rfl, by trivial⟩
theorem c171 {s : Sl} {m : List Int} {a : Int} {w : World} (h : Bytes w s m) (h0 : 0 ≤ a) (h1 : a + 8 ≤ m.length) : CallW Try.prog 171 #[.slice s.a s.len s.cap, .int .i64 a, .int .i64 8, .bool false] w (fun v w' => v = .tuple #[.int .u64 (word m a), .bool true] ∧ w' = w) := by
  refine go171 ?_
  unfold W171
  refine c185.mono ?_
  rintro _ w ⟨rfl, rfl⟩
  have hl := h.len
  have hsm := h.small
  refine ⟨true, rfl, JoinW.each (BIf.f rfl (JoinW.each ?_))⟩
  refine BIf.f (decide_eq_false (by omega)) ?_
  refine BIf.f (decide_eq_false (by rw [w64 (by omega) (by omega)]; omega)) ?_
  refine LoopW.m2 (fun (x i : Int) w' => ∃ k : Nat, k ≤ 8 ∧ i = (k : Int) - 1 ∧ hornr m a k x = word m a ∧ 0 ≤ x ∧ x < B256 (8 - k) ∧ w' = w) (fun _ (i : Int) _ => (i + 1).toNat) ⟨8, by omega, by rw [w64 (by omega) (by omega)]; rfl, rfl, by omega, by decide, rfl⟩ ?_
  rintro (x : Int) (i : Int) w ⟨k, hk, rfl, hx, hx0, hx1, rfl⟩ J hJ
  refine BIf.dec (fun hge => ?_) (fun hlt => ?_)
  · obtain ⟨j, rfl⟩ : ∃ j, k = j + 1 := ⟨k - 1, by omega⟩
    have hb := byt_rng h.rng (a + (j : Int))
    have e : B256 (8 - j) = 256 * B256 (8 - (j + 1)) := by rw [show 8 - j = (8 - (j + 1)) + 1 by omega]; rfl
    have hB := B256_le (8 - j) (by omega)
    have hidx : IntKind.i64.wrap (a + (((j + 1 : Nat) : Int) - 1)) = a + (j : Int) := by rw [w64 (by omega) (by omega)]; omega
    rw [hidx]
    obtain ⟨p, hp, hc⟩ := h.at (i := a + (j : Int)) (by omega) (by omega)
    refine ⟨by omega, by omega, p, hp, _, hc, ?_⟩
    rw [wu64 (n := byt m (a + (j : Int))) (by omega) (by omega), wu64 (n := x * 256) (by omega) (by omega), wu64 (by omega) (by omega), w64 (by omega) (by omega)]
    exact hJ _ _ _ ⟨j, by omega, by omega, hx, by omega, by omega, rfl⟩ (by omega)
  · have hk0 : k = 0 := by omega
    subst hk0
    refine BIf.f rfl ⟨?_, rfl⟩
    have hx : x = word m a := hx
    rw [hx]
theorem c146 {s : Sl} {m : List Int} {a : Int} {w : World} (h : Bytes w s m) (h0 : 0 ≤ a) (h1 : a + 8 ≤ m.length) : CallW Try.prog 146 #[.slice s.a s.len s.cap, .int .i64 a] w (fun v w' => v = .int .u64 (word m a) ∧ w' = w) := by
  refine go146 ?_
  unfold W146
  have hl := h.len
  have hsm := h.small
  refine LoopW.m2 (fun (x i : Int) w' => ∃ k : Nat, k ≤ 8 ∧ i = (k : Int) - 1 ∧ hornr m a k x = word m a ∧ 0 ≤ x ∧ x < B256 (8 - k) ∧ w' = w) (fun _ (i : Int) _ => (i + 1).toNat) ⟨8, by omega, rfl, rfl, by omega, by decide, rfl⟩ ?_
  rintro (x : Int) (i : Int) w ⟨k, hk, rfl, hx, hx0, hx1, rfl⟩ J hJ
  refine BIf.dec (fun hge => ?_) (fun hlt => ?_)
  · obtain ⟨j, rfl⟩ : ∃ j, k = j + 1 := ⟨k - 1, by omega⟩
    have hb := byt_rng h.rng (a + (j : Int))
    have e : B256 (8 - j) = 256 * B256 (8 - (j + 1)) := by rw [show 8 - j = (8 - (j + 1)) + 1 by omega]; rfl
    have hB := B256_le (8 - j) (by omega)
    have hidx : IntKind.i64.wrap (a + (((j + 1 : Nat) : Int) - 1)) = a + (j : Int) := by rw [w64 (by omega) (by omega)]; omega
    rw [hidx]
    obtain ⟨p, hp, hc⟩ := h.at (i := a + (j : Int)) (by omega) (by omega)
    refine ⟨by omega, by omega, by omega, p, hp, _, hc, ?_⟩
    rw [or_byte hx0 (by omega) (by omega) (by omega), w64 (by omega) (by omega)]
    exact hJ _ _ _ ⟨j, by omega, by omega, hx, by omega, by omega, rfl⟩ (by omega)
  · have hk0 : k = 0 := by omega
    subst hk0
    refine ⟨?_, rfl⟩
    have hx : x = word m a := hx
    rw [hx]
theorem c141 {s : Sl} {m : List Int} {a : Int} {w : World} (h : Bytes w s m) (h0 : 0 ≤ a) (h1 : a + 8 ≤ m.length) : CallW Try.prog 141 #[.slice s.a s.len s.cap, .int .i64 a] w (fun v w' => v = .int .u64 (word m a) ∧ w' = w) := by
  refine go141 ?_
  unfold W141
  refine (c171 h h0 h1).mono ?_
  rintro _ w ⟨rfl, rfl⟩
  exact ⟨_, _, rfl, rfl, rfl⟩
end Go.Proofs.Ytenhcpjlkmbedaa

/- Sectors, both sides. Conditions: none. -/
set_option linter.unusedVariables false
set_option linter.unusedSimpArgs false
namespace Go.Proofs.Ytenhcpjlkmbedaa
open Go Go.Den
theorem Bytes.cut {w : World} {s : Sl} {m : List Int} (h : Bytes w s m) {a n : Nat} (hn : 0 < n) (ha : a + n ≤ m.length) : Bytes w ⟨cutA s.a s.cap a 1, n, s.cap - a⟩ ((m.drop a).take n) := by
  have hl := h.len
  have hc := h.cap
  refine ⟨by simp; omega, by show n ≤ s.cap - a; omega, ?_, fun x hx => h.rng x (List.mem_of_mem_drop (List.mem_of_mem_take hx)), by have := h.small; rw [List.length_take, List.length_drop]; omega⟩
  obtain ⟨p, hp, hcell⟩ := h.row.2 (by omega)
  refine ⟨by simp; omega, fun _ => ⟨p.add (a * 1), ?_, fun j v hj => ?_⟩⟩
  · show cutA s.a s.cap a 1 = _
    unfold cutA
    rw [hp]
    first
      | rfl
      | (simp; omega)
      | (rw [if_neg (by omega)])
  · rw [add_add, Nat.mul_one]
    refine hcell _ v ?_
    rw [List.map_take, List.map_drop, List.getElem?_take] at hj
    split at hj
    · rw [List.getElem?_drop] at hj; exact hj
    · cases hj

def dOk (m : List Int) : Bool := decide (m.length % 128 = 0) && decide (m.length ≤ 131072)
theorem c148 {s : Sl} {m : List Int} {w : World} (h : s.len = m.length) : CallW Try.prog 148 #[.slice s.a s.len s.cap] w (fun v w' => v = .bool (dOk m) ∧ w' = w) := by
  refine go148 ?_
  unfold W148
  refine ⟨by omega, ?_⟩
  simp only [join_and]
  refine ⟨?_, by trivial⟩
  congr 1
  rw [h, Int.tmod_eq_emod_of_nonneg (by omega)]
  unfold dOk
  apply Bool.eq_iff_iff.2
  simp only [Bool.and_eq_true, decide_eq_true_eq, beq_iff_eq]
  omega
theorem c106 {s : Sl} {m : List Int} {w : World} (h : s.len = m.length) : CallW Try.prog 106 #[.slice s.a s.len s.cap] w (fun v w' => v = .bool (dOk m) ∧ w' = w) := by
  refine go106 ?_
  unfold W106
  refine ⟨by omega, ?_⟩
  simp only [join_and]
  refine ⟨?_, by trivial⟩
  congr 1
  rw [h, Int.tmod_eq_emod_of_nonneg (by omega)]
  unfold dOk
  apply Bool.eq_iff_iff.2
  simp only [Bool.and_eq_true, decide_eq_true_eq, beq_iff_eq]
  omega
def sec (m : List Int) (k : Nat) : List Int := (m.drop (k * 128)).take 128
theorem plain_u8 {l : List Int} : ∀ v, v ∈ l.map (Value.int .u8) → plainB v = true := fun v hv => by obtain ⟨x, _, rfl⟩ := List.mem_map.1 hv; rfl
theorem c95 {s : Sl} {m : List Int} {k : Nat} {w : World} (h : Bytes w s m) (hk : (k + 1) * 128 ≤ m.length) : CallW Try.prog 95 #[.slice s.a s.len s.cap, .int .i64 (k : Int)] w (fun v w' => ∃ t : Sl, v = .slice t.a t.len t.cap ∧ OwnS w' w.heap.size t 1 (u8s (sec m k)) ∧ Ext w w') := by
  refine go95 ?_
  unfold W95
  have hl := h.len
  have hc := h.cap
  have hs := h.small
  have e1 : IntKind.i64.wrap (IntKind.i64.wrap ((k : Int) + 1) * 128) = (((k + 1) * 128 : Nat) : Int) := by rw [w64 (n := (k : Int) + 1) (by omega) (by omega), w64 (by omega) (by omega)]; omega
  have e2 : IntKind.i64.wrap ((k : Int) * 128) = ((k * 128 : Nat) : Int) := by rw [w64 (by omega) (by omega)]; omega
  rw [e1, e2]
  refine ⟨by omega, by omega, by omega, by omega, ?_⟩
  rw [Int.toNat_natCast, Int.toNat_natCast, show (k + 1) * 128 - k * 128 = 128 by omega]
  have hcut := h.cut (a := k * 128) (n := 128) (by omega) (by omega)
  refine AppendW.own (b0 := w.heap.size) (z := 1) (os := []) (vs := (sec m k).map (Value.int .u8)) (OwnS.none _ _ _ _) (by rw [Nat.mul_one]; exact hcut.row) rfl rfl (by decide) (by show (0 + 128) * 1 ≤ _; omega) plain_u8 (Nat.le_refl _) (fun s' w' h1 h2 h3 h4 => ?_)
  exact ⟨s', rfl, h2, h3.mono (fun j _ hj => absurd hj.2 (by simp))⟩
theorem c143 {s : Sl} {m : List Int} {k : Nat} {w : World} (h : Bytes w s m) (hk : (k + 1) * 128 ≤ m.length) : CallW Try.prog 143 #[.slice s.a s.len s.cap, .int .i64 (k : Int)] w (fun v w' => ∃ t : Sl, v = .slice t.a t.len t.cap ∧ OwnS w' w.heap.size t 1 (u8s (sec m k)) ∧ Ext w w') := by
  refine go143 ?_
  unfold W143
  have hl := h.len
  have hc := h.cap
  have hs := h.small
  refine alloc_step (fun w1 e0 _ n1 => ?_)
  have e1 : IntKind.i64.wrap (IntKind.i64.wrap ((k : Int) + 1) * 128) = (((k + 1) * 128 : Nat) : Int) := by rw [w64 (n := (k : Int) + 1) (by omega) (by omega), w64 (by omega) (by omega)]; omega
  have e2 : IntKind.i64.wrap ((k : Int) * 128) = ((k * 128 : Nat) : Int) := by rw [w64 (by omega) (by omega)]; omega
  rw [e1, e2]
  refine ⟨by omega, by omega, by omega, by omega, ?_⟩
  rw [Int.toNat_natCast, Int.toNat_natCast, show (k + 1) * 128 - k * 128 = 128 by omega]
  have hcut := (h.ext e0).cut (a := k * 128) (n := 128) (by omega) (by omega)
  refine AppendW.own (b0 := w1.heap.size) (z := 1) (os := []) (vs := (sec m k).map (Value.int .u8)) (OwnS.none _ _ _ _) (by rw [Nat.mul_one]; exact hcut.row) rfl rfl (by decide) (by show (0 + 128) * 1 ≤ _; omega) plain_u8 (Nat.le_refl _) (fun s' w' h1 h2 h3 h4 => ?_)
  exact ⟨s', rfl, h2.mono (by omega), Only.trans e0 (h3.mono (fun j hj hh => by have := hh.1; omega))⟩
end Go.Proofs.Ytenhcpjlkmbedaa

/- Writes, zeros, comparisons. Conditions: none. -/
set_option linter.unusedVariables false
set_option linter.unusedSimpArgs false
namespace Go.Proofs.Ytenhcpjlkmbedaa
open Go Go.Den
theorem c89 {s : Sl} {m : List Int} {a : Int} {w : World} (h : Bytes w s m) : CallW Try.prog 89 #[.int .i64 a, .slice s.a s.len s.cap] w (fun v w' => ∃ t : Sl, v = .agg #[.int .i64 a, .slice t.a t.len t.cap] ∧ OwnS w' w.heap.size t 1 (u8s m) ∧ Ext w w') := by
  refine go89 ?_
  unfold W89
  have hl := h.len
  have hs := h.small
  refine alloc_step (fun w1 e1 hz n1 => ?_)
  refine alloc_step (fun w2 e2 _ n2 => ?_)
  have hz := hz.ext e2
  have e := Only.trans e1 e2
  refine AppendW.own (b0 := w2.heap.size) (z := 1) (os := []) (vs := m.map (Value.int .u8)) (OwnS.none _ _ _ _) (by rw [Nat.mul_one]; exact (h.ext e).row) rfl rfl (by decide) (by show (0 + s.len) * 1 ≤ _; omega) plain_u8 (Nat.le_refl _) (fun t w4 h1 h2 h3 h4 => ?_)
  have e4 : Ext w2 w4 := h3.mono (fun k hk hh => by have := hh.1; omega)
  have hz := hz.ext e4
  have e := Only.trans e e4
  refine put_step hz rfl rfl (fun w5 o5 hz n5 => ?_)
  have h2 := h2.only o5 (fun b _ hb0 _ hbb => by omega)
  exact ⟨_, hz.cell 0, t, hz.cell 1, t, rfl, h2.mono (by omega), Ext.own e o5 (fun k hk => by omega)⟩
def zerB (m : List Int) : Bool := m.all (fun x => x == 0)
theorem c147 {s : Sl} {m : List Int} {w : World} (h : Bytes w s m) : CallW Try.prog 147 #[.slice s.a s.len s.cap] w (fun v w' => v = .bool (zerB m) ∧ w' = w) := by
  refine go147 ?_
  unfold W147
  have hl := h.len
  have hs := h.small
  refine LoopW.m1 (fun (i : Int) w' => ∃ k : Nat, i = k ∧ k ≤ m.length ∧ (∀ x, x ∈ m.take k → x = 0) ∧ w' = w) (fun (i : Int) _ => ((m.length : Int) - i).toNat) ⟨0, rfl, by omega, (fun x hx => by simp at hx), rfl⟩ ?_
  rintro (i : Int) w3 ⟨k, rfl, hk, hz, rfl⟩ J hJ
  rw [hl]
  refine BIf.dec (fun hlt => ?_) (fun hge => ?_)
  · obtain ⟨x, hx⟩ : ∃ x, m[k]? = some x := ⟨_, List.getElem?_eq_getElem (by omega)⟩
    obtain ⟨p, hp, hc⟩ := h.get hx
    refine ⟨by omega, by omega, p, hp, _, hc, ?_⟩
    refine BIf.of (fun hb => ?_) (fun hb => ?_)
    · have hb : x ≠ 0 := by simpa using hb
      have : zerB m = false := by
        unfold zerB
        apply Bool.eq_false_iff.2
        intro hh
        have := List.all_eq_true.1 hh x (List.mem_of_getElem? hx)
        exact hb (by simpa using this)
      rw [this]; exact ⟨rfl, rfl⟩
    · have hb : x = 0 := by simpa using hb
      rw [w64 (by omega) (by omega)]
      refine hJ _ _ ⟨k + 1, by omega, by omega, fun y hy => ?_, rfl⟩ (by omega)
      rw [List.take_add_one, hx] at hy
      rcases List.mem_append.1 hy with hy | hy
      · exact hz y hy
      · simp at hy; omega
  · rw [List.take_of_length_le (by omega)] at hz
    have : zerB m = true := List.all_eq_true.2 (fun x hx => by simpa using hz x hx)
    rw [this]; exact ⟨rfl, rfl⟩
end Go.Proofs.Ytenhcpjlkmbedaa

/- Comparisons, filling. Conditions: none. -/
set_option linter.unusedVariables false
set_option linter.unusedSimpArgs false
namespace Go.Proofs.Ytenhcpjlkmbedaa
open Go Go.Den
theorem c142 {s t : Sl} {a b : List Int} {w : World} (h : Bytes w s a) (h2 : Bytes w t b) : CallW Try.prog 142 #[.slice s.a s.len s.cap, .slice t.a t.len t.cap] w (fun v w' => v = .bool (decide (a = b)) ∧ Ext w w') := by
  refine go142 ?_
  unfold W142
  have hl := h.len
  have hl2 := h2.len
  have hs := h.small
  rw [hl, hl2]
  refine BIf.of (fun hb => ?_) (fun hb => ?_)
  · have hb : a.length ≠ b.length := by
      have : ¬ ((a.length : Int) = (b.length : Int)) := by simpa using hb
      omega
    exact ⟨by rw [decide_eq_false (fun hh => hb (by rw [hh]))], Only.refl _ _⟩
  have hlen : a.length = b.length := by
    have : (a.length : Int) = (b.length : Int) := by simpa using hb
    omega
  refine LoopW.m1 (fun (i : Int) w' => ∃ k : Nat, i = k ∧ k ≤ a.length ∧ a.take k = b.take k ∧ Ext w w') (fun (i : Int) _ => ((a.length : Int) - i).toNat) ⟨0, rfl, by omega, by simp, Only.refl _ _⟩ ?_
  rintro (i : Int) w3 ⟨k, rfl, hk, he, e3⟩ J hJ
  refine BIf.dec (fun hlt => ?_) (fun hge => ?_)
  · obtain ⟨x, hx⟩ : ∃ x, a[k]? = some x := ⟨_, List.getElem?_eq_getElem (by omega)⟩
    obtain ⟨y, hy⟩ : ∃ y, b[k]? = some y := ⟨_, List.getElem?_eq_getElem (by omega)⟩
    have e4 := Only.trans e3 (ext_drew w3)
    obtain ⟨p, hp, hc⟩ := (h.ext e4).get hx
    obtain ⟨q, hq, hd⟩ := (h2.ext e4).get hy
    refine ⟨by omega, by omega, p, hp, _, hc, by omega, by omega, q, hq, _, hd, ?_⟩
    refine BIf.of (fun hb => ?_) (fun hb => ?_)
    · have hb : x ≠ y := by simpa using hb
      exact ⟨by rw [decide_eq_false (fun hh => by rw [hh, hy] at hx; cases hx; exact hb rfl)], e4⟩
    · have hb : x = y := by simpa using hb
      rw [w64 (by omega) (by omega)]
      exact hJ _ _ ⟨k + 1, by omega, by omega, by rw [List.take_add_one, List.take_add_one, hx, hy, he, hb], e4⟩ (by omega)
  · rw [List.take_of_length_le (by omega), List.take_of_length_le (by omega)] at he
    exact ⟨by rw [decide_eq_true he], e3⟩
set_option maxRecDepth 8000 in
theorem c145 {s : Sl} {m : List Int} {b0 : Nat} {w : World} (h : OwnS w b0 s 1 (u8s m)) (hb0 : b0 ≤ w.heap.size) (hm : m.length ≤ 128) : CallW Try.prog 145 #[.slice s.a s.len s.cap] w (fun v w' => ∃ t : Sl, v = .slice t.a t.len t.cap ∧ OwnS w' b0 t 1 (u8s (m ++ List.replicate (128 - m.length) 0)) ∧ Only (fun k => b0 ≤ k) w w') := by
  refine go145 ?_
  unfold W145
  refine LoopW.m1 (fun (s : Sl) w' => ∃ k : Nat, k + m.length ≤ 128 ∧ s.len = m.length + k ∧ OwnS w' b0 s 1 (u8s (m ++ List.replicate k 0)) ∧ Only (fun k => b0 ≤ k) w w' ∧ b0 ≤ w'.heap.size) (fun (s : Sl) _ => 128 - s.len) ⟨0, by omega, by have := h.len; rw [u8s_len] at this; omega, by simpa using h, Only.refl _ _, hb0⟩ ?_
  rintro (s : Sl) w3 ⟨k, hk, hsl, own, o3, z3⟩ J hJ
  refine BIf.dec (fun hlt => ?_) (fun hge => ?_)
  · refine LetW_iff.2 (AppendW.one (x := [.int .u8 0]) own z3 rfl rfl rfl (by decide) (by show (s.len + 1) * 1 ≤ _; omega) (fun v hv => by simp at hv; subst hv; rfl) (fun s' w9 g1 g2 g3 g4 => ?_))
    refine hJ _ _ ⟨k + 1, by omega, by omega, ?_, Only.trans o3 (g3.mono (fun j _ hj => hj.1)), by have := g3.size; omega⟩ (by omega)
    rw [List.replicate_succ', ← List.append_assoc, u8s_app]; exact g2
  · obtain rfl : k = 128 - m.length := by omega
    exact ⟨s, rfl, own, o3⟩
end Go.Proofs.Ytenhcpjlkmbedaa

/- The journal's heads, both sides. Conditions: none. -/
set_option linter.unusedVariables false
set_option linter.unusedSimpArgs false
namespace Go.Proofs.Ytenhcpjlkmbedaa
open Go Go.Den
theorem nums_set {k : IntKind} {m : List Int} {i : Nat} {x : Int} {a : Int} (h : m[i]? = some a) : (nums k m).set i ([Ce.v (.int k a)].set 0 (.v (.int k x))) = nums k (m.set i x) := by unfold nums; rw [List.map_set]; rfl
/-- Bytes of one's own, lent. -/
theorem SH.bytes {w0 w : World} {As : List Asr} (h : SH w0 w As) (n : Nat) {s : Sl} {m : List Int} (hA : As[n]? = some (aRow s 1 (nums .u8 m))) (hr : ∀ x, x ∈ m → 0 ≤ x ∧ x ≤ 255) (hs : m.length ≤ 1099511627776) : Bytes w s m :=
  ⟨by rw [h.len n hA, nums_len], h.lenCap n hA, h.rowN n hA, hr, hs⟩
theorem s94 {sm : Sl} {m : List Int} {a : Nat} {x : Int} {w0 w : World} {F : List Asr} (h : SH w0 w (aRow sm 1 (nums .u8 m) :: F)) (ha : a + 8 ≤ m.length) (hs : m.length ≤ 1099511627776) :
    CallW Try.prog 94 #[.slice sm.a sm.len sm.cap, .int .i64 (a : Int), .int .u64 x] w (fun v w' => v = .tuple #[] ∧ SH w0 w' (aRow sm 1 (nums .u8 (putN m a x 8)) :: F)) := by
  refine go94 ?_
  unfold W94
  have hl := h.len 0 rfl
  rw [nums_len] at hl
  refine LoopW.m1 (fun (i : Int) w' => ∃ k : Nat, i = k ∧ k ≤ 8 ∧ SH w0 w' (aRow sm 1 (nums .u8 (putN m a x k)) :: F)) (fun (i : Int) _ => (8 - i).toNat) ⟨0, rfl, by omega, h⟩ ?_
  rintro (i : Int) w4 ⟨k, rfl, hk, h4⟩ J hJ
  refine BIf.dec (fun hlt => ?_) (fun hge => ?_)
  · have hidx : IntKind.i64.wrap ((a : Int) + (k : Int)) = ((a + k : Nat) : Int) := by rw [w64 (by omega) (by omega)]; omega
    have h8 : IntKind.i64.wrap (8 * (k : Int)) = ((8 * k : Nat) : Int) := by rw [w64 (by omega) (by omega)]; omega
    rw [hidx, Int.toNat_natCast, h8, shrI_u64 (by omega), pow256]
    have hm : IntKind.u8.wrap (x / ((256 ^ k : Nat) : Int)) = x / ((256 ^ k : Nat) : Int) % 256 := by rw [IntKind.wrap_u8]
    rw [hm]
    obtain ⟨y, hy⟩ : ∃ y, (putN m a x k)[a + k]? = some y := ⟨_, List.getElem?_eq_getElem (by rw [putN_len]; omega)⟩
    obtain ⟨q, hq, _⟩ := h4.elem 0 (j := 0) rfl (nums_get hy) rfl
    refine ⟨by omega, by omega, by omega, q, hq, h4.setE0 0 rfl hq (nums_get hy) rfl (fun w7 h7 n7 => ?_)⟩
    rw [w64 (by omega) (by omega)]
    refine hJ _ _ ⟨k + 1, by omega, by omega, ?_⟩ (by omega)
    have : SH w0 w7 (aRow sm 1 ((nums .u8 (putN m a x k)).set (a + k) ([Ce.v (.int .u8 y)].set 0 (.v (.int .u8 (x / ((256 ^ k : Nat) : Int) % 256))))) :: F) := h7
    rw [nums_set hy] at this
    exact this
  · have hk2 : k = 8 := by omega
    subst hk2
    exact ⟨rfl, h4⟩
theorem s88 {x : Int} {w : World} (h0 : 0 ≤ x) (h1 : x < 18446744073709551616) : CallW Try.prog 88 #[.int .u64 x] w (fun v w' => ∃ t : Sl, v = .slice t.a t.len t.cap ∧ SH w w' [aRow t 1 (nums .u8 (le x 8))]) :=
  (c88 h0 h1).mono (by rintro _ w' ⟨t, rfl, own, e⟩; exact ⟨t, rfl, SH.ofOwnN e own (Nat.le_refl _)⟩)
theorem Bytes.cut0 {w : World} {s : Sl} {m : List Int} (h : Bytes w s m) {n : Nat} (hn : n ≤ m.length) : Bytes w ⟨cutA s.a s.cap (Int.toNat 0) 1, n - Int.toNat 0, s.cap - Int.toNat 0⟩ (m.take n) := by
  have hl := h.len
  have hc := h.cap
  refine ⟨by simp; omega, by show n - 0 ≤ s.cap - 0; omega, ?_, fun x hx => h.rng x (List.mem_of_mem_take hx), by have := h.small; rw [List.length_take]; omega⟩
  refine ⟨by simp; omega, fun hn0 => ?_⟩
  have hn0 : 0 < n := hn0
  obtain ⟨p, hp, hcell⟩ := h.row.2 (by omega)
  refine ⟨p, ?_, fun j v hj => ?_⟩
  · show cutA s.a s.cap 0 1 = _
    unfold cutA
    rw [hp]
    split
    · rfl
    · simp [Den.add_zero]
  · rw [List.map_take, List.getElem?_take] at hj
    split at hj
    · exact hcell _ v hj
    · cases hj
theorem putN_eq (m : List Int) (a : Nat) (x : Int) : ∀ k, a + k ≤ m.length → putN m a x k = m.take a ++ le x k ++ m.drop (a + k)
  | 0, h => by simp [putN, le]
  | k + 1, h => by
    rw [putN, putN_eq m a x k (by omega), le, List.append_assoc, List.append_assoc, List.append_assoc]
    rw [List.set_append_right _ _ (by rw [List.length_take]; omega), List.length_take, Nat.min_eq_left (by omega), show a + k - a = k by omega]
    rw [List.set_append_right _ _ (by rw [le_len]; omega), le_len, Nat.sub_self, List.drop_eq_getElem_cons (by omega)]
    rw [List.set_cons_zero, show a + (k + 1) = a + k + 1 by omega]
    rfl
theorem putN_at {A B : List Int} {a r : Nat} {x : Int} (hA : A.length = a) (hB : B = List.replicate (8 + r) 0) : putN (A ++ B) a x 8 = A ++ le x 8 ++ List.replicate r 0 := by
  subst hB
  rw [putN_eq _ _ _ _ (by simp [hA]), List.take_left' hA, ← List.drop_drop, List.drop_left' hA, List.drop_replicate, Nat.add_sub_cancel_left]
theorem le_rng (x : Int) : ∀ k y, y ∈ le x k → 0 ≤ y ∧ y ≤ 255
  | 0, y, h => by cases h
  | k + 1, y, h => by
    rw [le] at h
    rcases List.mem_append.1 h with h | h
    · exact le_rng x k y h
    · rw [List.mem_singleton.1 h]; omega
set_option maxRecDepth 8000 in
theorem s145 {sl : Sl} {m : List Int} {w0 w : World} {F : List Asr} (h : SH w0 w (aRow sl 1 (nums .u8 m) :: F)) (hm : m.length ≤ 128) : CallW Try.prog 145 #[.slice sl.a sl.len sl.cap] w (fun v w' => ∃ t : Sl, v = .slice t.a t.len t.cap ∧ SH w0 w' (aRow t 1 (nums .u8 (m ++ List.replicate (128 - m.length) 0)) :: F)) := by
  refine go145 ?_
  unfold W145
  refine LoopW.m1 (fun (s : Sl) w' => ∃ k : Nat, k + m.length ≤ 128 ∧ s.len = m.length + k ∧ SH w0 w' (aRow s 1 (nums .u8 (m ++ List.replicate k 0)) :: F)) (fun (s : Sl) _ => 128 - s.len) ⟨0, by omega, by have := h.len 0 rfl; rw [nums_len] at this; omega, by simpa using h⟩ ?_
  rintro (s : Sl) w3 ⟨k, hk, hsl, h3⟩ J hJ
  refine BIf.dec (fun hlt => ?_) (fun hge => ?_)
  · refine LetW_iff.2 (SH.appendN1 h3 rfl rfl (by decide) (by show (_ + 1) * 1 ≤ _; simp; omega) (fun s' w9 h9 g1 g2 => ?_))
    refine hJ _ _ ⟨k + 1, by omega, by rw [g1]; simp; omega, ?_⟩ (by rw [g1]; simp; omega)
    rw [List.replicate_succ', ← List.append_assoc]; exact h9
  · obtain rfl : k = 128 - m.length := by omega
    exact ⟨s, rfl, h3⟩
def jnlT : List Int := [75, 74, 78, 76]
def hd0 (seq n sum : Int) : List Int := jnlT ++ List.replicate 12 0 ++ le seq 8 ++ le n 8 ++ le sum 8
def hdF (seq n sum : Int) : List Int := hd0 seq n sum ++ le (crc (hd0 seq n sum)) 8 ++ List.replicate 80 0
theorem hd0_len (seq n sum : Int) : (hd0 seq n sum).length = 40 := by simp [hd0, jnlT, le_len]
theorem hdF_len (seq n sum : Int) : (hdF seq n sum).length = 128 := by simp [hdF, hd0_len, le_len]
theorem hd0_rng (seq n sum : Int) : ∀ y, y ∈ hd0 seq n sum → 0 ≤ y ∧ y ≤ 255 := by
  intro y h
  simp only [hd0, jnlT, List.mem_append, List.mem_cons, List.mem_replicate, List.not_mem_nil, or_false] at h
  rcases h with (((h | h) | h) | h) | h
  · omega
  · omega
  · exact le_rng _ _ _ h
  · exact le_rng _ _ _ h
  · exact le_rng _ _ _ h
theorem hdF_rng (seq n sum : Int) : ∀ y, y ∈ hdF seq n sum → 0 ≤ y ∧ y ≤ 255 := by
  intro y h
  simp only [hdF, List.mem_append, List.mem_replicate] at h
  rcases h with (h | h) | h
  · exact hd0_rng _ _ _ _ h
  · exact le_rng _ _ _ h
  · omega
/-- The spec's head. -/
theorem s90 {seq n sum : Int} {w : World} (h0 : 0 ≤ seq) (h1 : seq < 18446744073709551616) (h2 : 0 ≤ n) (h3 : n ≤ 1000000) (h4 : 0 ≤ sum) (h5 : sum < 18446744073709551616) :
    CallW Try.prog 90 #[.int .u64 seq, .int .i64 n, .int .u64 sum] w (fun v w' => ∃ t : Sl, v = .slice t.a t.len t.cap ∧ SH w w' [aRow t 1 (nums .u8 (hdF seq n sum))]) := by
  refine go90 ?_
  unfold W90
  have h := SH.start w
  refine LetW_iff.2 ⟨_, rfl, mark_new (fun w3 e3 r3 => ?_)⟩
  have h := h.to e3
  refine SH.appendZG (z := 1) (xs := [[.int .u8 75], [.int .u8 74], [.int .u8 78], [.int .u8 76]]) h r3 rfl (by simp) (by omega) (by show 4 < 4 + Int.toNat 12; decide) rfl rfl (by decide) (by show (4 + Int.toNat 12) * 1 ≤ _; decide) (by decide) (fun l4 w5 h l4l => ?_)
  have h : SH w w5 [aRow l4 1 (nums .u8 (jnlT ++ List.replicate 12 0))] := h
  refine (s88 h0 h1).mono ?_
  rintro _ w7 ⟨l8, rfl, g⟩
  have h := h.seq g
  refine ⟨l8, rfl, ?_⟩
  refine SH.appendN (F := [aRow l8 1 (nums .u8 (le seq 8))]) h.p1 (h.rowN 0 rfl) rfl rfl (by decide) (by simp [jnlT, le_len]; decide) (fun l9 w10 h l9l _ => ?_)
  have h := h.p1.drop
  rw [wu64 h2 (by omega)]
  refine (s88 h2 (by omega)).mono ?_
  rintro _ w12 ⟨l13, rfl, g⟩
  have h := h.seq g
  refine ⟨l13, rfl, ?_⟩
  refine SH.appendN (F := [aRow l13 1 (nums .u8 (le n 8))]) h.p1 (h.rowN 0 rfl) rfl rfl (by decide) (by simp [jnlT, le_len]; decide) (fun l14 w15 h l14l _ => ?_)
  have h := h.p1.drop
  refine (s88 h4 h5).mono ?_
  rintro _ w17 ⟨l18, rfl, g⟩
  have h := h.seq g
  refine ⟨l18, rfl, ?_⟩
  refine SH.appendN (F := [aRow l18 1 (nums .u8 (le sum 8))]) h.p1 (h.rowN 0 rfl) rfl rfl (by decide) (by simp [jnlT, le_len]; decide) (fun l19 w20 h l19l _ => ?_)
  have h : SH w w20 [aRow l19 1 (nums .u8 (hd0 seq n sum))] := h.p1.drop
  refine (c82 (SH.bytes h 0 rfl (hd0_rng _ _ _) (by rw [hd0_len]; omega))).mono ?_
  rintro _ w22 ⟨rfl, rfl⟩
  refine ⟨_, rfl, ?_⟩
  have hc := crc_rng (hd0 seq n sum)
  refine (s88 hc.1 hc.2).mono ?_
  rintro _ w25 ⟨l26, rfl, g⟩
  have h := h.seq g
  refine ⟨l26, rfl, ?_⟩
  refine SH.appendN (F := [aRow l26 1 (nums .u8 (le (crc (hd0 seq n sum)) 8))]) h.p1 (h.rowN 0 rfl) rfl rfl (by decide) (by simp [hd0_len, le_len]; decide) (fun l27 w28 h l27l _ => ?_)
  have h := h.p1.drop
  refine (s145 h (by simp [hd0_len, le_len])).mono ?_
  rintro _ w30 ⟨l31, rfl, h⟩
  refine ⟨l31, rfl, l31, rfl, ?_⟩
  have hl : (hd0 seq n sum ++ le (crc (hd0 seq n sum)) 8).length = 48 := by simp [hd0_len, le_len]
  rw [hl] at h
  exact h
/-- The program's head. -/
theorem s96 {seq n : Int} {sl : Sl} {m : List Int} {w : World} (h0 : 0 ≤ seq) (h1 : seq < 18446744073709551616) (h2 : 0 ≤ n) (h3 : 16 * n ≤ m.length) (hb : Bytes w sl m) :
    CallW Try.prog 96 #[.int .u64 seq, .slice sl.a sl.len sl.cap, .int .i64 n] w (fun v w' => ∃ t : Sl, v = .slice t.a t.len t.cap ∧ SH w w' [aRow t 1 (nums .u8 (hdF seq n (crc (m.take (16 * n).toNat))))]) := by
  refine go96 ?_
  unfold W96
  have h := SH.start w
  have hsm := hb.small
  have hcap := hb.cap
  have hbl := hb.len
  refine ⟨by omega, by omega, by omega, by omega, SH.zeros (z := 1) h rfl (fun w1 h n1 => ?_)⟩
  generalize hbw : w.heap.size = b at *
  have h : SH w w1 [aRow ⟨some ⟨b, 0, none⟩, 128, 128⟩ 1 (nums .u8 (List.replicate 128 0))] := by rw [nums_rep]; exact h
  obtain ⟨hm, h⟩ := SH.putN (o := 0) jnlT 0 h rfl (by simp [jnlT])
  refine .inr ⟨_, rfl, fun j hj => hm j (Nat.zero_le _) (by show j < 0 + 4; exact Nat.lt_of_lt_of_eq hj (by decide)), ?_⟩
  have h : SH w (Den.puts w1 ⟨b, 0, none⟩ 0 (jnlT.map (Value.int .u8))) [aRow ⟨some ⟨b, 0, none⟩, 128, 128⟩ 1 (nums .u8 (jnlT ++ List.replicate 124 0))] := by
    have he : List.take (0 + 0) (List.replicate 128 (0 : Int)) ++ jnlT ++ List.drop (0 + 0 + jnlT.length) (List.replicate 128 0) = jnlT ++ List.replicate 124 0 := by simp [jnlT]
    rw [he] at h; exact h
  show CallW _ _ _ (Den.puts w1 ⟨b, 0, none⟩ 0 (jnlT.map (Value.int .u8))) _
  generalize Den.puts w1 ⟨b, 0, none⟩ 0 (jnlT.map (Value.int .u8)) = w2 at *
  refine (s94 (a := 16) h (by simp [jnlT]) (by simp [jnlT])).mono ?_
  rintro _ w4 ⟨rfl, h⟩
  rw [wu64 h2 (by omega)]
  refine ⟨rfl, (s94 (a := 24) h (by simp [jnlT, putN_len]) (by simp [jnlT, putN_len])).mono ?_⟩
  rintro _ w6 ⟨rfl, h⟩
  rw [w64 (by omega) (by omega)]
  have hc0 := (hb.ext h.ext).cut0 (n := (16 * n).toNat) (by omega)
  refine ⟨rfl, by omega, by omega, (c70 hc0).mono ?_⟩
  rintro _ w8 ⟨rfl, rfl⟩
  have hcr := crc_rng (m.take (16 * n).toNat)
  refine ⟨_, rfl, (s94 (a := 32) h (by simp [jnlT, putN_len]) (by simp [jnlT, putN_len])).mono ?_⟩
  rintro _ w11 ⟨rfl, h⟩
  have he : putN (putN (putN (jnlT ++ List.replicate 124 0) 16 seq 8) 24 n 8) 32 (crc (m.take (16 * n).toNat)) 8 = hd0 seq n (crc (m.take (16 * n).toNat)) ++ List.replicate 88 0 := by
    rw [show jnlT ++ List.replicate 124 (0 : Int) = (jnlT ++ List.replicate 12 0) ++ List.replicate (8 + 104) 0 by simp [jnlT]]
    rw [putN_at (by simp [jnlT]) rfl, putN_at (r := 96) (by simp [jnlT, le_len]) rfl, putN_at (r := 88) (by simp [jnlT, le_len]) rfl]
    rfl
  rw [he] at h
  generalize crc (m.take (16 * n).toNat) = sum at *
  have hb2 : Bytes w11 ⟨some ⟨b, 0, none⟩, 128, 128⟩ (hd0 seq n sum ++ List.replicate 88 0) := SH.bytes h 0 rfl (fun y hy => by
    rcases List.mem_append.1 hy with hy | hy
    · exact hd0_rng _ _ _ _ hy
    · rw [(List.mem_replicate.1 hy).2]; omega) (by simp [hd0_len])
  have hc2 := hb2.cut0 (n := 40) (by simp [hd0_len])
  rw [List.take_left' (hd0_len _ _ _)] at hc2
  refine ⟨rfl, by omega, by decide, (c70 hc2).mono ?_⟩
  rintro _ w13 ⟨rfl, rfl⟩
  refine ⟨_, rfl, (s94 (a := 40) h (by simp [hd0_len]) (by simp [hd0_len])).mono ?_⟩
  rintro _ w16 ⟨rfl, h⟩
  have he : putN (hd0 seq n sum ++ List.replicate 88 0) 40 (crc (hd0 seq n sum)) 8 = hdF seq n sum := by
    rw [putN_at (r := 80) (hd0_len _ _ _) rfl]; rfl
  rw [he] at h
  exact ⟨rfl, ⟨some ⟨b, 0, none⟩, 128, 128⟩, rfl, h⟩
end Go.Proofs.Ytenhcpjlkmbedaa

/- The journal read: what is asked of it, both sides. Conditions: none. -/
set_option linter.unusedVariables false
set_option linter.unusedSimpArgs false
namespace Go.Proofs.Ytenhcpjlkmbedaa
open Go Go.Den
/-! ## Words and their bytes -/
def lev (m : List Int) (a : Int) : Nat → Int
  | 0 => 0
  | k + 1 => lev m a k + byt m (a + k) * ((256 ^ k : Nat) : Int)
theorem hornr_lev (m : List Int) (a : Int) : ∀ (k : Nat) (x : Int), hornr m a k x = x * ((256 ^ k : Nat) : Int) + lev m a k
  | 0, x => by simp [hornr, lev]
  | k + 1, x => by
    rw [hornr, hornr_lev m a k, lev, Nat.pow_succ, Int.natCast_mul, Int.add_mul, Int.mul_assoc, Int.mul_comm 256]
    show _ = x * (((256 ^ k : Nat) : Int) * ((256 : Nat) : Int)) + _
    rw [show (((256 : Nat)) : Int) = 256 from rfl]
    omega
theorem word_lev (m : List Int) (a : Int) : word m a = lev m a 8 := by unfold word; rw [hornr_lev]; simp
theorem lev_rng {m : List Int} (hm : ∀ x, x ∈ m → 0 ≤ x ∧ x ≤ 255) (a : Int) : ∀ k, 0 ≤ lev m a k ∧ lev m a k < ((256 ^ k : Nat) : Int)
  | 0 => ⟨by simp [lev], by simp [lev]⟩
  | k + 1 => by
    have ih := lev_rng hm a k
    have hb := byt_rng hm (a + k)
    rw [lev, Nat.pow_succ, Int.natCast_mul]
    generalize ((256 ^ k : Nat) : Int) = P at *
    have h1 : 0 ≤ byt m (a + k) * P := Int.mul_nonneg hb.1 (by omega)
    have h2 : byt m (a + k) * P ≤ 255 * P := Int.mul_le_mul_of_nonneg_right hb.2 (by omega)
    rw [Int.mul_comm P, show (((256 : Nat)) : Int) = 256 from rfl]
    omega
theorem lev_dig {m : List Int} (hm : ∀ x, x ∈ m → 0 ≤ x ∧ x ≤ 255) (a : Int) : ∀ (k i : Nat), i < k → lev m a k / ((256 ^ i : Nat) : Int) % 256 = byt m (a + i)
  | 0, i, h => by omega
  | k + 1, i, h => by
    have ih := lev_rng hm a k
    have hb := byt_rng hm (a + k)
    have hp : 1 ≤ 256 ^ i := Nat.one_le_pow _ _ (by omega)
    rw [lev]
    by_cases hik : i = k
    · subst hik
      rw [Int.add_mul_ediv_right _ _ (by omega), Int.ediv_eq_zero_of_lt ih.1 ih.2]
      omega
    · rw [← lev_dig hm a k i (by omega)]
      have he : byt m (a + k) * ((256 ^ k : Nat) : Int) = (byt m (a + k) * ((256 ^ (k - i - 1) : Nat) : Int) * 256) * ((256 ^ i : Nat) : Int) := by
        rw [show 256 ^ k = 256 ^ (k - i - 1) * 256 * 256 ^ i by rw [← Nat.pow_succ, ← Nat.pow_add]; congr 1; omega]
        simp only [Int.natCast_mul, Int.mul_assoc]
        rfl
      rw [he, Int.add_mul_ediv_right _ _ (by omega)]
      omega
theorem le_get (x : Int) : ∀ (k i : Nat), i < k → (le x k)[i]? = some (x / ((256 ^ i : Nat) : Int) % 256)
  | 0, i, h => by omega
  | k + 1, i, h => by
    rw [le]
    by_cases hi : i < k
    · rw [List.getElem?_append_left (by rw [le_len]; exact hi)]; exact le_get x k i hi
    · have : i = k := by omega
      subst this
      rw [List.getElem?_append_right (by rw [le_len]; omega), le_len, Nat.sub_self]; rfl
theorem le_word {m : List Int} (hm : ∀ x, x ∈ m → 0 ≤ x ∧ x ≤ 255) {a : Nat} (ha : a + 8 ≤ m.length) : le (word m a) 8 = (m.drop a).take 8 := by
  apply List.ext_getElem?
  intro i
  by_cases hi : i < 8
  · rw [le_get _ _ _ hi, word_lev, lev_dig hm _ _ _ hi, List.getElem?_take, if_pos hi, List.getElem?_drop]
    unfold byt
    rw [show ((a : Int) + (i : Int)).toNat = a + i by omega, List.getD_eq_getElem?_getD, List.getElem?_eq_getElem (by omega)]
    rfl
  · rw [List.getElem?_eq_none (by rw [le_len]; omega), List.getElem?_eq_none (by simp; omega)]
theorem byt_take {m : List Int} {n : Nat} {i : Int} (h1 : i.toNat < n) : byt (m.take n) i = byt m i := by
  unfold byt
  rw [List.getD_eq_getElem?_getD, List.getD_eq_getElem?_getD, List.getElem?_take, if_pos h1]
theorem lev_take {m : List Int} {n : Nat} {a : Int} (h0 : 0 ≤ a) : ∀ k : Nat, a + k ≤ n → lev (m.take n) a k = lev m a k
  | 0, h => rfl
  | k + 1, h => by rw [lev, lev, lev_take h0 k (by omega), byt_take (by omega)]
theorem word_take {m : List Int} {n : Nat} {a : Int} (h0 : 0 ≤ a) (h : a + 8 ≤ n) : word (m.take n) a = word m a := by
  rw [word_lev, word_lev, lev_take h0 8 (by omega)]
theorem crc_nil : crc [] = 0 := by unfold crc crcF xorI; decide
/-! ## What is asked -/
structure EmptyJ (m : List Int) : Prop where
  ok : dOk m = true
  big : 2688 ≤ m.length
  none : word m 24 = 0
  sum : word m 32 = 0
  head : m.take 128 = hdF (word m 16) 0 0
def JR (m : List Int) (w : World) (v : Value) (w' : World) : Prop := ∃ (st seq : Int) (t : Sl), v = .agg #[.int .i64 st, .int .u64 seq, .slice t.a t.len t.cap] ∧ (st = 1 ↔ EmptyJ m) ∧ (st = 1 → seq = word m 16) ∧ Ext w w'
theorem Bytes.cut2 {w : World} {s : Sl} {m : List Int} (h : Bytes w s m) {a n : Nat} (ha : a + n ≤ m.length) : Bytes w ⟨cutA s.a s.cap a 1, n, s.cap - a⟩ ((m.drop a).take n) := by
  rcases Nat.eq_zero_or_pos n with rfl | hn
  · exact ⟨by simp, Nat.zero_le _, ⟨by simp, fun h => absurd h (by simp)⟩, (fun x hx => by simp at hx), by simp⟩
  · exact h.cut hn ha
theorem s140 {s : Sl} {m : List Int} {w : World} (h : Bytes w s m) : CallW Try.prog 140 #[.slice s.a s.len s.cap] w (fun v w' => v = .bool (dOk m && decide (2688 ≤ m.length)) ∧ w' = w) := by
  refine go140 ?_
  unfold W140
  have hl := h.len
  refine (c148 hl).mono ?_
  rintro _ w2 ⟨rfl, rfl⟩
  refine ⟨_, rfl, ?_⟩
  simp only [join_and]
  refine ⟨?_, by trivial⟩
  congr 1
  by_cases hd : dOk m = true
  · rw [hd, hl]
    simp only [Bool.true_and]
    apply Bool.eq_iff_iff.2
    simp only [decide_eq_true_eq]
    unfold dOk at hd
    simp only [Bool.and_eq_true, decide_eq_true_eq] at hd
    omega
  · have : dOk m = false := by simpa using hd
    rw [this]; rfl
theorem s144 {s : Sl} {m : List Int} {n sum : Int} {w : World} (hb : Bytes w s m) (hm : 2688 ≤ m.length) (h0 : 0 ≤ n) (h1 : n ≤ 16) : CallW Try.prog 144 #[.slice s.a s.len s.cap, .int .i64 n, .int .u64 sum] w (fun v w' => ∃ (t : Sl) (b : Bool), v = .tuple #[.slice t.a t.len t.cap, .bool b] ∧ Ext w w') := by
  refine go144 ?_
  unfold W144
  have h := SH.start w
  have hsm := hb.small
  have hl := hb.len
  have hcp := hb.cap
  refine h.alloc (fun w1 h ew1 nw1 => ?_)
  have h := h.drop
  rw [w64 (n := 16 * n) (by omega) (by omega), w64 (by omega) (by omega)]
  have hcut := (hb.ext h.ext).cut2 (a := 128) (n := (16 * n).toNat) (by omega)
  refine ⟨by omega, by omega, by omega, by omega, ?_⟩
  rw [show (128 + 16 * n).toNat - Int.toNat 128 = (16 * n).toNat by omega]
  refine (c82 hcut).mono ?_
  rintro _ w3 ⟨rfl, rfl⟩
  refine ⟨_, rfl, ?_⟩
  refine BIf.ne (fun hc => ?_) (fun hc => ?_)
  · exact ⟨⟨some ⟨w.heap.size, 0, none⟩, 0, 0⟩, _, rfl, h.ext⟩
  refine LoopW.m2 (fun (l5 : Sl) (n6 : Int) w' => ∃ (k : Nat) (xs : List Int), n6 = k ∧ n6 ≤ n ∧ xs.length = k ∧ SH w w' [aRow l5 1 (nums .i64 xs)]) (fun (l5 : Sl) (n6 : Int) _ => (n - n6).toNat) ⟨0, [], rfl, by omega, rfl, h.nil _ _⟩ ?_
  rintro (l5 : Sl) (n6 : Int) w8 ⟨k, xs, rfl, hkn, hxs, h⟩ J hJ
  have hll := h.len 0 rfl
  rw [nums_len] at hll
  refine BIf.dec (fun hlt => ?_) (fun hge => ?_)
  · rw [w64 (n := 16 * (k : Int)) (by omega) (by omega), w64 (n := 128 + 16 * (k : Int)) (by omega) (by omega)]
    refine (c141 (hb.ext h.ext) (by omega) (by omega)).mono ?_
    rintro _ w10 ⟨rfl, rfl⟩
    refine ⟨_, rfl, ?_⟩
    refine JoinW.cut1 (fun (b12 : Bool) w' => SH w w' [aRow l5 1 (nums .i64 xs)]) ?_ ?_
    · refine BIf.dec (fun hc => h) (fun hc => ⟨by decide, h⟩)
    rintro (b12 : Bool) w14 h
    refine JoinW.cut1 (fun (b15 : Bool) w' => SH w w' [aRow l5 1 (nums .i64 xs)]) ?_ ?_
    · refine BIf.of (fun hc => h) (fun hc => ?_)
      refine BIf.dec (fun hc => ?_) (fun hc => h)
      rw [w64 (n := (k : Int) - 1) (by omega) (by omega), show ((k : Int) - 1).toNat = k - 1 by omega]
      obtain ⟨x, hx⟩ : ∃ x, xs[k - 1]? = some x := ⟨_, List.getElem?_eq_getElem (by omega)⟩
      obtain ⟨q, hq, hcell⟩ := h.elem0 0 rfl (nums_get hx) rfl
      exact ⟨by omega, by omega, q, hq, _, hcell, h⟩
    rintro (b15 : Bool) w17 h
    refine BIf.of (fun hc => ⟨_, _, rfl, h.ext⟩) (fun hc => ?_)
    rw [w64 (by omega) (by omega)]
    refine (c141 (hb.ext h.ext) (by omega) (by omega)).mono ?_
    rintro _ w19 ⟨rfl, rfl⟩
    refine ⟨_, rfl, ?_⟩
    rw [w64 (n := 3 + (k : Int)) (by omega) (by omega), show 3 + (k : Int) = ((3 + k : Nat) : Int) by omega]
    refine (c143 (hb.ext h.ext) (by omega)).mono ?_
    rintro _ w22 ⟨t, rfl, own, e⟩
    have h := h.seq (SH.ofOwnN e own (Nat.le_refl _))
    refine ⟨t, rfl, (c82 (SH.bytes h 0 rfl (fun x hx => hb.rng x (List.mem_of_mem_drop (List.mem_of_mem_take hx))) (by unfold sec; rw [List.length_take]; omega))).mono ?_⟩
    rintro _ w25 ⟨rfl, rfl⟩
    refine ⟨_, rfl, ?_⟩
    refine BIf.ne (fun hc => ⟨_, _, rfl, h.ext⟩) (fun hc => ?_)
    refine LetW_iff.2 (SH.appendN1 h.drop rfl rfl (by decide) (by show _ * 8 ≤ _; omega) (fun l28 w29 h hl28 _ => ?_))
    rw [w64 (by omega) (by omega)]
    exact hJ _ _ _ ⟨k + 1, _, by omega, by omega, by simp [hxs], h⟩ (by omega)
  · refine LoopW.m1 (fun (i : Int) w' => 0 ≤ i ∧ Ext w w') (fun (i : Int) _ => (256 - i).toNat) ⟨by omega, h.ext⟩ ?_
    rintro (i : Int) w9 ⟨hi, e9⟩ J2 hJ2
    refine BIf.dec (fun hlt2 => ?_) (fun hge2 => ⟨_, _, rfl, e9⟩)
    rw [w64 (by omega) (by omega)]
    obtain ⟨p, hp, hc⟩ := (hb.ext e9).at (i := 128 + i) (by omega) (by omega)
    refine ⟨by omega, by omega, p, hp, _, hc, BIf.ne (fun _ => ⟨_, _, rfl, e9⟩) (fun _ => ?_)⟩
    rw [w64 (by omega) (by omega)]
    exact hJ2 _ _ ⟨by omega, e9⟩ (by omega)
theorem s86 {s : Sl} {m : List Int} {w : World} (hb : Bytes w s m) : CallW Try.prog 86 #[.slice s.a s.len s.cap] w (JR m w) := by
  refine go86 ?_
  unfold W86
  have h := SH.start w
  have hsm := hb.small
  have hl := hb.len
  refine h.alloc (fun w1 h ew1 nw1 => ?_)
  refine (s140 (hb.ext h.ext)).mono ?_
  rintro _ w3 ⟨rfl, rfl⟩
  refine ⟨_, rfl, ?_⟩
  refine BIf.of (fun hc => ?_) (fun hc => ?_)
  · refine h.put 0 rfl rfl rfl (fun w5 h nw5 => ?_)
    refine ⟨_, h.cell 0 rfl rfl, _, h.cell 0 rfl rfl, ⟨none, 0, 0⟩, h.cell 0 rfl rfl, ?_⟩
    refine ⟨_, _, _, rfl, ⟨by omega, fun he => ?_⟩, by omega, h.ext⟩
    have h1 := he.ok; have h2 := he.big
    simp [h1, h2] at hc
  have hc : dOk m = true ∧ 2688 ≤ m.length := by simpa using hc
  obtain ⟨hok, hbig⟩ := hc
  have hb1 := hb.ext h.ext
  refine (c141 hb1 (by omega) (by omega)).mono ?_
  rintro _ w10 ⟨rfl, rfl⟩
  refine ⟨_, rfl, (c141 hb1 (by omega) (by omega)).mono ?_⟩
  rintro _ w13 ⟨rfl, rfl⟩
  refine ⟨_, rfl, (c141 hb1 (by omega) (by omega)).mono ?_⟩
  rintro _ w16 ⟨rfl, rfl⟩
  refine ⟨_, rfl, ?_⟩
  have r16 := word_rng hb.rng 16
  have r24 := word_rng hb.rng 24
  have r32 := word_rng hb.rng 32
  refine JoinW.cut1 (fun (b18 : Bool) w' => (b18 = false ↔ word m 24 ≤ 16 ∧ m.take 128 = hdF (word m 16) (word m 24) (word m 32)) ∧ SH w w' [aB w.heap.size ([.int .i64 0, .int .u64 0, .slice none 0 0].map Ce.v)]) ?_ ?_
  · refine BIf.dec (fun hc => ?_) (fun hc => ?_)
    · exact ⟨⟨(fun h => by cases h), (fun h => by omega)⟩, h⟩
    · refine (c143 (k := 0) hb1 (by omega)).mono ?_
      rintro _ w50 ⟨t, rfl, own, e50⟩
      refine ⟨t, rfl, ?_⟩
      have h := h.seq (SH.ofOwnN e50 own (Nat.le_refl _))
      rw [w64 (by omega) (by omega)]
      refine (s90 r16.1 r16.2 (by omega) (by omega) r32.1 r32.2).mono ?_
      rintro _ w53 ⟨t2, rfl, g⟩
      have h := h.seq g
      refine ⟨t2, rfl, ?_⟩
      have hsec : sec m 0 = m.take 128 := by unfold sec; simp
      refine (c142 (SH.bytes h 1 rfl (fun x hx => by rw [hsec] at hx; exact hb.rng x (List.mem_of_mem_take hx)) (by rw [hsec, List.length_take]; omega)) (SH.bytes h 0 rfl (hdF_rng _ _ _) (by rw [hdF_len]; omega))).mono ?_
      rintro _ w56 ⟨rfl, e⟩
      refine ⟨_, rfl, ?_, (h.to e).drop.drop⟩
      rw [hsec]
      simp only [Bool.not_eq_false', decide_eq_true_eq]
      exact ⟨fun h => ⟨by omega, h⟩, fun h => h.2⟩
  rintro (b18 : Bool) w20 ⟨hiff, h⟩
  refine BIf.of (fun hc => ?_) (fun hc => ?_)
  · refine h.put 0 rfl rfl rfl (fun w21 h nw21 => ?_)
    refine ⟨_, h.cell 0 rfl rfl, _, h.cell 0 rfl rfl, ⟨none, 0, 0⟩, h.cell 0 rfl rfl, ?_⟩
    refine ⟨_, _, _, rfl, ⟨by omega, fun he => ?_⟩, by omega, h.ext⟩
    have : b18 = false := hiff.2 ⟨by rw [he.none]; omega, by rw [he.none, he.sum]; exact he.head⟩
    rw [this] at hc; cases hc
  obtain ⟨hle, heq⟩ := hiff.1 hc
  refine BIf.eq (fun hc => ?_) (fun hc => ?_)
  · refine h.alloc (fun w25 h ew25 nw25 => ?_)
    refine (c82 (s := ⟨some ⟨w20.heap.size, 0, none⟩, 0, 0⟩) (m := []) ⟨rfl, Nat.le_refl _, ⟨rfl, fun h => absurd h (by simp)⟩, (fun x hx => by cases hx), by simp⟩).mono ?_
    rintro _ w27 ⟨rfl, rfl⟩
    refine ⟨_, rfl, ?_⟩
    rw [crc_nil]
    refine BIf.ne (fun hc2 => ?_) (fun hc2 => ?_)
    · refine h.put 1 rfl rfl rfl (fun w29 h nw29 => ?_)
      refine ⟨_, h.cell 1 rfl rfl, _, h.cell 1 rfl rfl, ⟨none, 0, 0⟩, h.cell 1 rfl rfl, ?_⟩
      exact ⟨_, _, _, rfl, ⟨by omega, fun he => absurd he.sum hc2⟩, by omega, h.ext⟩
    · refine h.put 1 rfl rfl rfl (fun w33 h nw33 => ?_)
      refine ⟨_, h.cell 1 rfl rfl, _, h.cell 1 rfl rfl, ⟨none, 0, 0⟩, h.cell 1 rfl rfl, ?_⟩
      exact ⟨_, _, _, rfl, ⟨fun _ => ⟨hok, hbig, hc, hc2, by rw [heq, hc, hc2]⟩, fun _ => rfl⟩, fun _ => rfl, h.ext⟩
  · rw [w64 (by omega) (by omega)]
    refine (s144 (hb.ext h.ext) hbig (by omega) (by omega)).mono ?_
    rintro _ w38 ⟨l39, b40, rfl, e⟩
    have h := h.to e
    refine ⟨l39, _, rfl, ?_⟩
    refine BIf.of (fun hc => ?_) (fun hc => ?_)
    · refine h.put 0 rfl rfl rfl (fun w41 h nw41 => ?_)
      refine ⟨_, h.cell 0 rfl rfl, _, h.cell 0 rfl rfl, ⟨none, 0, 0⟩, h.cell 0 rfl rfl, ?_⟩
      exact ⟨_, _, _, rfl, ⟨by omega, fun he => absurd he.none (by assumption)⟩, by omega, h.ext⟩
    · refine h.put 0 rfl rfl rfl (fun w45 h nw45 => ?_)
      refine ⟨_, h.cell 0 rfl rfl, _, h.cell 0 rfl rfl, l39, h.cell 0 rfl rfl, ?_⟩
      exact ⟨_, _, _, rfl, ⟨by omega, fun he => absurd he.none (by assumption)⟩, by omega, h.ext⟩
theorem num_inj : ∀ {a b : List Int}, (∀ x, x ∈ a → 0 ≤ x ∧ x ≤ 255) → (∀ x, x ∈ b → 0 ≤ x ∧ x ≤ 255) → a.map (fun n => UInt8.ofNat n.toNat) = b.map (fun n => UInt8.ofNat n.toNat) → a = b
  | [], [], _, _, _ => rfl
  | [], y :: b, _, _, h => by simp at h
  | x :: a, [], _, _, h => by simp at h
  | x :: a, y :: b, ha, hb, h => by
    simp only [List.map_cons, List.cons.injEq] at h
    have hx := ha x (by simp)
    have hy := hb y (by simp)
    have h1 := congrArg UInt8.toNat h.1
    rw [UInt8.toNat_ofNat', UInt8.toNat_ofNat'] at h1
    rw [num_inj (fun z hz => ha z (by simp [hz])) (fun z hz => hb z (by simp [hz])) h.2, show x = y by omega]
theorem str_eq {a b : List Int} (ha : ∀ x, x ∈ a → 0 ≤ x ∧ x ≤ 255) (hb : ∀ x, x ∈ b → 0 ≤ x ∧ x ≤ 255) : strEq (strOfNums a) (strOfNums b) = true ↔ a = b := by
  rw [strEq_iff]
  constructor
  · intro h
    have := congrArg (fun s => s.data.toList) h
    simp only [strOfNums_data] at this
    exact num_inj ha hb this
  · rintro rfl; rfl
set_option maxRecDepth 8000 in
theorem s93 {s : Sl} {m : List Int} {w : World} (hb : Bytes w s m) : CallW Try.prog 93 #[.slice s.a s.len s.cap] w (JR m w) := by
  refine go93 ?_
  unfold W93
  have h := SH.start w
  have hsm := hb.small
  have hl := hb.len
  have hcp := hb.cap
  refine h.alloc (fun w1 h ew1 nw1 => ?_)
  refine (c106 hl).mono ?_
  rintro _ w3 ⟨rfl, rfl⟩
  refine ⟨_, rfl, ?_⟩
  simp only [join_or]
  refine BIf.of (fun hc => ?_) (fun hc => ?_)
  · refine h.put 0 rfl rfl rfl (fun w8 h nw8 => ?_)
    refine ⟨_, h.cell 0 rfl rfl, _, h.cell 0 rfl rfl, ⟨none, 0, 0⟩, h.cell 0 rfl rfl, ?_⟩
    refine ⟨_, _, _, rfl, ⟨by omega, fun he => ?_⟩, by omega, h.ext⟩
    have h1 := he.ok; have h2 := he.big
    simp [h1, hl] at hc; omega
  have hc : dOk m = true ∧ 2688 ≤ m.length := by
    simp only [hl, Bool.or_eq_false_iff, Bool.not_eq_false', decide_eq_false_iff_not] at hc
    exact ⟨hc.1, by omega⟩
  obtain ⟨hok, hbig⟩ := hc
  have HH : ∀ {w'}, Ext w w' → Bytes w' _ _ := fun e => (hb.ext e).cut0 (n := 128) (by omega)
  have HL : ∀ {w'}, Ext w w' → Bytes w' _ _ := fun e => (hb.ext e).cut2 (a := 128) (n := 256) (by omega)
  have ht : (m.take 128).length = 128 := by rw [List.length_take]; omega
  have r16 := word_rng hb.rng 16
  have r24 := word_rng hb.rng 24
  have r32 := word_rng hb.rng 32
  have t16 := word_take (m := m) (n := 128) (a := 16) (by omega) (by omega)
  have t24 := word_take (m := m) (n := 128) (a := 24) (by omega) (by omega)
  have t32 := word_take (m := m) (n := 128) (a := 32) (by omega) (by omega)
  refine ⟨by omega, by omega, by omega, by omega, by omega, by omega, ?_⟩
  refine (c146 (HH h.ext) (a := 24) (by omega) (by omega)).mono ?_
  rintro _ w13 ⟨rfl, rfl⟩
  refine ⟨_, rfl, ?_⟩
  rw [t24]
  refine BIf.dec (fun hc => ?_) (fun hc => ?_)
  · refine h.put 0 rfl rfl rfl (fun w15 h nw15 => ?_)
    refine ⟨_, h.cell 0 rfl rfl, _, h.cell 0 rfl rfl, ⟨none, 0, 0⟩, h.cell 0 rfl rfl, ?_⟩
    exact ⟨_, _, _, rfl, ⟨by omega, fun he => by rw [he.none] at hc; omega⟩, by omega, h.ext⟩
  refine (c146 (HH h.ext) (a := 16) (by omega) (by omega)).mono ?_
  rintro _ w20 ⟨rfl, rfl⟩
  refine ⟨_, rfl, ?_⟩
  rw [t16, w64 (n := word m 24) (by omega) (by omega)]
  refine (s96 r16.1 r16.2 r24.1 (by rw [List.length_take, List.length_drop]; omega) (HL h.ext)).mono ?_
  rintro _ w23 ⟨l24, rfl, g⟩
  have h := (h.seq g).drew
  generalize crc (List.take (16 * word m 24).toNat (List.take 256 (List.drop 128 m))) = cr at *
  have hl24 : l24.len = 128 := by have := h.len 0 rfl; rw [nums_len, hdF_len] at this; exact this
  have hc24 := h.lenCap 0 rfl
  obtain ⟨q, hq, _, _⟩ := h.addr 0 rfl (by omega)
  refine ⟨l24, rfl, ?_⟩
  refine ⟨by omega, by omega, by omega, by omega, by omega, by omega, by omega, by omega, ?_⟩
  have hrow : RowAt w23.drew _ 8 _ := ((HH h.ext).cut2 (a := 32) (n := 8) (by omega)).row
  rw [List.drop_take, List.take_take, show min 8 (128 - 32) = 8 from rfl, ← le_word hb.rng (by omega)] at hrow
  refine ⟨_, hrow, plain_u8, ?_⟩
  obtain ⟨hm, h⟩ := SH.putN (o := 32) (le (word m 32) 8) 0 h hq (by rw [le_len, hdF_len]; omega)
  refine .inr ⟨(⟨q, 0, none⟩ : Addr).add 32, ?_, fun j hj => hm j (Nat.zero_le _) (by rw [le_len]; rw [List.length_map, le_len] at hj; omega), ?_⟩
  · rw [hq]; unfold cutA; rw [if_neg (by show ¬ l24.cap = 32; omega)]; rfl
  generalize Den.puts w23.drew ((⟨q, 0, none⟩ : Addr).add 32) 0 ((le (word m 32) 8).map (Value.int .u8)) = w25 at *
  have he : List.take (32 + 0) (hdF (word m 16) (word m 24) cr) ++ le (word m 32) 8 ++ List.drop (32 + 0 + (le (word m 32) 8).length) (hdF (word m 16) (word m 24) cr) = hd0 (word m 16) (word m 24) (word m 32) ++ (le (crc (hd0 (word m 16) (word m 24) cr)) 8 ++ List.replicate 80 0) := by
    have hA : (jnlT ++ List.replicate 12 0 ++ le (word m 16) 8 ++ le (word m 24) 8).length = 32 := by simp [jnlT, le_len]
    have hB : (jnlT ++ List.replicate 12 0 ++ le (word m 16) 8 ++ le (word m 24) 8 ++ le cr 8).length = 40 := by simp [jnlT, le_len]
    have h1 : hdF (word m 16) (word m 24) cr = (jnlT ++ List.replicate 12 0 ++ le (word m 16) 8 ++ le (word m 24) 8) ++ (le cr 8 ++ (le (crc (hd0 (word m 16) (word m 24) cr)) 8 ++ List.replicate 80 0)) := by unfold hdF; rw [hd0]; simp only [List.append_assoc]
    have h2 : hdF (word m 16) (word m 24) cr = (jnlT ++ List.replicate 12 0 ++ le (word m 16) 8 ++ le (word m 24) 8 ++ le cr 8) ++ (le (crc (hd0 (word m 16) (word m 24) cr)) 8 ++ List.replicate 80 0) := by unfold hdF; rw [hd0]; simp only [List.append_assoc]
    rw [le_len, show 32 + 0 + 8 = 40 from rfl, show 32 + 0 = 32 from rfl]
    conv => lhs; rhs; rw [h2, List.drop_left' hB]
    conv => lhs; lhs; lhs; rw [h1, List.take_left' hA]
    rfl
  rw [he] at h
  have hW : Bytes w25 l24 _ := SH.bytes h 0 rfl (fun y hy => by
    simp only [List.mem_append, List.mem_replicate] at hy
    rcases hy with hy | hy | hy
    · exact hd0_rng _ _ _ _ hy
    · exact le_rng _ _ _ hy
    · omega) (by simp [hd0_len, le_len])
  have hW0 := hW.cut0 (n := 40) (by simp [hd0_len])
  rw [List.take_left' (hd0_len _ _ _)] at hW0
  refine ⟨by omega, by omega, (c70 hW0).mono ?_⟩
  rintro _ w28 ⟨rfl, rfl⟩
  refine ⟨_, rfl, (s94 (a := 40) h (by simp [hd0_len, le_len]) (by simp [hd0_len, le_len])).mono ?_⟩
  rintro _ w31 ⟨rfl, h⟩
  have he2 : putN (hd0 (word m 16) (word m 24) (word m 32) ++ (le (crc (hd0 (word m 16) (word m 24) cr)) 8 ++ List.replicate 80 0)) 40 (crc (hd0 (word m 16) (word m 24) (word m 32))) 8 = hdF (word m 16) (word m 24) (word m 32) := by
    rw [putN_eq _ _ _ _ (by simp [hd0_len, le_len]), List.take_left' (hd0_len _ _ _), ← List.drop_drop, List.drop_left' (hd0_len _ _ _), List.drop_left' (le_len _ _)]
    rfl
  rw [he2] at h
  refine ⟨rfl, _, h.rowN 0 rfl, _, (HH h.ext).row, ?_⟩
  have hstr := str_eq (hdF_rng (word m 16) (word m 24) (word m 32)) (HH h.ext).rng
  have h := h.drop
  refine BIf.of (fun hc => ?_) (fun hc => ?_)
  · refine h.put 0 rfl rfl rfl (fun w34 h nw34 => ?_)
    refine ⟨_, h.cell 0 rfl rfl, _, h.cell 0 rfl rfl, ⟨none, 0, 0⟩, h.cell 0 rfl rfl, ?_⟩
    refine ⟨_, _, _, rfl, ⟨by omega, fun he => ?_⟩, by omega, h.ext⟩
    have := hstr.2 (by rw [he.none, he.sum]; exact he.head.symm)
    rw [this] at hc; cases hc
  have heq := (hstr.1 (by simpa using hc)).symm
  refine (c146 (HH h.ext) (a := 16) (by omega) (by omega)).mono ?_
  rintro _ w39 ⟨rfl, rfl⟩
  refine ⟨_, rfl, h.setV 0 rfl rfl (fun w41 h nw41 => ?_)⟩
  rw [t16] at h
  have h : SH w w41 [aB w.heap.size ([.int .i64 0, .int .u64 (word m 16), .slice none 0 0].map Ce.v)] := h
  refine JoinW.cut1 (fun (b42 : Bool) w' => b42 = (decide (word m 24 = 0) && decide (word m 32 ≠ 0)) ∧ w' = w41) ?_ ?_
  · refine BIf.eq (fun hc => ?_) (fun hc => ?_)
    · refine (c146 (HH h.ext) (a := 32) (by omega) (by omega)).mono ?_
      rintro _ w124 ⟨rfl, rfl⟩
      refine ⟨_, rfl, ?_, rfl⟩
      rw [t32, hc]
      by_cases h0 : word m 32 = 0 <;> simp [h0]
    · exact ⟨by simp [hc], rfl⟩
  rintro (b42 : Bool) w44 ⟨rfl, rfl⟩
  refine BIf.of (fun hc => ?_) (fun hc => ?_)
  · have hc : word m 24 = 0 ∧ word m 32 ≠ 0 := by simpa using hc
    refine h.put 0 rfl rfl rfl (fun w45 h nw45 => ?_)
    refine ⟨_, h.cell 0 rfl rfl, _, h.cell 0 rfl rfl, ⟨none, 0, 0⟩, h.cell 0 rfl rfl, ?_⟩
    exact ⟨_, _, _, rfl, ⟨by omega, fun he => absurd he.sum hc.2⟩, by omega, h.ext⟩
  have hc : word m 24 = 0 → word m 32 = 0 := by simpa using hc
  refine BIf.eq (fun hz => ?_) (fun hz => ?_)
  · refine h.setV 0 rfl rfl (fun w49 h nw49 => ?_)
    refine ⟨_, h.cell 0 rfl rfl, _, h.cell 0 rfl rfl, ⟨none, 0, 0⟩, h.cell 0 rfl rfl, ?_⟩
    refine h.put 0 rfl rfl rfl (fun w53 h nw53 => ?_)
    refine ⟨_, h.cell 0 rfl rfl, _, h.cell 0 rfl rfl, ⟨none, 0, 0⟩, h.cell 0 rfl rfl, ?_⟩
    exact ⟨_, _, _, rfl, ⟨fun _ => ⟨hok, hbig, hz, hc hz, by rw [heq, hz, hc hz]⟩, fun _ => rfl⟩, fun _ => rfl, h.ext⟩
  have hne : ¬ EmptyJ m := fun he => hz he.none
  refine h.setV 0 rfl rfl (fun w57 h nw57 => ?_)
  have h : SH w w57 [aB w.heap.size ([.int .i64 3, .int .u64 (word m 16), .slice none 0 0].map Ce.v)] := h
  rw [wu64 (n := 16 * word m 24) (by omega) (by omega)]
  refine ⟨by omega, by omega, ?_⟩
  have h := h.drew
  refine (c146 (HH h.ext) (a := 32) (by omega) (by omega)).mono ?_
  rintro _ w59 ⟨rfl, rfl⟩
  have hc1 := (HL h.ext).cut0 (n := (16 * word m 24).toNat) (by rw [List.length_take, List.length_drop]; omega)
  refine ⟨_, rfl, (c70 hc1).mono ?_⟩
  rintro _ w62 ⟨rfl, rfl⟩
  refine ⟨_, rfl, ?_⟩
  refine BIf.ne (fun hc => ?_) (fun hc => ?_)
  · refine ⟨_, h.cell 0 rfl rfl, _, h.cell 0 rfl rfl, ⟨none, 0, 0⟩, h.cell 0 rfl rfl, ?_⟩
    refine h.put 0 rfl rfl rfl (fun w67 h nw67 => ?_)
    refine ⟨_, h.cell 0 rfl rfl, _, h.cell 0 rfl rfl, ⟨none, 0, 0⟩, h.cell 0 rfl rfl, ?_⟩
    exact ⟨_, _, _, rfl, ⟨by omega, fun he => absurd he hne⟩, by omega, h.ext⟩
  refine LoopW.m3 (fun (l71 : Sl) (n72 : Int) (n73 : Int) w' => ∃ (k : Nat) (xs : List Int), n73 = k ∧ n73 ≤ word m 24 ∧ xs.length = k ∧ SH w w' [aRow l71 1 (nums .i64 xs), aB w.heap.size ([.int .i64 3, .int .u64 (word m 16), .slice none 0 0].map Ce.v)]) (fun (l71 : Sl) (n72 : Int) (n73 : Int) _ => (word m 24 - n73).toNat) ⟨0, [], rfl, by omega, rfl, h.nil _ _⟩ ?_
  rintro (l71 : Sl) (n72 : Int) (n73 : Int) w75 ⟨k, xs, rfl, hk, hxs, h⟩ J hJ
  refine BIf.dec (fun hlt => ?_) (fun hge => ?_)
  · rw [w64 (n := 16 * (k : Int)) (by omega) (by omega)]
    refine (c146 (HL h.ext) (by omega) (by rw [List.length_take, List.length_drop]; omega)).mono ?_
    rintro _ w77 ⟨rfl, rfl⟩
    refine ⟨_, rfl, ?_⟩
    refine JoinW.cut1 (fun (b79 : Bool) w' => w' = w77) ?_ ?_
    · refine BIf.dec (fun hc => rfl) (fun hc => ⟨by decide, rfl⟩)
    rintro (b79 : Bool) w81 rfl
    refine JoinW.cut1 (fun (b82 : Bool) w' => SH w w' [aRow l71 1 (nums .i64 xs), aB w.heap.size ([.int .i64 3, .int .u64 (word m 16), .slice none 0 0].map Ce.v)]) ?_ ?_
    · refine BIf.of (fun hc => h) (fun hc => ?_)
      rw [w64 (n := 16 * (k : Int) + 8) (by omega) (by omega)]
      refine (c146 (HL h.ext) (a := 16 * (k : Int) + 8) (by omega) (by rw [List.length_take, List.length_drop]; omega)).mono ?_
      rintro _ w96 ⟨rfl, rfl⟩
      refine ⟨_, rfl, ?_⟩
      rw [w64 (n := 3 + (k : Int)) (by omega) (by omega), show 3 + (k : Int) = ((3 + k : Nat) : Int) by omega]
      refine (c95 (hb.ext h.ext) (by omega)).mono ?_
      rintro _ w99 ⟨t, rfl, own, e⟩
      have h := h.seq (SH.ofOwnN e own (Nat.le_refl _))
      refine ⟨t, rfl, (c70 (SH.bytes h 0 rfl (fun x hx => hb.rng x (List.mem_of_mem_drop (List.mem_of_mem_take hx))) (by unfold sec; rw [List.length_take]; omega))).mono ?_⟩
      rintro _ w102 ⟨rfl, rfl⟩
      exact ⟨_, rfl, h.drop⟩
    rintro (b82 : Bool) w84 h
    refine BIf.of (fun hc => ?_) (fun hc => ?_)
    · refine ⟨_, h.cell 1 rfl rfl, _, h.cell 1 rfl rfl, ⟨none, 0, 0⟩, h.cell 1 rfl rfl, ?_⟩
      refine h.put 1 rfl rfl rfl (fun w88 h nw88 => ?_)
      refine ⟨_, h.cell 1 rfl rfl, _, h.cell 1 rfl rfl, ⟨none, 0, 0⟩, h.cell 1 rfl rfl, ?_⟩
      exact ⟨_, _, _, rfl, ⟨by omega, fun he => absurd he hne⟩, by omega, h.ext⟩
    · refine LetW_iff.2 (SH.appendN1 h rfl rfl (by decide) (by show _ * 8 ≤ _; omega) (fun l28 w29 h hl28 _ => ?_))
      rw [w64 (by omega) (by omega)]
      exact hJ _ _ _ _ ⟨k + 1, _, by omega, by omega, by simp [hxs], h⟩ (by omega)
  · have hc3 := (HL h.ext).cut2 (a := (16 * word m 24).toNat) (n := 256 - (16 * word m 24).toNat) (by rw [List.length_take, List.length_drop]; omega)
    refine ⟨by omega, by omega, (c147 hc3).mono ?_⟩
    rintro _ w105 ⟨rfl, rfl⟩
    refine ⟨_, rfl, ?_⟩
    refine BIf.of (fun hc => ?_) (fun hc => ?_)
    · refine ⟨_, h.cell 1 rfl rfl, _, h.cell 1 rfl rfl, ⟨none, 0, 0⟩, h.cell 1 rfl rfl, ?_⟩
      refine h.put 1 rfl rfl rfl (fun w110 h nw110 => ?_)
      refine ⟨_, h.cell 1 rfl rfl, _, h.cell 1 rfl rfl, ⟨none, 0, 0⟩, h.cell 1 rfl rfl, ?_⟩
      exact ⟨_, _, _, rfl, ⟨by omega, fun he => absurd he hne⟩, by omega, h.ext⟩
    · refine h.setV 1 rfl rfl (fun w114 h nw114 => ?_)
      refine h.setV 1 rfl rfl (fun w115 h nw115 => ?_)
      refine ⟨_, h.cell 1 rfl rfl, _, h.cell 1 rfl rfl, l71, h.cell 1 rfl rfl, ?_⟩
      refine h.put 1 rfl rfl rfl (fun w119 h nw119 => ?_)
      refine ⟨_, h.cell 1 rfl rfl, _, h.cell 1 rfl rfl, l71, h.cell 1 rfl rfl, ?_⟩
      exact ⟨_, _, _, rfl, ⟨by omega, fun he => absurd he hne⟩, by omega, h.ext⟩
end Go.Proofs.Ytenhcpjlkmbedaa
