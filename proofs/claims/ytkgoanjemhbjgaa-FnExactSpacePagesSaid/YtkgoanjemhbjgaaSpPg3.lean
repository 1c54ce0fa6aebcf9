/- Part 3 of 4: plain readings of code, rules for them, and a proof over them, joined by a program. Conditions: none. -/
import Derived.Test.YtkgoanjemhbjgaaSpPg2
import Derived.Test.YtkgoanjemhbjgaaProg
/- The plainer reading of functions of the program, each held against its code. Conditions: none. -/
set_option linter.unusedVariables false
set_option maxRecDepth 100000
namespace Go.Proofs.Ytkgoanjemhbjgaa
open Go Go.Den
/- loop.example/g00008/laws.FnExactSpacePages -/
def an7 : Ann := (.seq .leaf (.seq .leaf (.seq .leaf (.seq (.seq .leaf (.cond (.seq .leaf .leaf) .leaf)) (.seq .leaf (.seq .leaf (.seq .leaf (.seq (.seq .leaf (.cond (.seq .leaf .leaf) .leaf)) (.seq (.seq (.draw [0, 0, 2, 7, 15] [0, 1, 2, 3, 4]) (.cond (.seq .leaf .leaf) .leaf)) (.seq .leaf (.seq .leaf (.seq (.seq (.reg [(3, none), (5, some (326, [(46, .bool)]))]) (.cond (.seq .leaf .leaf) .leaf)) (.seq .leaf (.seq .leaf (.seq .leaf (.seq .leaf (.seq (.seq .leaf (.cond (.seq .leaf .leaf) .leaf)) (.seq (.seq .leaf (.cond (.seq .leaf .leaf) .leaf)) (.seq .leaf (.seq (.seq .leaf (.cond (.seq .leaf .leaf) .leaf)) (.seq .leaf (.seq .leaf (.seq (.seq .leaf (.cond (.seq .leaf .leaf) .leaf)) (.seq (.seq .leaf (.cond (.seq .leaf .leaf) .leaf)) (.seq .leaf .leaf)))))))))))))))))))))))))
def W7 (a0_0 : Sl) (a0_1 : Int) (a0_2 : Sl) (a1 : Int) (w : World) (K : Value → World → Prop) : Prop :=
  LetW (w.alloc (.cells #[.slice a0_0.a a0_0.len a0_0.cap, .int .i64 a0_1, .slice a0_2.a a0_2.len a0_2.cap] 58)) fun w1 => ∃ l2 : Sl, w1.cell? ⟨w.heap.size, 0, none⟩ = some (.slice l2.a l2.len l2.cap) ∧ ∃ n3 : Int, w1.cell? ⟨w.heap.size, 1, none⟩ = some (.int .i64 n3) ∧ ∃ l4 : Sl, w1.cell? ⟨w.heap.size, 2, none⟩ = some (.slice l4.a l4.len l4.cap) ∧ CallW Try.prog 32 #[.agg #[.slice l2.a l2.len l2.cap, .int .i64 n3, .slice l4.a l4.len l4.cap], .int .i64 1048576] w1 fun v5 w6 => ∃ n7 : Int, v5 = .int .i64 n7 ∧ BIf (decide ((n7 : Int) < 0)) (K (.bool true) w6) (∃ l8 : Sl, w6.cell? ⟨w.heap.size, 0, none⟩ = some (.slice l8.a l8.len l8.cap) ∧ ∃ n9 : Int, w6.cell? ⟨w.heap.size, 1, none⟩ = some (.int .i64 n9) ∧ ∃ l10 : Sl, w6.cell? ⟨w.heap.size, 2, none⟩ = some (.slice l10.a l10.len l10.cap) ∧ CallW Try.prog 34 #[.agg #[.slice l8.a l8.len l8.cap, .int .i64 n9, .slice l10.a l10.len l10.cap]] w6 fun v11 w12 => ∃ l13 : Sl, ∃ n14 : Int, ∃ l15 : Sl, v11 = .agg #[.slice l13.a l13.len l13.cap, .int .i64 n14, .slice l15.a l15.len l15.cap] ∧ CallW Try.prog 41 #[.agg #[.slice l13.a l13.len l13.cap, .int .i64 n14, .slice l15.a l15.len l15.cap], .int .i64 a1] w12 fun v16 w17 => ∃ l18 : Sl, v16 = .slice l18.a l18.len l18.cap ∧ ∃ l19 : Sl, w17.cell? ⟨w.heap.size, 0, none⟩ = some (.slice l19.a l19.len l19.cap) ∧ ∃ n20 : Int, w17.cell? ⟨w.heap.size, 1, none⟩ = some (.int .i64 n20) ∧ ∃ l21 : Sl, w17.cell? ⟨w.heap.size, 2, none⟩ = some (.slice l21.a l21.len l21.cap) ∧ CallW Try.prog 34 #[.agg #[.slice l19.a l19.len l19.cap, .int .i64 n20, .slice l21.a l21.len l21.cap]] w17 fun v22 w23 => ∃ l24 : Sl, ∃ n25 : Int, ∃ l26 : Sl, v22 = .agg #[.slice l24.a l24.len l24.cap, .int .i64 n25, .slice l26.a l26.len l26.cap] ∧ LetW (w23.alloc (.cells #[.slice none 0 0, .int .i64 0, .slice none 0 0] 65)) fun w27 => MayN w27 ⟨w23.heap.size, 0, none⟩ 3 ∧ LetW (puts w27 ⟨w23.heap.size, 0, none⟩ 0 [.slice l24.a l24.len l24.cap, .int .i64 n25, .slice l26.a l26.len l26.cap]) fun w28 => ∃ l29 : Sl, w28.cell? ⟨w23.heap.size, 0, none⟩ = some (.slice l29.a l29.len l29.cap) ∧ ∃ n30 : Int, w28.cell? ⟨w23.heap.size, 1, none⟩ = some (.int .i64 n30) ∧ ∃ l31 : Sl, w28.cell? ⟨w23.heap.size, 2, none⟩ = some (.slice l31.a l31.len l31.cap) ∧ CallW Try.prog 42 #[.agg #[.slice l29.a l29.len l29.cap, .int .i64 n30, .slice l31.a l31.len l31.cap], .int .i64 a1] w28 fun v32 w33 => ∃ l34 : Sl, v32 = .slice l34.a l34.len l34.cap ∧ CallW Try.prog 43 #[.slice l34.a l34.len l34.cap, .slice l18.a l18.len l18.cap] w33 fun v35 w36 => ∃ b37 : Bool, v35 = .bool b37 ∧ BIf (!b37) (K (.bool false) w36) (∃ l38 : Sl, w36.drew.cell? ⟨w23.heap.size, 0, none⟩ = some (.slice l38.a l38.len l38.cap) ∧ ∃ n39 : Int, w36.drew.cell? ⟨w23.heap.size, 1, none⟩ = some (.int .i64 n39) ∧ ∃ l40 : Sl, w36.drew.cell? ⟨w23.heap.size, 2, none⟩ = some (.slice l40.a l40.len l40.cap) ∧ ∃ l41 : Sl, w36.drew.cell? ⟨w.heap.size, 0, none⟩ = some (.slice l41.a l41.len l41.cap) ∧ ∃ n42 : Int, w36.drew.cell? ⟨w.heap.size, 1, none⟩ = some (.int .i64 n42) ∧ ∃ l43 : Sl, w36.drew.cell? ⟨w.heap.size, 2, none⟩ = some (.slice l43.a l43.len l43.cap) ∧ CallW Try.prog 34 #[.agg #[.slice l41.a l41.len l41.cap, .int .i64 n42, .slice l43.a l43.len l43.cap]] w36.drew fun v44 w45 => ∃ l46 : Sl, ∃ n47 : Int, ∃ l48 : Sl, v44 = .agg #[.slice l46.a l46.len l46.cap, .int .i64 n47, .slice l48.a l48.len l48.cap] ∧ (∃ l49 : Sl, w45.cell? ⟨w23.heap.size, 0, none⟩ = some (.slice l49.a l49.len l49.cap) ∧ ∃ n50 : Int, w45.cell? ⟨w23.heap.size, 1, none⟩ = some (.int .i64 n50) ∧ ∃ l51 : Sl, w45.cell? ⟨w23.heap.size, 2, none⟩ = some (.slice l51.a l51.len l51.cap) ∧ (.agg #[.slice l49.a l49.len l49.cap, .int .i64 n50, .slice l51.a l51.len l51.cap] : Value) = (.agg #[.slice l38.a l38.len l38.cap, .int .i64 n39, .slice l40.a l40.len l40.cap] : Value)) ∧ CallW Try.prog 36 #[.agg #[.slice l38.a l38.len l38.cap, .int .i64 n39, .slice l40.a l40.len l40.cap], .agg #[.slice l46.a l46.len l46.cap, .int .i64 n47, .slice l48.a l48.len l48.cap]] w45 fun v52 w53 => ∃ b54 : Bool, v52 = .bool b54 ∧ BIf (!b54) (K (.bool false) w53) (∃ l55 : Sl, w53.cell? ⟨w23.heap.size, 0, none⟩ = some (.slice l55.a l55.len l55.cap) ∧ ∃ n56 : Int, w53.cell? ⟨w23.heap.size, 1, none⟩ = some (.int .i64 n56) ∧ ∃ l57 : Sl, w53.cell? ⟨w23.heap.size, 2, none⟩ = some (.slice l57.a l57.len l57.cap) ∧ CallW Try.prog 39 #[.agg #[.slice l55.a l55.len l55.cap, .int .i64 n56, .slice l57.a l57.len l57.cap], .int .i64 1] w53 fun v58 w59 => ∃ n60 : Int, v58 = .int .i64 n60 ∧ JoinW [.bool] (fun J62 => BIf (decide ((n60 : Int) < 0)) (J62 true w59) (CallW Try.prog 43 #[.slice l34.a l34.len l34.cap, .slice l18.a l18.len l18.cap] w59 fun v87 w88 => ∃ b89 : Bool, v87 = .bool b89 ∧ J62 (!b89) w88)) (fun (b61 : Bool) w63 => BIf b61 (K (.bool false) w63) (CallW Try.prog 44 #[.slice l34.a l34.len l34.cap, .int .i64 1] w63 fun v64 w65 => ∃ n66 : Int, v64 = .int .i64 n66 ∧ CallW Try.prog 45 #[.slice l34.a l34.len l34.cap, .int .i64 1] w65 fun v67 w68 => ∃ n69 : Int, v67 = .int .i64 n69 ∧ BIf (decide ((n69 : Int) < 0)) (K (.bool false) w68) (BIf ((n69 : Int) != n66) (K (.bool false) w68) (∃ l70 : Sl, w68.cell? ⟨w.heap.size, 0, none⟩ = some (.slice l70.a l70.len l70.cap) ∧ ∃ n71 : Int, w68.cell? ⟨w.heap.size, 1, none⟩ = some (.int .i64 n71) ∧ ∃ l72 : Sl, w68.cell? ⟨w.heap.size, 2, none⟩ = some (.slice l72.a l72.len l72.cap) ∧ CallW Try.prog 34 #[.agg #[.slice l70.a l70.len l70.cap, .int .i64 n71, .slice l72.a l72.len l72.cap]] w68 fun v73 w74 => ∃ l75 : Sl, ∃ n76 : Int, ∃ l77 : Sl, v73 = .agg #[.slice l75.a l75.len l75.cap, .int .i64 n76, .slice l77.a l77.len l77.cap] ∧ CallW Try.prog 42 #[.agg #[.slice l75.a l75.len l75.cap, .int .i64 n76, .slice l77.a l77.len l77.cap], .int .i64 a1] w74 fun v78 w79 => ∃ l80 : Sl, v78 = .slice l80.a l80.len l80.cap ∧ CallW Try.prog 43 #[.slice l80.a l80.len l80.cap, .slice l18.a l18.len l18.cap] w79 fun v81 w82 => ∃ b83 : Bool, v81 = .bool b83 ∧ BIf (!b83) (K (.bool false) w82) (CallW Try.prog 45 #[.slice l34.a l34.len l34.cap, .int .i64 1] w82 fun v84 w85 => ∃ n86 : Int, v84 = .int .i64 n86 ∧ BIf (decide ((n86 : Int) < 0)) (K (.bool false) w85) (BIf ((n86 : Int) != n66) (K (.bool false) w85) (K (.bool true) w85))))))))))
theorem eq7 (a0_0 : Sl) (a0_1 : Int) (a0_2 : Sl) (a1 : Int) (w : World) (K : Value → World → Prop) : denFn Try.prog tt Try.f7 an7 [.agg #[.slice a0_0.a a0_0.len a0_0.cap, .int .i64 a0_1, .slice a0_2.a a0_2.len a0_2.cap], .int .i64 a1] w K = W7 a0_0 a0_1 a0_2 a1 w K := by kernel_rfl
/- loop.example/g00008/laws.szPool -/
def an32 : Ann := (.seq .leaf (.seq .leaf (.seq (.seq .leaf (.cond (.seq .leaf .leaf) .leaf)) (.seq .leaf (.seq (.seq .leaf (.cond (.seq .leaf .leaf) .leaf)) (.seq .leaf .leaf))))))
def W32 (a0_0 : Sl) (a0_1 : Int) (a0_2 : Sl) (a1 : Int) (w : World) (K : Value → World → Prop) : Prop :=
  LetW (w.alloc (.cells #[.slice a0_0.a a0_0.len a0_0.cap, .int .i64 a0_1, .slice a0_2.a a0_2.len a0_2.cap] 58)) fun w1 => ∃ l2 : Sl, w1.cell? ⟨w.heap.size, 0, none⟩ = some (.slice l2.a l2.len l2.cap) ∧ CallW Try.prog 89 #[.slice l2.a l2.len l2.cap, .int .i64 a1] w1 fun v3 w4 => ∃ n5 : Int, v3 = .int .i64 n5 ∧ BIf (decide ((n5 : Int) < 0)) (K (.int .i64 (-1)) w4) (∃ n6 : Int, w4.cell? ⟨w.heap.size, 1, none⟩ = some (.int .i64 n6) ∧ ∃ l7 : Sl, w4.cell? ⟨w.heap.size, 2, none⟩ = some (.slice l7.a l7.len l7.cap) ∧ CallW Try.prog 90 #[.agg #[.int .i64 n6, .slice l7.a l7.len l7.cap], .int .i64 n5] w4 fun v8 w9 => ∃ n10 : Int, v8 = .int .i64 n10 ∧ BIf (decide ((n10 : Int) < 0)) (K (.int .i64 (-1)) w9) (K (.int .i64 n10) w9))
theorem eq32 (a0_0 : Sl) (a0_1 : Int) (a0_2 : Sl) (a1 : Int) (w : World) (K : Value → World → Prop) : denFn Try.prog tt Try.f32 an32 [.agg #[.slice a0_0.a a0_0.len a0_0.cap, .int .i64 a0_1, .slice a0_2.a a0_2.len a0_2.cap], .int .i64 a1] w K = W32 a0_0 a0_1 a0_2 a1 w K := by kernel_rfl
theorem ok32 : OkFn Try.prog 32 := ⟨Try.f32, Try.func32, by kernel_rfl, by kernel_rfl⟩
theorem go32 {a0_0 : Sl} {a0_1 : Int} {a0_2 : Sl} {a1 : Int} {w : World} {K : Value → World → Prop} (h : W32 a0_0 a0_1 a0_2 a1 w K) : CallW Try.prog 32 #[.agg #[.slice a0_0.a a0_0.len a0_0.cap, .int .i64 a0_1, .slice a0_2.a a0_2.len a0_2.cap], .int .i64 a1] w K :=
  .inl ⟨ok32, denFn_sound tt_ok mix Try.func32 (by kernel_rfl) (eq32 a0_0 a0_1 a0_2 a1 w K ▸ h)⟩

/- loop.example/g00008/spec.SpaceOk -/
def an33 : Ann := (.seq .leaf (.seq .leaf (.seq .leaf .leaf)))
def W33 (a0_0 : Sl) (a0_1 : Int) (a0_2 : Sl) (a1 : Int) (w : World) (K : Value → World → Prop) : Prop :=
  LetW (w.alloc (.cells #[.slice a0_0.a a0_0.len a0_0.cap, .int .i64 a0_1, .slice a0_2.a a0_2.len a0_2.cap] 65)) fun w1 => ∃ l2 : Sl, w1.cell? ⟨w.heap.size, 0, none⟩ = some (.slice l2.a l2.len l2.cap) ∧ ∃ n3 : Int, w1.cell? ⟨w.heap.size, 1, none⟩ = some (.int .i64 n3) ∧ ∃ l4 : Sl, w1.cell? ⟨w.heap.size, 2, none⟩ = some (.slice l4.a l4.len l4.cap) ∧ CallW Try.prog 91 #[.agg #[.slice l2.a l2.len l2.cap, .int .i64 n3, .slice l4.a l4.len l4.cap], .int .i64 a1] w1 fun v5 w6 => ∃ l7 : Sl, ∃ b8 : Bool, v5 = .tuple #[.slice l7.a l7.len l7.cap, .bool b8] ∧ K (.bool b8) w6
theorem eq33 (a0_0 : Sl) (a0_1 : Int) (a0_2 : Sl) (a1 : Int) (w : World) (K : Value → World → Prop) : denFn Try.prog tt Try.f33 an33 [.agg #[.slice a0_0.a a0_0.len a0_0.cap, .int .i64 a0_1, .slice a0_2.a a0_2.len a0_2.cap], .int .i64 a1] w K = W33 a0_0 a0_1 a0_2 a1 w K := by kernel_rfl
theorem ok33 : OkFn Try.prog 33 := ⟨Try.f33, Try.func33, by kernel_rfl, by kernel_rfl⟩
theorem go33 {a0_0 : Sl} {a0_1 : Int} {a0_2 : Sl} {a1 : Int} {w : World} {K : Value → World → Prop} (h : W33 a0_0 a0_1 a0_2 a1 w K) : CallW Try.prog 33 #[.agg #[.slice a0_0.a a0_0.len a0_0.cap, .int .i64 a0_1, .slice a0_2.a a0_2.len a0_2.cap], .int .i64 a1] w K :=
  .inl ⟨ok33, denFn_sound tt_ok mix Try.func33 (by kernel_rfl) (eq33 a0_0 a0_1 a0_2 a1 w K ▸ h)⟩

/- loop.example/g00008/laws.toPool -/
def an34 : Ann := (.seq .leaf (.seq .leaf (.seq .leaf (.seq .leaf (.seq .leaf .leaf)))))
def W34 (a0_0 : Sl) (a0_1 : Int) (a0_2 : Sl) (w : World) (K : Value → World → Prop) : Prop :=
  LetW (w.alloc (.cells #[.slice a0_0.a a0_0.len a0_0.cap, .int .i64 a0_1, .slice a0_2.a a0_2.len a0_2.cap] 58)) fun w1 => LetW (w1.alloc (.cells #[.slice none 0 0, .int .i64 0, .slice none 0 0] 65)) fun w2 => LetW (w2.alloc (.cells #[.slice none 0 0, .int .i64 0, .slice none 0 0] 65)) fun w3 => ∃ l4 : Sl, w3.cell? ⟨w.heap.size, 0, none⟩ = some (.slice l4.a l4.len l4.cap) ∧ CallW Try.prog 92 #[.slice l4.a l4.len l4.cap] w3 fun v5 w6 => ∃ l7 : Sl, v5 = .slice l7.a l7.len l7.cap ∧ May w6 ⟨w2.heap.size, 0, none⟩ ∧ LetW (w6.setCell ⟨w2.heap.size, 0, none⟩ (.slice l7.a l7.len l7.cap)) fun w8 => ∃ n9 : Int, w8.cell? ⟨w.heap.size, 1, none⟩ = some (.int .i64 n9) ∧ ∃ l10 : Sl, w8.cell? ⟨w.heap.size, 2, none⟩ = some (.slice l10.a l10.len l10.cap) ∧ CallW Try.prog 93 #[.agg #[.int .i64 n9, .slice l10.a l10.len l10.cap]] w8 fun v11 w12 => ∃ n13 : Int, ∃ l14 : Sl, v11 = .agg #[.int .i64 n13, .slice l14.a l14.len l14.cap] ∧ MayN w12 ⟨w2.heap.size, 1, none⟩ 2 ∧ LetW (puts w12 ⟨w2.heap.size, 1, none⟩ 0 [.int .i64 n13, .slice l14.a l14.len l14.cap]) fun w15 => ∃ l16 : Sl, w15.cell? ⟨w2.heap.size, 0, none⟩ = some (.slice l16.a l16.len l16.cap) ∧ ∃ n17 : Int, w15.cell? ⟨w2.heap.size, 1, none⟩ = some (.int .i64 n17) ∧ ∃ l18 : Sl, w15.cell? ⟨w2.heap.size, 2, none⟩ = some (.slice l18.a l18.len l18.cap) ∧ MayN w15 ⟨w1.heap.size, 0, none⟩ 3 ∧ LetW (puts w15 ⟨w1.heap.size, 0, none⟩ 0 [.slice l16.a l16.len l16.cap, .int .i64 n17, .slice l18.a l18.len l18.cap]) fun w19 => ∃ l20 : Sl, w19.cell? ⟨w1.heap.size, 0, none⟩ = some (.slice l20.a l20.len l20.cap) ∧ ∃ n21 : Int, w19.cell? ⟨w1.heap.size, 1, none⟩ = some (.int .i64 n21) ∧ ∃ l22 : Sl, w19.cell? ⟨w1.heap.size, 2, none⟩ = some (.slice l22.a l22.len l22.cap) ∧ K (.agg #[.slice l20.a l20.len l20.cap, .int .i64 n21, .slice l22.a l22.len l22.cap]) w19
theorem eq34 (a0_0 : Sl) (a0_1 : Int) (a0_2 : Sl) (w : World) (K : Value → World → Prop) : denFn Try.prog tt Try.f34 an34 [.agg #[.slice a0_0.a a0_0.len a0_0.cap, .int .i64 a0_1, .slice a0_2.a a0_2.len a0_2.cap]] w K = W34 a0_0 a0_1 a0_2 w K := by kernel_rfl
theorem ok34 : OkFn Try.prog 34 := ⟨Try.f34, Try.func34, by kernel_rfl, by kernel_rfl⟩
theorem go34 {a0_0 : Sl} {a0_1 : Int} {a0_2 : Sl} {w : World} {K : Value → World → Prop} (h : W34 a0_0 a0_1 a0_2 w K) : CallW Try.prog 34 #[.agg #[.slice a0_0.a a0_0.len a0_0.cap, .int .i64 a0_1, .slice a0_2.a a0_2.len a0_2.cap]] w K :=
  .inl ⟨ok34, denFn_sound tt_ok mix Try.func34 (by kernel_rfl) (eq34 a0_0 a0_1 a0_2 w K ▸ h)⟩

/- loop.example/g00008/impl.SpaceOk -/
def an35 : Ann := (.seq .leaf (.seq (.reg [(3, none), (6, some (0, [(13, .bool)])), (1, none)]) .leaf))
def W35 (a0_0 : Sl) (a0_1 : Int) (a0_2 : Sl) (a1 : Int) (w : World) (K : Value → World → Prop) : Prop :=
  LetW (w.alloc (.cells #[.slice a0_0.a a0_0.len a0_0.cap, .int .i64 a0_1, .slice a0_2.a a0_2.len a0_2.cap] 65)) fun w1 => ∃ l2 : Sl, w1.cell? ⟨w.heap.size, 0, none⟩ = some (.slice l2.a l2.len l2.cap) ∧ ∃ n3 : Int, w1.cell? ⟨w.heap.size, 1, none⟩ = some (.int .i64 n3) ∧ ∃ l4 : Sl, w1.cell? ⟨w.heap.size, 2, none⟩ = some (.slice l4.a l4.len l4.cap) ∧ CallW Try.prog 94 #[.agg #[.slice l2.a l2.len l2.cap, .int .i64 n3, .slice l4.a l4.len l4.cap]] w1 fun v5 w6 => ∃ b7 : Bool, v5 = .bool b7 ∧ JoinW [.bool] (fun J9 => BIf b7 (∃ l11 : Sl, w6.cell? ⟨w.heap.size, 0, none⟩ = some (.slice l11.a l11.len l11.cap) ∧ ∃ n12 : Int, w6.cell? ⟨w.heap.size, 1, none⟩ = some (.int .i64 n12) ∧ ∃ l13 : Sl, w6.cell? ⟨w.heap.size, 2, none⟩ = some (.slice l13.a l13.len l13.cap) ∧ CallW Try.prog 95 #[.agg #[.slice l11.a l11.len l11.cap, .int .i64 n12, .slice l13.a l13.len l13.cap]] w6 fun v14 w15 => ∃ p16 : Option Addr, v14 = .pointer p16 ∧ CallW Try.prog 96 #[.pointer p16, .int .i64 a1] w15 fun v17 w18 => ∃ l19 : Sl, v17 = .slice l19.a l19.len l19.cap ∧ J9 (!(Option.isNone l19.a)) w18) (J9 false w6)) (fun (b8 : Bool) w10 => K (.bool b8) w10)
theorem eq35 (a0_0 : Sl) (a0_1 : Int) (a0_2 : Sl) (a1 : Int) (w : World) (K : Value → World → Prop) : denFn Try.prog tt Try.f35 an35 [.agg #[.slice a0_0.a a0_0.len a0_0.cap, .int .i64 a0_1, .slice a0_2.a a0_2.len a0_2.cap], .int .i64 a1] w K = W35 a0_0 a0_1 a0_2 a1 w K := by kernel_rfl
theorem ok35 : OkFn Try.prog 35 := ⟨Try.f35, Try.func35, by kernel_rfl, by kernel_rfl⟩
theorem go35 {a0_0 : Sl} {a0_1 : Int} {a0_2 : Sl} {a1 : Int} {w : World} {K : Value → World → Prop} (h : W35 a0_0 a0_1 a0_2 a1 w K) : CallW Try.prog 35 #[.agg #[.slice a0_0.a a0_0.len a0_0.cap, .int .i64 a0_1, .slice a0_2.a a0_2.len a0_2.cap], .int .i64 a1] w K :=
  .inl ⟨ok35, denFn_sound tt_ok mix Try.func35 (by kernel_rfl) (eq35 a0_0 a0_1 a0_2 a1 w K ▸ h)⟩

/- loop.example/g00008/laws.eqPool -/
def an36 : Ann := (.seq .leaf (.seq (.seq .leaf (.cond (.seq .leaf .leaf) .leaf)) (.seq (.seq .leaf (.cond (.seq .leaf .leaf) .leaf)) (.seq .leaf .leaf))))
def W36 (a0_0 : Sl) (a0_1 : Int) (a0_2 : Sl) (a1_0 : Sl) (a1_1 : Int) (a1_2 : Sl) (w : World) (K : Value → World → Prop) : Prop :=
  LetW (w.alloc (.cells #[.slice a0_0.a a0_0.len a0_0.cap, .int .i64 a0_1, .slice a0_2.a a0_2.len a0_2.cap] 65)) fun w1 => LetW (w1.alloc (.cells #[.slice a1_0.a a1_0.len a1_0.cap, .int .i64 a1_1, .slice a1_2.a a1_2.len a1_2.cap] 65)) fun w2 => ∃ l3 : Sl, w2.cell? ⟨w.heap.size, 0, none⟩ = some (.slice l3.a l3.len l3.cap) ∧ ∃ l4 : Sl, w2.cell? ⟨w1.heap.size, 0, none⟩ = some (.slice l4.a l4.len l4.cap) ∧ CallW Try.prog 97 #[.slice l3.a l3.len l3.cap, .slice l4.a l4.len l4.cap] w2 fun v5 w6 => ∃ b7 : Bool, v5 = .bool b7 ∧ BIf (!b7) (K (.bool false) w6) (∃ n8 : Int, w6.cell? ⟨w.heap.size, 1, none⟩ = some (.int .i64 n8) ∧ ∃ l9 : Sl, w6.cell? ⟨w.heap.size, 2, none⟩ = some (.slice l9.a l9.len l9.cap) ∧ ∃ n10 : Int, w6.cell? ⟨w1.heap.size, 1, none⟩ = some (.int .i64 n10) ∧ ∃ l11 : Sl, w6.cell? ⟨w1.heap.size, 2, none⟩ = some (.slice l11.a l11.len l11.cap) ∧ CallW Try.prog 98 #[.agg #[.int .i64 n8, .slice l9.a l9.len l9.cap], .agg #[.int .i64 n10, .slice l11.a l11.len l11.cap]] w6 fun v12 w13 => ∃ b14 : Bool, v12 = .bool b14 ∧ BIf (!b14) (K (.bool false) w13) (K (.bool true) w13))
theorem eq36 (a0_0 : Sl) (a0_1 : Int) (a0_2 : Sl) (a1_0 : Sl) (a1_1 : Int) (a1_2 : Sl) (w : World) (K : Value → World → Prop) : denFn Try.prog tt Try.f36 an36 [.agg #[.slice a0_0.a a0_0.len a0_0.cap, .int .i64 a0_1, .slice a0_2.a a0_2.len a0_2.cap], .agg #[.slice a1_0.a a1_0.len a1_0.cap, .int .i64 a1_1, .slice a1_2.a a1_2.len a1_2.cap]] w K = W36 a0_0 a0_1 a0_2 a1_0 a1_1 a1_2 w K := by kernel_rfl
theorem ok36 : OkFn Try.prog 36 := ⟨Try.f36, Try.func36, by kernel_rfl, by kernel_rfl⟩
theorem go36 {a0_0 : Sl} {a0_1 : Int} {a0_2 : Sl} {a1_0 : Sl} {a1_1 : Int} {a1_2 : Sl} {w : World} {K : Value → World → Prop} (h : W36 a0_0 a0_1 a0_2 a1_0 a1_1 a1_2 w K) : CallW Try.prog 36 #[.agg #[.slice a0_0.a a0_0.len a0_0.cap, .int .i64 a0_1, .slice a0_2.a a0_2.len a0_2.cap], .agg #[.slice a1_0.a a1_0.len a1_0.cap, .int .i64 a1_1, .slice a1_2.a a1_2.len a1_2.cap]] w K :=
  .inl ⟨ok36, denFn_sound tt_ok mix Try.func36 (by kernel_rfl) (eq36 a0_0 a0_1 a0_2 a1_0 a1_1 a1_2 w K ▸ h)⟩

/- loop.example/g00008/laws.markPool -/
def an39 : Ann := (.seq .leaf (.seq .leaf (.seq .leaf (.seq .leaf .leaf))))
def W39 (a0_0 : Sl) (a0_1 : Int) (a0_2 : Sl) (a1 : Int) (w : World) (K : Value → World → Prop) : Prop :=
  LetW (w.alloc (.cells #[.slice a0_0.a a0_0.len a0_0.cap, .int .i64 a0_1, .slice a0_2.a a0_2.len a0_2.cap] 65)) fun w1 => ∃ l2 : Sl, w1.cell? ⟨w.heap.size, 0, none⟩ = some (.slice l2.a l2.len l2.cap) ∧ CallW Try.prog 104 #[.slice l2.a l2.len l2.cap, .int .i64 a1] w1 fun v3 w4 => ∃ n5 : Int, v3 = .int .i64 n5 ∧ ∃ n6 : Int, w4.cell? ⟨w.heap.size, 1, none⟩ = some (.int .i64 n6) ∧ ∃ l7 : Sl, w4.cell? ⟨w.heap.size, 2, none⟩ = some (.slice l7.a l7.len l7.cap) ∧ CallW Try.prog 105 #[.agg #[.int .i64 n6, .slice l7.a l7.len l7.cap], .int .i64 n5] w4 fun v8 w9 => ∃ n10 : Int, v8 = .int .i64 n10 ∧ K (.int .i64 n10) w9
theorem eq39 (a0_0 : Sl) (a0_1 : Int) (a0_2 : Sl) (a1 : Int) (w : World) (K : Value → World → Prop) : denFn Try.prog tt Try.f39 an39 [.agg #[.slice a0_0.a a0_0.len a0_0.cap, .int .i64 a0_1, .slice a0_2.a a0_2.len a0_2.cap], .int .i64 a1] w K = W39 a0_0 a0_1 a0_2 a1 w K := by kernel_rfl
theorem ok39 : OkFn Try.prog 39 := ⟨Try.f39, Try.func39, by kernel_rfl, by kernel_rfl⟩
theorem go39 {a0_0 : Sl} {a0_1 : Int} {a0_2 : Sl} {a1 : Int} {w : World} {K : Value → World → Prop} (h : W39 a0_0 a0_1 a0_2 a1 w K) : CallW Try.prog 39 #[.agg #[.slice a0_0.a a0_0.len a0_0.cap, .int .i64 a0_1, .slice a0_2.a a0_2.len a0_2.cap], .int .i64 a1] w K :=
  .inl ⟨ok39, denFn_sound tt_ok mix Try.func39 (by kernel_rfl) (eq39 a0_0 a0_1 a0_2 a1 w K ▸ h)⟩

/- loop.example/g00008/spec.SpacePages -/
def an41 : Ann := (.seq .leaf (.seq (.seq .leaf (.cond (.seq .leaf .leaf) .leaf)) (.seq .leaf .leaf)))
def W41 (a0_0 : Sl) (a0_1 : Int) (a0_2 : Sl) (a1 : Int) (w : World) (K : Value → World → Prop) : Prop :=
  LetW (w.alloc (.cells #[.slice a0_0.a a0_0.len a0_0.cap, .int .i64 a0_1, .slice a0_2.a a0_2.len a0_2.cap] 65)) fun w1 => ∃ l2 : Sl, w1.cell? ⟨w.heap.size, 0, none⟩ = some (.slice l2.a l2.len l2.cap) ∧ ∃ n3 : Int, w1.cell? ⟨w.heap.size, 1, none⟩ = some (.int .i64 n3) ∧ ∃ l4 : Sl, w1.cell? ⟨w.heap.size, 2, none⟩ = some (.slice l4.a l4.len l4.cap) ∧ CallW Try.prog 33 #[.agg #[.slice l2.a l2.len l2.cap, .int .i64 n3, .slice l4.a l4.len l4.cap], .int .i64 a1] w1 fun v5 w6 => ∃ b7 : Bool, v5 = .bool b7 ∧ BIf (!b7) (LetW (w6.alloc (.cells #[] 91)) fun w8 => K (.slice (some ⟨w6.heap.size, 0, none⟩) 0 0) w8) (∃ l9 : Sl, w6.cell? ⟨w.heap.size, 0, none⟩ = some (.slice l9.a l9.len l9.cap) ∧ CallW Try.prog 108 #[.slice l9.a l9.len l9.cap, .int .i64 a1] w6 fun v10 w11 => ∃ l12 : Sl, v10 = .slice l12.a l12.len l12.cap ∧ K (.slice l12.a l12.len l12.cap) w11)
theorem eq41 (a0_0 : Sl) (a0_1 : Int) (a0_2 : Sl) (a1 : Int) (w : World) (K : Value → World → Prop) : denFn Try.prog tt Try.f41 an41 [.agg #[.slice a0_0.a a0_0.len a0_0.cap, .int .i64 a0_1, .slice a0_2.a a0_2.len a0_2.cap], .int .i64 a1] w K = W41 a0_0 a0_1 a0_2 a1 w K := by kernel_rfl
theorem ok41 : OkFn Try.prog 41 := ⟨Try.f41, Try.func41, by kernel_rfl, by kernel_rfl⟩
theorem go41 {a0_0 : Sl} {a0_1 : Int} {a0_2 : Sl} {a1 : Int} {w : World} {K : Value → World → Prop} (h : W41 a0_0 a0_1 a0_2 a1 w K) : CallW Try.prog 41 #[.agg #[.slice a0_0.a a0_0.len a0_0.cap, .int .i64 a0_1, .slice a0_2.a a0_2.len a0_2.cap], .int .i64 a1] w K :=
  .inl ⟨ok41, denFn_sound tt_ok mix Try.func41 (by kernel_rfl) (eq41 a0_0 a0_1 a0_2 a1 w K ▸ h)⟩

/- loop.example/g00008/impl.SpacePages -/
def an42 : Ann := (.seq .leaf (.seq (.seq .leaf (.cond (.seq .leaf .leaf) .leaf)) (.seq .leaf .leaf)))
def W42 (a0_0 : Sl) (a0_1 : Int) (a0_2 : Sl) (a1 : Int) (w : World) (K : Value → World → Prop) : Prop :=
  LetW (w.alloc (.cells #[.slice a0_0.a a0_0.len a0_0.cap, .int .i64 a0_1, .slice a0_2.a a0_2.len a0_2.cap] 65)) fun w1 => ∃ l2 : Sl, w1.cell? ⟨w.heap.size, 0, none⟩ = some (.slice l2.a l2.len l2.cap) ∧ ∃ n3 : Int, w1.cell? ⟨w.heap.size, 1, none⟩ = some (.int .i64 n3) ∧ ∃ l4 : Sl, w1.cell? ⟨w.heap.size, 2, none⟩ = some (.slice l4.a l4.len l4.cap) ∧ CallW Try.prog 35 #[.agg #[.slice l2.a l2.len l2.cap, .int .i64 n3, .slice l4.a l4.len l4.cap], .int .i64 a1] w1 fun v5 w6 => ∃ b7 : Bool, v5 = .bool b7 ∧ BIf (!b7) (K (.slice none 0 0) w6) (∃ l8 : Sl, w6.cell? ⟨w.heap.size, 0, none⟩ = some (.slice l8.a l8.len l8.cap) ∧ CallW Try.prog 109 #[.slice l8.a l8.len l8.cap, .int .i64 a1] w6 fun v9 w10 => ∃ l11 : Sl, v9 = .slice l11.a l11.len l11.cap ∧ K (.slice l11.a l11.len l11.cap) w10)
theorem eq42 (a0_0 : Sl) (a0_1 : Int) (a0_2 : Sl) (a1 : Int) (w : World) (K : Value → World → Prop) : denFn Try.prog tt Try.f42 an42 [.agg #[.slice a0_0.a a0_0.len a0_0.cap, .int .i64 a0_1, .slice a0_2.a a0_2.len a0_2.cap], .int .i64 a1] w K = W42 a0_0 a0_1 a0_2 a1 w K := by kernel_rfl
theorem ok42 : OkFn Try.prog 42 := ⟨Try.f42, Try.func42, by kernel_rfl, by kernel_rfl⟩
theorem go42 {a0_0 : Sl} {a0_1 : Int} {a0_2 : Sl} {a1 : Int} {w : World} {K : Value → World → Prop} (h : W42 a0_0 a0_1 a0_2 a1 w K) : CallW Try.prog 42 #[.agg #[.slice a0_0.a a0_0.len a0_0.cap, .int .i64 a0_1, .slice a0_2.a a0_2.len a0_2.cap], .int .i64 a1] w K :=
  .inl ⟨ok42, denFn_sound tt_ok mix Try.func42 (by kernel_rfl) (eq42 a0_0 a0_1 a0_2 a1 w K ▸ h)⟩

/- loop.example/g00008/laws.eqLeafS -/
def an43 : Ann := (.seq .leaf (.seq (.seq .leaf (.cond (.seq .leaf .leaf) .leaf)) (.seq (.seq .leaf (.in_ (.loop 3 [(5, .int .i64)] (.seq (.seq .leaf (.cond .leaf .leaf)) (.seq (.in_ (.seq (.draw [0, 0, 3, 7, 0, 0, 48, 112, 255, 511] [0, 1, 2, 3, 4, 5, 6, 7, 8, 9]) (.cond (.seq .leaf .leaf) .leaf))) .leaf))))) (.seq .leaf .leaf))))
def W43 (a0 : Sl) (a1 : Sl) (w : World) (K : Value → World → Prop) : Prop :=
  BIf ((((a0.len : Nat) : Int) : Int) != ((a1.len : Nat) : Int)) (K (.bool false) w) (LoopW [.int .i64] (fun J2 => fun (n1 : Int) w3 => BIf (decide ((n1 : Int) < ((a0.len : Nat) : Int))) (0 ≤ (n1 : Int) ∧ (n1 : Int) < ((a0.len : Nat) : Int) ∧ ∃ q4 : Addr, (a0.a : Option Addr) = some q4 ∧ ∃ n5 : Int, w3.drew.cell? ((q4.add (Int.toNat n1 * 3)).add 0) = some (.int .i64 n5) ∧ ∃ n6 : Int, w3.drew.cell? ((q4.add (Int.toNat n1 * 3)).add 1) = some (.int .i64 n6) ∧ ∃ n7 : Int, w3.drew.cell? ((q4.add (Int.toNat n1 * 3)).add 2) = some (.int .u64 n7) ∧ 0 ≤ (n1 : Int) ∧ (n1 : Int) < ((a1.len : Nat) : Int) ∧ ∃ q8 : Addr, (a1.a : Option Addr) = some q8 ∧ ∃ n9 : Int, w3.drew.cell? ((q8.add (Int.toNat n1 * 3)).add 0) = some (.int .i64 n9) ∧ ∃ n10 : Int, w3.drew.cell? ((q8.add (Int.toNat n1 * 3)).add 1) = some (.int .i64 n10) ∧ ∃ n11 : Int, w3.drew.cell? ((q8.add (Int.toNat n1 * 3)).add 2) = some (.int .u64 n11) ∧ CallW Try.prog 110 #[.agg #[.int .i64 n5, .int .i64 n6, .int .u64 n7], .agg #[.int .i64 n9, .int .i64 n10, .int .u64 n11]] w3.drew fun v12 w13 => ∃ b14 : Bool, v12 = .bool b14 ∧ BIf (!b14) (K (.bool false) w13) (J2 (IntKind.wrap .i64 (n1 + 1)) w13)) (K (.bool true) w3)) ((0 : Int), ()) w)
theorem eq43 (a0 : Sl) (a1 : Sl) (w : World) (K : Value → World → Prop) : denFn Try.prog tt Try.f43 an43 [.slice a0.a a0.len a0.cap, .slice a1.a a1.len a1.cap] w K = W43 a0 a1 w K := by kernel_rfl
theorem ok43 : OkFn Try.prog 43 := ⟨Try.f43, Try.func43, by kernel_rfl, by kernel_rfl⟩
theorem go43 {a0 : Sl} {a1 : Sl} {w : World} {K : Value → World → Prop} (h : W43 a0 a1 w K) : CallW Try.prog 43 #[.slice a0.a a0.len a0.cap, .slice a1.a a1.len a1.cap] w K :=
  .inl ⟨ok43, denFn_sound tt_ok mix Try.func43 (by kernel_rfl) (eq43 a0 a1 w K ▸ h)⟩

/- loop.example/g00008/laws.markLeafS -/
def an44 : Ann := (.seq .leaf (.seq (.seq .leaf (.in_ (.loop 1 [(1, .int .i64), (5, .int .i64)] (.seq (.seq .leaf (.cond .leaf .leaf)) (.seq (.in_ (.seq .leaf (.seq .leaf (.seq .leaf (.seq .leaf (.seq .leaf .leaf)))))) .leaf))))) (.seq .leaf .leaf)))
def W44 (a0 : Sl) (a1 : Int) (w : World) (K : Value → World → Prop) : Prop :=
  LoopW [.int .i64, .int .i64] (fun J3 => fun (n1 : Int) (n2 : Int) w4 => BIf (decide ((n2 : Int) < ((a0.len : Nat) : Int))) (0 ≤ (n2 : Int) ∧ (n2 : Int) < ((a0.len : Nat) : Int) ∧ ∃ q5 : Addr, (a0.a : Option Addr) = some q5 ∧ May w4 ((q5.add (Int.toNat n2 * 3)).add 0) ∧ LetW (w4.setCell ((q5.add (Int.toNat n2 * 3)).add 0) (.int .i64 n1)) fun w6 => 0 ≤ (n2 : Int) ∧ (n2 : Int) < ((a0.len : Nat) : Int) ∧ ∃ q7 : Addr, (a0.a : Option Addr) = some q7 ∧ May w6 ((q7.add (Int.toNat n2 * 3)).add 1) ∧ LetW (w6.setCell ((q7.add (Int.toNat n2 * 3)).add 1) (.int .i64 (IntKind.wrap .i64 (n1 + 1)))) fun w8 => 0 ≤ (n2 : Int) ∧ (n2 : Int) < ((a0.len : Nat) : Int) ∧ ∃ q9 : Addr, (a0.a : Option Addr) = some q9 ∧ May w8 ((q9.add (Int.toNat n2 * 3)).add 2) ∧ LetW (w8.setCell ((q9.add (Int.toNat n2 * 3)).add 2) (.int .u64 (IntKind.wrap .u64 (IntKind.wrap .i64 ((IntKind.wrap .i64 (n1 + 1)) + 1))))) fun w10 => J3 (IntKind.wrap .i64 ((IntKind.wrap .i64 ((IntKind.wrap .i64 (n1 + 1)) + 1)) + 1)) (IntKind.wrap .i64 (n2 + 1)) w10) (K (.int .i64 n1) w4)) ((a1 : Int), ((0 : Int), ())) w
theorem eq44 (a0 : Sl) (a1 : Int) (w : World) (K : Value → World → Prop) : denFn Try.prog tt Try.f44 an44 [.slice a0.a a0.len a0.cap, .int .i64 a1] w K = W44 a0 a1 w K := by kernel_rfl
theorem ok44 : OkFn Try.prog 44 := ⟨Try.f44, Try.func44, by kernel_rfl, by kernel_rfl⟩
theorem go44 {a0 : Sl} {a1 : Int} {w : World} {K : Value → World → Prop} (h : W44 a0 a1 w K) : CallW Try.prog 44 #[.slice a0.a a0.len a0.cap, .int .i64 a1] w K :=
  .inl ⟨ok44, denFn_sound tt_ok mix Try.func44 (by kernel_rfl) (eq44 a0 a1 w K ▸ h)⟩

/- loop.example/g00008/laws.heldLeafS -/
def an45 : Ann := (.seq .leaf (.seq (.seq .leaf (.in_ (.loop 1 [(1, .int .i64), (5, .int .i64)] (.seq (.seq .leaf (.cond .leaf .leaf)) (.seq (.in_ (.seq (.seq .leaf (.cond (.seq .leaf .leaf) .leaf)) (.seq .leaf (.seq (.seq .leaf (.cond (.seq .leaf .leaf) .leaf)) (.seq .leaf (.seq (.seq .leaf (.cond (.seq .leaf .leaf) .leaf)) .leaf)))))) .leaf))))) (.seq .leaf .leaf)))
def W45 (a0 : Sl) (a1 : Int) (w : World) (K : Value → World → Prop) : Prop :=
  LoopW [.int .i64, .int .i64] (fun J3 => fun (n1 : Int) (n2 : Int) w4 => BIf (decide ((n2 : Int) < ((a0.len : Nat) : Int))) (0 ≤ (n2 : Int) ∧ (n2 : Int) < ((a0.len : Nat) : Int) ∧ ∃ q5 : Addr, (a0.a : Option Addr) = some q5 ∧ ∃ n6 : Int, w4.cell? ((q5.add (Int.toNat n2 * 3)).add 0) = some (.int .i64 n6) ∧ BIf ((n6 : Int) != n1) (K (.int .i64 (-1)) w4) (0 ≤ (n2 : Int) ∧ (n2 : Int) < ((a0.len : Nat) : Int) ∧ ∃ q7 : Addr, (a0.a : Option Addr) = some q7 ∧ ∃ n8 : Int, w4.cell? ((q7.add (Int.toNat n2 * 3)).add 1) = some (.int .i64 n8) ∧ BIf ((n8 : Int) != (IntKind.wrap .i64 (n1 + 1))) (K (.int .i64 (-1)) w4) (0 ≤ (n2 : Int) ∧ (n2 : Int) < ((a0.len : Nat) : Int) ∧ ∃ q9 : Addr, (a0.a : Option Addr) = some q9 ∧ ∃ n10 : Int, w4.cell? ((q9.add (Int.toNat n2 * 3)).add 2) = some (.int .u64 n10) ∧ BIf ((n10 : Int) != (IntKind.wrap .u64 (IntKind.wrap .i64 ((IntKind.wrap .i64 (n1 + 1)) + 1)))) (K (.int .i64 (-1)) w4) (J3 (IntKind.wrap .i64 ((IntKind.wrap .i64 ((IntKind.wrap .i64 (n1 + 1)) + 1)) + 1)) (IntKind.wrap .i64 (n2 + 1)) w4)))) (K (.int .i64 n1) w4)) ((a1 : Int), ((0 : Int), ())) w
theorem eq45 (a0 : Sl) (a1 : Int) (w : World) (K : Value → World → Prop) : denFn Try.prog tt Try.f45 an45 [.slice a0.a a0.len a0.cap, .int .i64 a1] w K = W45 a0 a1 w K := by kernel_rfl
theorem ok45 : OkFn Try.prog 45 := ⟨Try.f45, Try.func45, by kernel_rfl, by kernel_rfl⟩
theorem go45 {a0 : Sl} {a1 : Int} {w : World} {K : Value → World → Prop} (h : W45 a0 a1 w K) : CallW Try.prog 45 #[.slice a0.a a0.len a0.cap, .int .i64 a1] w K :=
  .inl ⟨ok45, denFn_sound tt_ok mix Try.func45 (by kernel_rfl) (eq45 a0 a1 w K ▸ h)⟩

/- loop.example/g00008/impl.blockOk -/
def an84 : Ann := (.seq .leaf (.seq (.seq (.reg [(4, none), (4, some (9, [(13, .bool)])), (1, none), (4, some (9, [(18, .bool)])), (1, none), (5, some (9, [(24, .bool)]))]) (.cond (.seq .leaf .leaf) .leaf)) (.seq .leaf (.seq (.reg [(6, none), (7, some (0, [(40, .bool)])), (1, none)]) .leaf))))
def W84 (a0 : Int) (a1_0 : Int) (a1_1 : Int) (w : World) (K : Value → World → Prop) : Prop :=
  LetW (w.alloc (.cells #[.int .i64 a1_0, .int .i64 a1_1] 123)) fun w1 => ∃ n2 : Int, w1.cell? ⟨w.heap.size, 1, none⟩ = some (.int .i64 n2) ∧ JoinW [.bool] (fun J4 => BIf (decide ((n2 : Int) < 0)) (J4 true w1) (∃ n20 : Int, w1.cell? ⟨w.heap.size, 1, none⟩ = some (.int .i64 n20) ∧ J4 (decide ((n20 : Int) > 10)) w1)) (fun (b3 : Bool) w5 => JoinW [.bool] (fun J7 => BIf b3 (J7 true w5) (∃ n19 : Int, w5.cell? ⟨w.heap.size, 0, none⟩ = some (.int .i64 n19) ∧ J7 (decide ((n19 : Int) < 0)) w5)) (fun (b6 : Bool) w8 => JoinW [.bool] (fun J10 => BIf b6 (J10 true w8) (∃ n18 : Int, w8.cell? ⟨w.heap.size, 0, none⟩ = some (.int .i64 n18) ∧ J10 (decide ((n18 : Int) ≥ a0)) w8)) (fun (b9 : Bool) w11 => BIf b9 (K (.bool false) w11) (∃ n12 : Int, w11.cell? ⟨w.heap.size, 1, none⟩ = some (.int .i64 n12) ∧ 0 ≤ (n12 : Int) ∧ ∃ n13 : Int, w11.cell? ⟨w.heap.size, 0, none⟩ = some (.int .i64 n13) ∧ (shlI .i64 1 n12 : Int) ≠ 0 ∧ JoinW [.bool] (fun J15 => BIf ((Int.tmod n13 (shlI .i64 1 n12) : Int) == 0) (∃ n17 : Int, w11.cell? ⟨w.heap.size, 0, none⟩ = some (.int .i64 n17) ∧ J15 (decide ((IntKind.wrap .i64 (n17 + (shlI .i64 1 n12)) : Int) ≤ a0)) w11) (J15 false w11)) (fun (b14 : Bool) w16 => K (.bool b14) w16)))))
theorem eq84 (a0 : Int) (a1_0 : Int) (a1_1 : Int) (w : World) (K : Value → World → Prop) : denFn Try.prog tt Try.f84 an84 [.int .i64 a0, .agg #[.int .i64 a1_0, .int .i64 a1_1]] w K = W84 a0 a1_0 a1_1 w K := by kernel_rfl
theorem ok84 : OkFn Try.prog 84 := ⟨Try.f84, Try.func84, by kernel_rfl, by kernel_rfl⟩
theorem go84 {a0 : Int} {a1_0 : Int} {a1_1 : Int} {w : World} {K : Value → World → Prop} (h : W84 a0 a1_0 a1_1 w K) : CallW Try.prog 84 #[.int .i64 a0, .agg #[.int .i64 a1_0, .int .i64 a1_1]] w K :=
  .inl ⟨ok84, denFn_sound tt_ok mix Try.func84 (by kernel_rfl) (eq84 a0 a1_0 a1_1 w K ▸ h)⟩

/- loop.example/g00008/impl.one -/
def an86 : Ann := (.seq .leaf (.seq (.seq .leaf (.cond (.seq .leaf .leaf) .leaf)) (.seq .leaf .leaf)))
def W86 (a0 : Bool) (w : World) (K : Value → World → Prop) : Prop :=
  BIf a0 (K (.int .u64 1) w) (K (.int .u64 0) w)
theorem eq86 (a0 : Bool) (w : World) (K : Value → World → Prop) : denFn Try.prog tt Try.f86 an86 [.bool a0] w K = W86 a0 w K := by kernel_rfl
theorem ok86 : OkFn Try.prog 86 := ⟨Try.f86, Try.func86, by kernel_rfl, by kernel_rfl⟩
theorem go86 {a0 : Bool} {w : World} {K : Value → World → Prop} (h : W86 a0 w K) : CallW Try.prog 86 #[.bool a0] w K :=
  .inl ⟨ok86, denFn_sound tt_ok mix Try.func86 (by kernel_rfl) (eq86 a0 w K ▸ h)⟩

/- loop.example/g00008/laws.szByteS -/
def an89 : Ann := (.seq .leaf (.seq .leaf (.seq (.seq .leaf (.cond (.seq .leaf .leaf) .leaf)) (.seq .leaf .leaf))))
def W89 (a0 : Sl) (a1 : Int) (w : World) (K : Value → World → Prop) : Prop :=
  BIf (decide ((IntKind.wrap .i64 (a1 - ((a0.len : Nat) : Int)) : Int) < 0)) (K (.int .i64 (-1)) w) (K (.int .i64 (IntKind.wrap .i64 (a1 - ((a0.len : Nat) : Int)))) w)
theorem eq89 (a0 : Sl) (a1 : Int) (w : World) (K : Value → World → Prop) : denFn Try.prog tt Try.f89 an89 [.slice a0.a a0.len a0.cap, .int .i64 a1] w K = W89 a0 a1 w K := by kernel_rfl
theorem ok89 : OkFn Try.prog 89 := ⟨Try.f89, Try.func89, by kernel_rfl, by kernel_rfl⟩
theorem go89 {a0 : Sl} {a1 : Int} {w : World} {K : Value → World → Prop} (h : W89 a0 a1 w K) : CallW Try.prog 89 #[.slice a0.a a0.len a0.cap, .int .i64 a1] w K :=
  .inl ⟨ok89, denFn_sound tt_ok mix Try.func89 (by kernel_rfl) (eq89 a0 a1 w K ▸ h)⟩

/- loop.example/g00008/laws.szFrames -/
def an90 : Ann := (.seq .leaf (.seq .leaf (.seq (.seq .leaf (.cond (.seq .leaf .leaf) .leaf)) (.seq .leaf .leaf))))
def W90 (a0_0 : Int) (a0_1 : Sl) (a1 : Int) (w : World) (K : Value → World → Prop) : Prop :=
  LetW (w.alloc (.cells #[.int .i64 a0_0, .slice a0_1.a a0_1.len a0_1.cap] 56)) fun w1 => ∃ l2 : Sl, w1.cell? ⟨w.heap.size, 1, none⟩ = some (.slice l2.a l2.len l2.cap) ∧ CallW Try.prog 151 #[.slice l2.a l2.len l2.cap, .int .i64 a1] w1 fun v3 w4 => ∃ n5 : Int, v3 = .int .i64 n5 ∧ BIf (decide ((n5 : Int) < 0)) (K (.int .i64 (-1)) w4) (K (.int .i64 n5) w4)
theorem eq90 (a0_0 : Int) (a0_1 : Sl) (a1 : Int) (w : World) (K : Value → World → Prop) : denFn Try.prog tt Try.f90 an90 [.agg #[.int .i64 a0_0, .slice a0_1.a a0_1.len a0_1.cap], .int .i64 a1] w K = W90 a0_0 a0_1 a1 w K := by kernel_rfl
theorem ok90 : OkFn Try.prog 90 := ⟨Try.f90, Try.func90, by kernel_rfl, by kernel_rfl⟩
theorem go90 {a0_0 : Int} {a0_1 : Sl} {a1 : Int} {w : World} {K : Value → World → Prop} (h : W90 a0_0 a0_1 a1 w K) : CallW Try.prog 90 #[.agg #[.int .i64 a0_0, .slice a0_1.a a0_1.len a0_1.cap], .int .i64 a1] w K :=
  .inl ⟨ok90, denFn_sound tt_ok mix Try.func90 (by kernel_rfl) (eq90 a0_0 a0_1 a1 w K ▸ h)⟩

/- loop.example/g00008/spec.l9Space -/
def an91 : Ann := (.seq .leaf (.seq (.seq .leaf (.cond (.seq .leaf .leaf) .leaf)) (.seq (.drawT [0, 1, 0, 4, 12, 0, 32, 96, 224, 0, 1023, 2047, 2047, 8191, 16383] [0, 1, 2, 3, 5, 6, 7, 9] (.alt [4] (.alt [8] (.alt [10, 11, 12, 13, 14] .leaf .stop) .stop) (.alt [8] (.alt [4] (.alt [10, 11, 12, 13, 14] .leaf .stop) .stop) .stop))) .leaf)))
def W91 (a0_0 : Sl) (a0_1 : Int) (a0_2 : Sl) (a1 : Int) (w : World) (K : Value → World → Prop) : Prop :=
  LetW (w.alloc (.cells #[.slice a0_0.a a0_0.len a0_0.cap, .int .i64 a0_1, .slice a0_2.a a0_2.len a0_2.cap] 65)) fun w1 => ∃ l2 : Sl, w1.cell? ⟨w.heap.size, 0, none⟩ = some (.slice l2.a l2.len l2.cap) ∧ ∃ n3 : Int, w1.cell? ⟨w.heap.size, 1, none⟩ = some (.int .i64 n3) ∧ ∃ l4 : Sl, w1.cell? ⟨w.heap.size, 2, none⟩ = some (.slice l4.a l4.len l4.cap) ∧ CallW Try.prog 99 #[.agg #[.slice l2.a l2.len l2.cap, .int .i64 n3, .slice l4.a l4.len l4.cap]] w1 fun v5 w6 => ∃ b7 : Bool, v5 = .bool b7 ∧ BIf (!b7) (LetW (w6.alloc (.cells #[] 2)) fun w8 => K (.tuple #[.slice (some ⟨w6.heap.size, 0, none⟩) 0 0, .bool false]) w8) (∃ l9 : Sl, w6.drew.cell? ⟨w.heap.size, 0, none⟩ = some (.slice l9.a l9.len l9.cap) ∧ ∃ n10 : Int, w6.drew.cell? ⟨w.heap.size, 1, none⟩ = some (.int .i64 n10) ∧ ∃ l11 : Sl, w6.drew.cell? ⟨w.heap.size, 2, none⟩ = some (.slice l11.a l11.len l11.cap) ∧ ∃ n12 : Int, w6.drew.cell? ⟨w.heap.size, 1, none⟩ = some (.int .i64 n12) ∧ (CallW Try.prog 153 #[.agg #[.int .i64 n10, .slice l11.a l11.len l11.cap]] w6.drew fun v26 w27 => ∃ l28 : Sl, v26 = .slice l28.a l28.len l28.cap ∧ (∃ n29 : Int, w27.cell? ⟨w.heap.size, 1, none⟩ = some (.int .i64 n29) ∧ (.int .i64 n29 : Value) = (.int .i64 n12 : Value)) ∧ (∃ l30 : Sl, w27.cell? ⟨w.heap.size, 0, none⟩ = some (.slice l30.a l30.len l30.cap) ∧ (.slice l30.a l30.len l30.cap : Value) = (.slice l9.a l9.len l9.cap : Value)) ∧ (0 ≤ (n12 : Int) ∧ (n12 : Int) ≤ (n12 : Int) ∧ (n12 : Int) * 1 ≤ (140737488355328 : Int) ∧ 0 < 1 ∧ LetW (w27.alloc (.cells ⟨zerosOf ti4.zero (Int.toNat n12)⟩ 4)) fun w31 => (∃ n32 : Int, w31.cell? ⟨w.heap.size, 1, none⟩ = some (.int .i64 n32) ∧ ∃ l33 : Sl, w31.cell? ⟨w.heap.size, 2, none⟩ = some (.slice l33.a l33.len l33.cap) ∧ (.agg #[.int .i64 n32, .slice l33.a l33.len l33.cap] : Value) = (.agg #[.int .i64 n10, .slice l11.a l11.len l11.cap] : Value)) ∧ (∃ l34 : Sl, w31.cell? ⟨w.heap.size, 0, none⟩ = some (.slice l34.a l34.len l34.cap) ∧ (.slice l34.a l34.len l34.cap : Value) = (.slice l9.a l9.len l9.cap : Value)) ∧ (CallW Try.prog 152 #[.slice l9.a l9.len l9.cap, .slice l28.a l28.len l28.cap, .slice (some ⟨w27.heap.size, 0, none⟩) (Int.toNat n12) (Int.toNat n12), .int .i64 a1, .int .i64 2] w31 fun v35 w36 => ∃ l37 : Sl, ∃ b38 : Bool, v35 = .tuple #[.slice l37.a l37.len l37.cap, .bool b38] ∧ K (.tuple #[.slice l37.a l37.len l37.cap, .bool b38]) w36) ∧ (True)) ∧ (True)) ∧ ((0 ≤ (n12 : Int) ∧ (n12 : Int) ≤ (n12 : Int) ∧ (n12 : Int) * 1 ≤ (140737488355328 : Int) ∧ 0 < 1 ∧ LetW (w6.drew.alloc (.cells ⟨zerosOf ti4.zero (Int.toNat n12)⟩ 4)) fun w13 => (∃ n14 : Int, w13.cell? ⟨w.heap.size, 1, none⟩ = some (.int .i64 n14) ∧ ∃ l15 : Sl, w13.cell? ⟨w.heap.size, 2, none⟩ = some (.slice l15.a l15.len l15.cap) ∧ (.agg #[.int .i64 n14, .slice l15.a l15.len l15.cap] : Value) = (.agg #[.int .i64 n10, .slice l11.a l11.len l11.cap] : Value)) ∧ (∃ l16 : Sl, w13.cell? ⟨w.heap.size, 0, none⟩ = some (.slice l16.a l16.len l16.cap) ∧ (.slice l16.a l16.len l16.cap : Value) = (.slice l9.a l9.len l9.cap : Value)) ∧ (CallW Try.prog 153 #[.agg #[.int .i64 n10, .slice l11.a l11.len l11.cap]] w13 fun v17 w18 => ∃ l19 : Sl, v17 = .slice l19.a l19.len l19.cap ∧ (∃ n20 : Int, w18.cell? ⟨w.heap.size, 1, none⟩ = some (.int .i64 n20) ∧ (.int .i64 n20 : Value) = (.int .i64 n12 : Value)) ∧ (∃ l21 : Sl, w18.cell? ⟨w.heap.size, 0, none⟩ = some (.slice l21.a l21.len l21.cap) ∧ (.slice l21.a l21.len l21.cap : Value) = (.slice l9.a l9.len l9.cap : Value)) ∧ (CallW Try.prog 152 #[.slice l9.a l9.len l9.cap, .slice l19.a l19.len l19.cap, .slice (some ⟨w6.drew.heap.size, 0, none⟩) (Int.toNat n12) (Int.toNat n12), .int .i64 a1, .int .i64 2] w18 fun v22 w23 => ∃ l24 : Sl, ∃ b25 : Bool, v22 = .tuple #[.slice l24.a l24.len l24.cap, .bool b25] ∧ K (.tuple #[.slice l24.a l24.len l24.cap, .bool b25]) w23) ∧ (True)) ∧ (True)) ∧ (True)))
theorem eq91 (a0_0 : Sl) (a0_1 : Int) (a0_2 : Sl) (a1 : Int) (w : World) (K : Value → World → Prop) : denFn Try.prog tt Try.f91 an91 [.agg #[.slice a0_0.a a0_0.len a0_0.cap, .int .i64 a0_1, .slice a0_2.a a0_2.len a0_2.cap], .int .i64 a1] w K = W91 a0_0 a0_1 a0_2 a1 w K := by kernel_rfl
theorem ok91 : OkFn Try.prog 91 := ⟨Try.f91, Try.func91, by kernel_rfl, by kernel_rfl⟩
theorem go91 {a0_0 : Sl} {a0_1 : Int} {a0_2 : Sl} {a1 : Int} {w : World} {K : Value → World → Prop} (h : W91 a0_0 a0_1 a0_2 a1 w K) : CallW Try.prog 91 #[.agg #[.slice a0_0.a a0_0.len a0_0.cap, .int .i64 a0_1, .slice a0_2.a a0_2.len a0_2.cap], .int .i64 a1] w K :=
  .inl ⟨ok91, denFn_sound tt_ok mix Try.func91 (by kernel_rfl) (eq91 a0_0 a0_1 a0_2 a1 w K ▸ h)⟩

/- loop.example/g00008/laws.toByteS -/
def an92 : Ann := (.seq .leaf (.seq .leaf (.seq (.seq .leaf (.in_ (.loop 9 [(4, .int .i64)] (.seq (.seq .leaf (.cond .leaf .leaf)) (.seq (.in_ .leaf) .leaf))))) (.seq .leaf .leaf))))
def W92 (a0 : Sl) (w : World) (K : Value → World → Prop) : Prop :=
  0 ≤ ((a0.len : Nat) : Int) ∧ ((a0.len : Nat) : Int) ≤ ((a0.len : Nat) : Int) ∧ ((a0.len : Nat) : Int) * 1 ≤ (140737488355328 : Int) ∧ 0 < 1 ∧ LetW (w.alloc (.cells ⟨zerosOf ti5.zero (Int.toNat ((a0.len : Nat) : Int))⟩ 5)) fun w1 => LoopW [.int .i64] (fun J3 => fun (n2 : Int) w4 => BIf (decide ((n2 : Int) < ((a0.len : Nat) : Int))) (0 ≤ (n2 : Int) ∧ (n2 : Int) < ((a0.len : Nat) : Int) ∧ ∃ q5 : Addr, (a0.a : Option Addr) = some q5 ∧ ∃ n6 : Int, w4.cell? (q5.add (Int.toNat n2 * 1)) = some (.int .u8 n6) ∧ 0 ≤ (n2 : Int) ∧ (n2 : Int) < ((Int.toNat ((a0.len : Nat) : Int) : Nat) : Int) ∧ ∃ q7 : Addr, (some ⟨w.heap.size, 0, none⟩ : Option Addr) = some q7 ∧ May w4 (q7.add (Int.toNat n2 * 1)) ∧ LetW (w4.setCell (q7.add (Int.toNat n2 * 1)) (.int .u8 n6)) fun w8 => J3 (IntKind.wrap .i64 (n2 + 1)) w8) (K (.slice (some ⟨w.heap.size, 0, none⟩) (Int.toNat ((a0.len : Nat) : Int)) (Int.toNat ((a0.len : Nat) : Int))) w4)) ((0 : Int), ()) w1
theorem eq92 (a0 : Sl) (w : World) (K : Value → World → Prop) : denFn Try.prog tt Try.f92 an92 [.slice a0.a a0.len a0.cap] w K = W92 a0 w K := by kernel_rfl
theorem ok92 : OkFn Try.prog 92 := ⟨Try.f92, Try.func92, by kernel_rfl, by kernel_rfl⟩
theorem go92 {a0 : Sl} {w : World} {K : Value → World → Prop} (h : W92 a0 w K) : CallW Try.prog 92 #[.slice a0.a a0.len a0.cap] w K :=
  .inl ⟨ok92, denFn_sound tt_ok mix Try.func92 (by kernel_rfl) (eq92 a0 w K ▸ h)⟩

/- loop.example/g00008/laws.toFrames -/
def an93 : Ann := (.seq .leaf (.seq .leaf (.seq .leaf (.seq .leaf (.seq .leaf .leaf)))))
def W93 (a0_0 : Int) (a0_1 : Sl) (w : World) (K : Value → World → Prop) : Prop :=
  LetW (w.alloc (.cells #[.int .i64 a0_0, .slice a0_1.a a0_1.len a0_1.cap] 56)) fun w1 => LetW (w1.alloc (.cells #[.int .i64 0, .slice none 0 0] 63)) fun w2 => LetW (w2.alloc (.cells #[.int .i64 0, .slice none 0 0] 63)) fun w3 => ∃ n4 : Int, w3.cell? ⟨w.heap.size, 0, none⟩ = some (.int .i64 n4) ∧ May w3 ⟨w2.heap.size, 0, none⟩ ∧ LetW (w3.setCell ⟨w2.heap.size, 0, none⟩ (.int .i64 n4)) fun w5 => ∃ l6 : Sl, w5.cell? ⟨w.heap.size, 1, none⟩ = some (.slice l6.a l6.len l6.cap) ∧ CallW Try.prog 154 #[.slice l6.a l6.len l6.cap] w5 fun v7 w8 => ∃ l9 : Sl, v7 = .slice l9.a l9.len l9.cap ∧ May w8 ⟨w2.heap.size, 1, none⟩ ∧ LetW (w8.setCell ⟨w2.heap.size, 1, none⟩ (.slice l9.a l9.len l9.cap)) fun w10 => ∃ n11 : Int, w10.cell? ⟨w2.heap.size, 0, none⟩ = some (.int .i64 n11) ∧ ∃ l12 : Sl, w10.cell? ⟨w2.heap.size, 1, none⟩ = some (.slice l12.a l12.len l12.cap) ∧ MayN w10 ⟨w1.heap.size, 0, none⟩ 2 ∧ LetW (puts w10 ⟨w1.heap.size, 0, none⟩ 0 [.int .i64 n11, .slice l12.a l12.len l12.cap]) fun w13 => ∃ n14 : Int, w13.cell? ⟨w1.heap.size, 0, none⟩ = some (.int .i64 n14) ∧ ∃ l15 : Sl, w13.cell? ⟨w1.heap.size, 1, none⟩ = some (.slice l15.a l15.len l15.cap) ∧ K (.agg #[.int .i64 n14, .slice l15.a l15.len l15.cap]) w13
theorem eq93 (a0_0 : Int) (a0_1 : Sl) (w : World) (K : Value → World → Prop) : denFn Try.prog tt Try.f93 an93 [.agg #[.int .i64 a0_0, .slice a0_1.a a0_1.len a0_1.cap]] w K = W93 a0_0 a0_1 w K := by kernel_rfl
theorem ok93 : OkFn Try.prog 93 := ⟨Try.f93, Try.func93, by kernel_rfl, by kernel_rfl⟩
theorem go93 {a0_0 : Int} {a0_1 : Sl} {w : World} {K : Value → World → Prop} (h : W93 a0_0 a0_1 w K) : CallW Try.prog 93 #[.agg #[.int .i64 a0_0, .slice a0_1.a a0_1.len a0_1.cap]] w K :=
  .inl ⟨ok93, denFn_sound tt_ok mix Try.func93 (by kernel_rfl) (eq93 a0_0 a0_1 w K ▸ h)⟩

/- loop.example/g00008/impl.PoolOk -/
def an94 : Ann := (.seq .leaf (.seq (.reg [(4, none), (4, some (2, [(10, .bool)])), (1, none), (9, some (0, [(20, .bool)])), (1, none)]) .leaf))
def W94 (a0_0 : Sl) (a0_1 : Int) (a0_2 : Sl) (w : World) (K : Value → World → Prop) : Prop :=
  LetW (w.alloc (.cells #[.slice a0_0.a a0_0.len a0_0.cap, .int .i64 a0_1, .slice a0_2.a a0_2.len a0_2.cap] 65)) fun w1 => ∃ l2 : Sl, w1.cell? ⟨w.heap.size, 0, none⟩ = some (.slice l2.a l2.len l2.cap) ∧ CallW Try.prog 155 #[.slice l2.a l2.len l2.cap] w1 fun v3 w4 => ∃ b5 : Bool, v3 = .bool b5 ∧ JoinW [.bool] (fun J7 => BIf b5 (∃ n14 : Int, w4.cell? ⟨w.heap.size, 1, none⟩ = some (.int .i64 n14) ∧ ∃ l15 : Sl, w4.cell? ⟨w.heap.size, 2, none⟩ = some (.slice l15.a l15.len l15.cap) ∧ CallW Try.prog 134 #[.agg #[.int .i64 n14, .slice l15.a l15.len l15.cap]] w4 fun v16 w17 => ∃ b18 : Bool, v16 = .bool b18 ∧ J7 b18 w17) (J7 false w4)) (fun (b6 : Bool) w8 => JoinW [.bool] (fun J10 => BIf b6 (∃ n12 : Int, w8.cell? ⟨w.heap.size, 1, none⟩ = some (.int .i64 n12) ∧ ∃ l13 : Sl, w8.cell? ⟨w.heap.size, 0, none⟩ = some (.slice l13.a l13.len l13.cap) ∧ (256 : Int) ≠ 0 ∧ J10 ((n12 : Int) == (IntKind.wrap .i64 (Int.tdiv ((l13.len : Nat) : Int) 256))) w8) (J10 false w8)) (fun (b9 : Bool) w11 => K (.bool b9) w11))
theorem eq94 (a0_0 : Sl) (a0_1 : Int) (a0_2 : Sl) (w : World) (K : Value → World → Prop) : denFn Try.prog tt Try.f94 an94 [.agg #[.slice a0_0.a a0_0.len a0_0.cap, .int .i64 a0_1, .slice a0_2.a a0_2.len a0_2.cap]] w K = W94 a0_0 a0_1 a0_2 w K := by kernel_rfl
theorem ok94 : OkFn Try.prog 94 := ⟨Try.f94, Try.func94, by kernel_rfl, by kernel_rfl⟩
theorem go94 {a0_0 : Sl} {a0_1 : Int} {a0_2 : Sl} {w : World} {K : Value → World → Prop} (h : W94 a0_0 a0_1 a0_2 w K) : CallW Try.prog 94 #[.agg #[.slice a0_0.a a0_0.len a0_0.cap, .int .i64 a0_1, .slice a0_2.a a0_2.len a0_2.cap]] w K :=
  .inl ⟨ok94, denFn_sound tt_ok mix Try.func94 (by kernel_rfl) (eq94 a0_0 a0_1 a0_2 w K ▸ h)⟩

/- loop.example/g00008/impl.poolOf -/
def an95 : Ann := (.seq .leaf (.seq (.draw [0, 1, 3, 0, 8, 31, 63, 127, 255] [0, 1, 3, 4, 2, 5, 6, 7, 8]) .leaf))
def W95 (a0_0 : Sl) (a0_1 : Int) (a0_2 : Sl) (w : World) (K : Value → World → Prop) : Prop :=
  LetW (w.alloc (.cells #[.slice a0_0.a a0_0.len a0_0.cap, .int .i64 a0_1, .slice a0_2.a a0_2.len a0_2.cap] 65)) fun w1 => ∃ l2 : Sl, w1.drew.cell? ⟨w.heap.size, 0, none⟩ = some (.slice l2.a l2.len l2.cap) ∧ ∃ n3 : Int, w1.drew.cell? ⟨w.heap.size, 1, none⟩ = some (.int .i64 n3) ∧ ∃ l4 : Sl, w1.drew.cell? ⟨w.heap.size, 2, none⟩ = some (.slice l4.a l4.len l4.cap) ∧ CallW Try.prog 156 #[.slice l2.a l2.len l2.cap] w1.drew fun v5 w6 => ∃ l7 : Sl, v5 = .slice l7.a l7.len l7.cap ∧ (∃ n8 : Int, w6.cell? ⟨w.heap.size, 1, none⟩ = some (.int .i64 n8) ∧ ∃ l9 : Sl, w6.cell? ⟨w.heap.size, 2, none⟩ = some (.slice l9.a l9.len l9.cap) ∧ (.agg #[.int .i64 n8, .slice l9.a l9.len l9.cap] : Value) = (.agg #[.int .i64 n3, .slice l4.a l4.len l4.cap] : Value)) ∧ CallW Try.prog 149 #[.agg #[.int .i64 n3, .slice l4.a l4.len l4.cap]] w6 fun v10 w11 => ∃ n12 : Int, ∃ l13 : Sl, v10 = .agg #[.int .i64 n12, .slice l13.a l13.len l13.cap] ∧ LetW (w11.alloc (.cells #[.slice l7.a l7.len l7.cap, .int .i64 n12, .slice l13.a l13.len l13.cap] 170)) fun w14 => K (.pointer (some ⟨w11.heap.size, 0, none⟩)) w14
theorem eq95 (a0_0 : Sl) (a0_1 : Int) (a0_2 : Sl) (w : World) (K : Value → World → Prop) : denFn Try.prog tt Try.f95 an95 [.agg #[.slice a0_0.a a0_0.len a0_0.cap, .int .i64 a0_1, .slice a0_2.a a0_2.len a0_2.cap]] w K = W95 a0_0 a0_1 a0_2 w K := by kernel_rfl
theorem ok95 : OkFn Try.prog 95 := ⟨Try.f95, Try.func95, by kernel_rfl, by kernel_rfl⟩
theorem go95 {a0_0 : Sl} {a0_1 : Int} {a0_2 : Sl} {w : World} {K : Value → World → Prop} (h : W95 a0_0 a0_1 a0_2 w K) : CallW Try.prog 95 #[.agg #[.slice a0_0.a a0_0.len a0_0.cap, .int .i64 a0_1, .slice a0_2.a a0_2.len a0_2.cap]] w K :=
  .inl ⟨ok95, denFn_sound tt_ok mix Try.func95 (by kernel_rfl) (eq95 a0_0 a0_1 a0_2 w K ▸ h)⟩

/- (*loop.example/g00008/impl.pool).tables -/
def an96 : Ann := (.seq .leaf (.seq .leaf (.seq .leaf (.seq .leaf (.seq .leaf (.seq .leaf (.seq (.seq .leaf (.cond (.seq .leaf .leaf) .leaf)) (.seq .leaf .leaf))))))))
def W96 (a0 : Option Addr) (a1 : Int) (w : World) (K : Value → World → Prop) : Prop :=
  LetW (w.alloc (.cells #[.pointer a0] 135)) fun w1 => ∃ p2 : Option Addr, w1.cell? ⟨w.heap.size, 0, none⟩ = some (.pointer p2) ∧ ∃ p3 : Addr, (p2 : Option Addr) = some p3 ∧ ∃ n4 : Int, w1.cell? ((p3.add 1).add 0) = some (.int .i64 n4) ∧ ∃ l5 : Sl, w1.cell? ((p3.add 1).add 1) = some (.slice l5.a l5.len l5.cap) ∧ CallW Try.prog 150 #[.agg #[.int .i64 n4, .slice l5.a l5.len l5.cap]] w1 fun v6 w7 => ∃ l8 : Sl, v6 = .slice l8.a l8.len l8.cap ∧ LetW (w7.alloc (.cells #[.slice none 0 0] 182)) fun w9 => May w9 ⟨w7.heap.size, 0, none⟩ ∧ LetW (w9.setCell ⟨w7.heap.size, 0, none⟩ (.slice l8.a l8.len l8.cap)) fun w10 => LetW (w10.alloc (.map #[] 0)) fun w11 => LetW (w11.alloc (.cells #[.map none] 189)) fun w12 => May w12 ⟨w11.heap.size, 0, none⟩ ∧ LetW (w12.setCell ⟨w11.heap.size, 0, none⟩ (.map (some w10.heap.size))) fun w13 => LetW (w13.alloc (.cells #[.slice none 0 0] 45)) fun w14 => LetW (w14.alloc (.cells #[.nilFunc] 190)) fun w15 => May w15 ⟨w14.heap.size, 0, none⟩ ∧ LetW (w15.setCell ⟨w14.heap.size, 0, none⟩ (.func (.func 157) #[] #[.pointer (some ⟨w7.heap.size, 0, none⟩), .pointer (some ⟨w11.heap.size, 0, none⟩), .pointer (some ⟨w13.heap.size, 0, none⟩), .pointer (some ⟨w.heap.size, 0, none⟩), .pointer (some ⟨w14.heap.size, 0, none⟩)])) fun w16 => ∃ f17 : FnV, w16.cell? ⟨w14.heap.size, 0, none⟩ = some (.func (.func f17.g) ⟨f17.x⟩ ⟨f17.c⟩) ∧ CallW Try.prog f17.g ⟨f17.x ++ ([.int .i64 a1, .int .i64 2] ++ f17.c)⟩ w16 fun v18 w19 => ∃ b20 : Bool, v18 = .bool b20 ∧ BIf (!b20) (K (.slice none 0 0) w19) (∃ l21 : Sl, w19.cell? ⟨w13.heap.size, 0, none⟩ = some (.slice l21.a l21.len l21.cap) ∧ K (.slice l21.a l21.len l21.cap) w19)
theorem eq96 (a0 : Option Addr) (a1 : Int) (w : World) (K : Value → World → Prop) : denFn Try.prog tt Try.f96 an96 [.pointer a0, .int .i64 a1] w K = W96 a0 a1 w K := by kernel_rfl
theorem ok96 : OkFn Try.prog 96 := ⟨Try.f96, Try.func96, by kernel_rfl, by kernel_rfl⟩
theorem go96 {a0 : Option Addr} {a1 : Int} {w : World} {K : Value → World → Prop} (h : W96 a0 a1 w K) : CallW Try.prog 96 #[.pointer a0, .int .i64 a1] w K :=
  .inl ⟨ok96, denFn_sound tt_ok mix Try.func96 (by kernel_rfl) (eq96 a0 a1 w K ▸ h)⟩

/- loop.example/g00008/laws.eqByteS -/
def an97 : Ann := (.seq .leaf (.seq (.seq .leaf (.cond (.seq .leaf .leaf) .leaf)) (.seq (.seq .leaf (.in_ (.loop 3 [(5, .int .i64)] (.seq (.seq .leaf (.cond .leaf .leaf)) (.seq (.in_ (.seq (.draw [0, 0, 3, 7, 0, 0, 48, 112, 255] [0, 1, 2, 3, 4, 5, 6, 7, 8]) (.cond (.seq .leaf .leaf) .leaf))) .leaf))))) (.seq .leaf .leaf))))
def W97 (a0 : Sl) (a1 : Sl) (w : World) (K : Value → World → Prop) : Prop :=
  BIf ((((a0.len : Nat) : Int) : Int) != ((a1.len : Nat) : Int)) (K (.bool false) w) (LoopW [.int .i64] (fun J2 => fun (n1 : Int) w3 => BIf (decide ((n1 : Int) < ((a0.len : Nat) : Int))) (0 ≤ (n1 : Int) ∧ (n1 : Int) < ((a0.len : Nat) : Int) ∧ ∃ q4 : Addr, (a0.a : Option Addr) = some q4 ∧ ∃ n5 : Int, w3.drew.cell? (q4.add (Int.toNat n1 * 1)) = some (.int .u8 n5) ∧ 0 ≤ (n1 : Int) ∧ (n1 : Int) < ((a1.len : Nat) : Int) ∧ ∃ q6 : Addr, (a1.a : Option Addr) = some q6 ∧ ∃ n7 : Int, w3.drew.cell? (q6.add (Int.toNat n1 * 1)) = some (.int .u8 n7) ∧ BIf ((n5 : Int) != n7) (K (.bool false) w3.drew) (J2 (IntKind.wrap .i64 (n1 + 1)) w3.drew)) (K (.bool true) w3)) ((0 : Int), ()) w)
theorem eq97 (a0 : Sl) (a1 : Sl) (w : World) (K : Value → World → Prop) : denFn Try.prog tt Try.f97 an97 [.slice a0.a a0.len a0.cap, .slice a1.a a1.len a1.cap] w K = W97 a0 a1 w K := by kernel_rfl
theorem ok97 : OkFn Try.prog 97 := ⟨Try.f97, Try.func97, by kernel_rfl, by kernel_rfl⟩
theorem go97 {a0 : Sl} {a1 : Sl} {w : World} {K : Value → World → Prop} (h : W97 a0 a1 w K) : CallW Try.prog 97 #[.slice a0.a a0.len a0.cap, .slice a1.a a1.len a1.cap] w K :=
  .inl ⟨ok97, denFn_sound tt_ok mix Try.func97 (by kernel_rfl) (eq97 a0 a1 w K ▸ h)⟩

/- loop.example/g00008/laws.eqFrames -/
def an98 : Ann := (.seq .leaf (.seq (.seq .leaf (.cond (.seq .leaf .leaf) .leaf)) (.seq (.seq .leaf (.cond (.seq .leaf .leaf) .leaf)) (.seq .leaf .leaf))))
def W98 (a0_0 : Int) (a0_1 : Sl) (a1_0 : Int) (a1_1 : Sl) (w : World) (K : Value → World → Prop) : Prop :=
  LetW (w.alloc (.cells #[.int .i64 a0_0, .slice a0_1.a a0_1.len a0_1.cap] 63)) fun w1 => LetW (w1.alloc (.cells #[.int .i64 a1_0, .slice a1_1.a a1_1.len a1_1.cap] 63)) fun w2 => ∃ n3 : Int, w2.cell? ⟨w.heap.size, 0, none⟩ = some (.int .i64 n3) ∧ ∃ n4 : Int, w2.cell? ⟨w1.heap.size, 0, none⟩ = some (.int .i64 n4) ∧ BIf ((n3 : Int) != n4) (K (.bool false) w2) (∃ l5 : Sl, w2.cell? ⟨w.heap.size, 1, none⟩ = some (.slice l5.a l5.len l5.cap) ∧ ∃ l6 : Sl, w2.cell? ⟨w1.heap.size, 1, none⟩ = some (.slice l6.a l6.len l6.cap) ∧ CallW Try.prog 158 #[.slice l5.a l5.len l5.cap, .slice l6.a l6.len l6.cap] w2 fun v7 w8 => ∃ b9 : Bool, v7 = .bool b9 ∧ BIf (!b9) (K (.bool false) w8) (K (.bool true) w8))
theorem eq98 (a0_0 : Int) (a0_1 : Sl) (a1_0 : Int) (a1_1 : Sl) (w : World) (K : Value → World → Prop) : denFn Try.prog tt Try.f98 an98 [.agg #[.int .i64 a0_0, .slice a0_1.a a0_1.len a0_1.cap], .agg #[.int .i64 a1_0, .slice a1_1.a a1_1.len a1_1.cap]] w K = W98 a0_0 a0_1 a1_0 a1_1 w K := by kernel_rfl
theorem ok98 : OkFn Try.prog 98 := ⟨Try.f98, Try.func98, by kernel_rfl, by kernel_rfl⟩
theorem go98 {a0_0 : Int} {a0_1 : Sl} {a1_0 : Int} {a1_1 : Sl} {w : World} {K : Value → World → Prop} (h : W98 a0_0 a0_1 a1_0 a1_1 w K) : CallW Try.prog 98 #[.agg #[.int .i64 a0_0, .slice a0_1.a a0_1.len a0_1.cap], .agg #[.int .i64 a1_0, .slice a1_1.a a1_1.len a1_1.cap]] w K :=
  .inl ⟨ok98, denFn_sound tt_ok mix Try.func98 (by kernel_rfl) (eq98 a0_0 a0_1 a1_0 a1_1 w K ▸ h)⟩

/- loop.example/g00008/spec.PoolOk -/
def an99 : Ann := (.seq .leaf (.seq (.reg [(4, none), (4, some (2, [(10, .bool)])), (1, none), (9, some (0, [(20, .bool)])), (1, none)]) .leaf))
def W99 (a0_0 : Sl) (a0_1 : Int) (a0_2 : Sl) (w : World) (K : Value → World → Prop) : Prop :=
  LetW (w.alloc (.cells #[.slice a0_0.a a0_0.len a0_0.cap, .int .i64 a0_1, .slice a0_2.a a0_2.len a0_2.cap] 65)) fun w1 => ∃ l2 : Sl, w1.cell? ⟨w.heap.size, 0, none⟩ = some (.slice l2.a l2.len l2.cap) ∧ CallW Try.prog 159 #[.slice l2.a l2.len l2.cap] w1 fun v3 w4 => ∃ b5 : Bool, v3 = .bool b5 ∧ JoinW [.bool] (fun J7 => BIf b5 (∃ n14 : Int, w4.cell? ⟨w.heap.size, 1, none⟩ = some (.int .i64 n14) ∧ ∃ l15 : Sl, w4.cell? ⟨w.heap.size, 2, none⟩ = some (.slice l15.a l15.len l15.cap) ∧ CallW Try.prog 160 #[.agg #[.int .i64 n14, .slice l15.a l15.len l15.cap]] w4 fun v16 w17 => ∃ b18 : Bool, v16 = .bool b18 ∧ J7 b18 w17) (J7 false w4)) (fun (b6 : Bool) w8 => JoinW [.bool] (fun J10 => BIf b6 (∃ n12 : Int, w8.cell? ⟨w.heap.size, 1, none⟩ = some (.int .i64 n12) ∧ ∃ l13 : Sl, w8.cell? ⟨w.heap.size, 0, none⟩ = some (.slice l13.a l13.len l13.cap) ∧ (256 : Int) ≠ 0 ∧ J10 ((n12 : Int) == (IntKind.wrap .i64 (Int.tdiv ((l13.len : Nat) : Int) 256))) w8) (J10 false w8)) (fun (b9 : Bool) w11 => K (.bool b9) w11))
theorem eq99 (a0_0 : Sl) (a0_1 : Int) (a0_2 : Sl) (w : World) (K : Value → World → Prop) : denFn Try.prog tt Try.f99 an99 [.agg #[.slice a0_0.a a0_0.len a0_0.cap, .int .i64 a0_1, .slice a0_2.a a0_2.len a0_2.cap]] w K = W99 a0_0 a0_1 a0_2 w K := by kernel_rfl
theorem ok99 : OkFn Try.prog 99 := ⟨Try.f99, Try.func99, by kernel_rfl, by kernel_rfl⟩
theorem go99 {a0_0 : Sl} {a0_1 : Int} {a0_2 : Sl} {w : World} {K : Value → World → Prop} (h : W99 a0_0 a0_1 a0_2 w K) : CallW Try.prog 99 #[.agg #[.slice a0_0.a a0_0.len a0_0.cap, .int .i64 a0_1, .slice a0_2.a a0_2.len a0_2.cap]] w K :=
  .inl ⟨ok99, denFn_sound tt_ok mix Try.func99 (by kernel_rfl) (eq99 a0_0 a0_1 a0_2 w K ▸ h)⟩

/- loop.example/g00008/laws.markByteS -/
def an104 : Ann := (.seq .leaf (.seq (.seq .leaf (.in_ (.loop 1 [(1, .int .i64), (5, .int .i64)] (.seq (.seq .leaf (.cond .leaf .leaf)) (.seq (.in_ (.seq .leaf .leaf)) .leaf))))) (.seq .leaf .leaf)))
def W104 (a0 : Sl) (a1 : Int) (w : World) (K : Value → World → Prop) : Prop :=
  LoopW [.int .i64, .int .i64] (fun J3 => fun (n1 : Int) (n2 : Int) w4 => BIf (decide ((n2 : Int) < ((a0.len : Nat) : Int))) (0 ≤ (n2 : Int) ∧ (n2 : Int) < ((a0.len : Nat) : Int) ∧ ∃ q5 : Addr, (a0.a : Option Addr) = some q5 ∧ May w4 (q5.add (Int.toNat n2 * 1)) ∧ LetW (w4.setCell (q5.add (Int.toNat n2 * 1)) (.int .u8 (IntKind.wrap .u8 n1))) fun w6 => J3 (IntKind.wrap .i64 (n1 + 1)) (IntKind.wrap .i64 (n2 + 1)) w6) (K (.int .i64 n1) w4)) ((a1 : Int), ((0 : Int), ())) w
theorem eq104 (a0 : Sl) (a1 : Int) (w : World) (K : Value → World → Prop) : denFn Try.prog tt Try.f104 an104 [.slice a0.a a0.len a0.cap, .int .i64 a1] w K = W104 a0 a1 w K := by kernel_rfl
theorem ok104 : OkFn Try.prog 104 := ⟨Try.f104, Try.func104, by kernel_rfl, by kernel_rfl⟩
theorem go104 {a0 : Sl} {a1 : Int} {w : World} {K : Value → World → Prop} (h : W104 a0 a1 w K) : CallW Try.prog 104 #[.slice a0.a a0.len a0.cap, .int .i64 a1] w K :=
  .inl ⟨ok104, denFn_sound tt_ok mix Try.func104 (by kernel_rfl) (eq104 a0 a1 w K ▸ h)⟩

/- loop.example/g00008/laws.markFrames -/
def an105 : Ann := (.seq .leaf (.seq .leaf (.seq .leaf .leaf)))
def W105 (a0_0 : Int) (a0_1 : Sl) (a1 : Int) (w : World) (K : Value → World → Prop) : Prop :=
  LetW (w.alloc (.cells #[.int .i64 a0_0, .slice a0_1.a a0_1.len a0_1.cap] 63)) fun w1 => ∃ l2 : Sl, w1.cell? ⟨w.heap.size, 1, none⟩ = some (.slice l2.a l2.len l2.cap) ∧ CallW Try.prog 164 #[.slice l2.a l2.len l2.cap, .int .i64 a1] w1 fun v3 w4 => ∃ n5 : Int, v3 = .int .i64 n5 ∧ K (.int .i64 n5) w4
theorem eq105 (a0_0 : Int) (a0_1 : Sl) (a1 : Int) (w : World) (K : Value → World → Prop) : denFn Try.prog tt Try.f105 an105 [.agg #[.int .i64 a0_0, .slice a0_1.a a0_1.len a0_1.cap], .int .i64 a1] w K = W105 a0_0 a0_1 a1 w K := by kernel_rfl
theorem ok105 : OkFn Try.prog 105 := ⟨Try.f105, Try.func105, by kernel_rfl, by kernel_rfl⟩
theorem go105 {a0_0 : Int} {a0_1 : Sl} {a1 : Int} {w : World} {K : Value → World → Prop} (h : W105 a0_0 a0_1 a1 w K) : CallW Try.prog 105 #[.agg #[.int .i64 a0_0, .slice a0_1.a a0_1.len a0_1.cap], .int .i64 a1] w K :=
  .inl ⟨ok105, denFn_sound tt_ok mix Try.func105 (by kernel_rfl) (eq105 a0_0 a0_1 a1 w K ▸ h)⟩

/- loop.example/g00008/spec.Leaves -/
def an108 : Ann := (.seq .leaf (.seq (.seq .leaf (.cond (.seq .leaf .leaf) .leaf)) (.seq .leaf .leaf)))
def W108 (a0 : Sl) (a1 : Int) (w : World) (K : Value → World → Prop) : Prop :=
  CallW Try.prog 159 #[.slice a0.a a0.len a0.cap] w fun v1 w2 => ∃ b3 : Bool, v1 = .bool b3 ∧ BIf (!b3) (LetW (w2.alloc (.cells #[] 91)) fun w4 => K (.slice (some ⟨w2.heap.size, 0, none⟩) 0 0) w4) (CallW Try.prog 166 #[.slice a0.a a0.len a0.cap, .int .i64 a1, .int .i64 2, .int .i64 0] w2 fun v5 w6 => ∃ l7 : Sl, v5 = .slice l7.a l7.len l7.cap ∧ K (.slice l7.a l7.len l7.cap) w6)
theorem eq108 (a0 : Sl) (a1 : Int) (w : World) (K : Value → World → Prop) : denFn Try.prog tt Try.f108 an108 [.slice a0.a a0.len a0.cap, .int .i64 a1] w K = W108 a0 a1 w K := by kernel_rfl
theorem ok108 : OkFn Try.prog 108 := ⟨Try.f108, Try.func108, by kernel_rfl, by kernel_rfl⟩
theorem go108 {a0 : Sl} {a1 : Int} {w : World} {K : Value → World → Prop} (h : W108 a0 a1 w K) : CallW Try.prog 108 #[.slice a0.a a0.len a0.cap, .int .i64 a1] w K :=
  .inl ⟨ok108, denFn_sound tt_ok mix Try.func108 (by kernel_rfl) (eq108 a0 a1 w K ▸ h)⟩

/- loop.example/g00008/impl.Leaves -/
def an109 : Ann := (.seq .leaf (.seq (.seq .leaf (.cond (.seq .leaf .leaf) .leaf)) (.seq .leaf (.seq (.seq .leaf (.in_ (.loop 3 [(5, .slice), (6, .int .u64)] (.seq (.seq .leaf (.cond .leaf .leaf)) (.in_ (.seq .leaf (.seq .leaf (.join 451 [(5, .slice)] (.seq (.reg [(4, none), (4, some (483, [(32, .bool)])), (1, none), (4, some (483, [(37, .bool)]))]) (.cond (.seq .leaf .leaf) .leaf)) (.seq .leaf (.seq .leaf (.cond (.seq .leaf (.seq .leaf (.cond (.seq .leaf .leaf) .leaf))) .leaf))))))))))) (.seq .leaf .leaf)))))
def W109 (a0 : Sl) (a1 : Int) (w : World) (K : Value → World → Prop) : Prop :=
  CallW Try.prog 155 #[.slice a0.a a0.len a0.cap] w fun v1 w2 => ∃ b3 : Bool, v1 = .bool b3 ∧ BIf (!b3) (K (.slice none 0 0) w2) (LoopW [.slice, .int .u64] (fun J6 => fun (l4 : Sl) (n5 : Int) w7 => BIf (decide ((n5 : Int) < 8388608)) (CallW Try.prog 167 #[.slice a0.a a0.len a0.cap, .int .i64 a1, .int .u64 n5, .int .i64 0, .bool true] w7 fun v8 w9 => ∃ n10 : Int, ∃ n11 : Int, ∃ n12 : Int, ∃ n13 : Int, ∃ n14 : Int, v8 = .agg #[.int .i64 n10, .int .i64 n11, .int .i64 n12, .int .i64 n13, .int .u64 n14] ∧ LetW (w9.alloc (.cells #[.int .i64 0, .int .i64 0, .int .i64 0, .int .i64 0, .int .u64 0] 93)) fun w15 => MayN w15 ⟨w9.heap.size, 0, none⟩ 5 ∧ LetW (puts w15 ⟨w9.heap.size, 0, none⟩ 0 [.int .i64 n10, .int .i64 n11, .int .i64 n12, .int .i64 n13, .int .u64 n14]) fun w16 => ∃ n17 : Int, w16.cell? ⟨w9.heap.size, 1, none⟩ = some (.int .i64 n17) ∧ 0 ≤ (IntKind.wrap .i64 (8 + (IntKind.wrap .i64 (5 * n17))) : Int) ∧ JoinW [.slice] (fun J19 => ∃ n23 : Int, w16.cell? ⟨w9.heap.size, 0, none⟩ = some (.int .i64 n23) ∧ JoinW [.bool] (fun J25 => BIf ((n23 : Int) == 0) (J25 true w16) (∃ n40 : Int, w16.cell? ⟨w9.heap.size, 0, none⟩ = some (.int .i64 n40) ∧ J25 ((n40 : Int) == 7) w16)) (fun (b24 : Bool) w26 => JoinW [.bool] (fun J28 => BIf b24 (J28 true w26) (∃ n39 : Int, w26.cell? ⟨w9.heap.size, 0, none⟩ = some (.int .i64 n39) ∧ J28 ((n39 : Int) == 8) w26)) (fun (b27 : Bool) w29 => BIf b27 (∃ n30 : Int, w29.cell? ⟨w9.heap.size, 2, none⟩ = some (.int .i64 n30) ∧ CallW Try.prog 168 #[.slice a0.a a0.len a0.cap, .int .i64 n30, .int .i64 8, .bool false] w29 fun v31 w32 => ∃ n33 : Int, ∃ b34 : Bool, v31 = .tuple #[.int .u64 n33, .bool b34] ∧ ∃ n35 : Int, w32.cell? ⟨w9.heap.size, 1, none⟩ = some (.int .i64 n35) ∧ LetW (w32.alloc (.cells #[.int .i64 (IntKind.wrap .i64 n5), .int .i64 n35, .int .u64 n33] 91)) fun w36 => AppendW 91 ti91 l4 ⟨some ⟨w32.heap.size, 0, none⟩, 1, 1⟩ w36 fun l37 w38 => J19 l37 w38) (J19 l4 w29)))) (fun (l18 : Sl) w20 => ∃ n21 : Int, w20.cell? ⟨w9.heap.size, 0, none⟩ = some (.int .i64 n21) ∧ BIf ((n21 : Int) == 3) (∃ n22 : Int, w20.cell? ⟨w9.heap.size, 1, none⟩ = some (.int .i64 n22) ∧ BIf ((n22 : Int) == 2) (K (.slice l18.a l18.len l18.cap) w20) (J6 l18 (IntKind.wrap .u64 ((IntKind.wrap .u64 ((IntKind.wrap .u64 (n5 + (shlI .u64 1 (IntKind.wrap .i64 (8 + (IntKind.wrap .i64 (5 * n17))))))) - (shlI .u64 1 (IntKind.wrap .i64 (8 + (IntKind.wrap .i64 (5 * n17))))))) + (IntKind.wrap .u64 ((shlI .u64 1 (IntKind.wrap .i64 (8 + (IntKind.wrap .i64 (5 * n17))))) * 32)))) w20)) (J6 l18 (IntKind.wrap .u64 (n5 + (shlI .u64 1 (IntKind.wrap .i64 (8 + (IntKind.wrap .i64 (5 * n17))))))) w20))) (K (.slice l4.a l4.len l4.cap) w7)) ((⟨none, 0, 0⟩ : Sl), ((0 : Int), ())) w2)
theorem eq109 (a0 : Sl) (a1 : Int) (w : World) (K : Value → World → Prop) : denFn Try.prog tt Try.f109 an109 [.slice a0.a a0.len a0.cap, .int .i64 a1] w K = W109 a0 a1 w K := by kernel_rfl
theorem ok109 : OkFn Try.prog 109 := ⟨Try.f109, Try.func109, by kernel_rfl, by kernel_rfl⟩
theorem go109 {a0 : Sl} {a1 : Int} {w : World} {K : Value → World → Prop} (h : W109 a0 a1 w K) : CallW Try.prog 109 #[.slice a0.a a0.len a0.cap, .int .i64 a1] w K :=
  .inl ⟨ok109, denFn_sound tt_ok mix Try.func109 (by kernel_rfl) (eq109 a0 a1 w K ▸ h)⟩

/- loop.example/g00008/laws.eqLeaf -/
def an110 : Ann := (.seq .leaf (.seq (.seq .leaf (.cond (.seq .leaf .leaf) .leaf)) (.seq (.seq .leaf (.cond (.seq .leaf .leaf) .leaf)) (.seq (.seq .leaf (.cond (.seq .leaf .leaf) .leaf)) (.seq .leaf .leaf)))))
def W110 (a0_0 : Int) (a0_1 : Int) (a0_2 : Int) (a1_0 : Int) (a1_1 : Int) (a1_2 : Int) (w : World) (K : Value → World → Prop) : Prop :=
  LetW (w.alloc (.cells #[.int .i64 a0_0, .int .i64 a0_1, .int .u64 a0_2] 91)) fun w1 => LetW (w1.alloc (.cells #[.int .i64 a1_0, .int .i64 a1_1, .int .u64 a1_2] 91)) fun w2 => ∃ n3 : Int, w2.cell? ⟨w.heap.size, 0, none⟩ = some (.int .i64 n3) ∧ ∃ n4 : Int, w2.cell? ⟨w1.heap.size, 0, none⟩ = some (.int .i64 n4) ∧ BIf ((n3 : Int) != n4) (K (.bool false) w2) (∃ n5 : Int, w2.cell? ⟨w.heap.size, 1, none⟩ = some (.int .i64 n5) ∧ ∃ n6 : Int, w2.cell? ⟨w1.heap.size, 1, none⟩ = some (.int .i64 n6) ∧ BIf ((n5 : Int) != n6) (K (.bool false) w2) (∃ n7 : Int, w2.cell? ⟨w.heap.size, 2, none⟩ = some (.int .u64 n7) ∧ ∃ n8 : Int, w2.cell? ⟨w1.heap.size, 2, none⟩ = some (.int .u64 n8) ∧ BIf ((n7 : Int) != n8) (K (.bool false) w2) (K (.bool true) w2)))
theorem eq110 (a0_0 : Int) (a0_1 : Int) (a0_2 : Int) (a1_0 : Int) (a1_1 : Int) (a1_2 : Int) (w : World) (K : Value → World → Prop) : denFn Try.prog tt Try.f110 an110 [.agg #[.int .i64 a0_0, .int .i64 a0_1, .int .u64 a0_2], .agg #[.int .i64 a1_0, .int .i64 a1_1, .int .u64 a1_2]] w K = W110 a0_0 a0_1 a0_2 a1_0 a1_1 a1_2 w K := by kernel_rfl
theorem ok110 : OkFn Try.prog 110 := ⟨Try.f110, Try.func110, by kernel_rfl, by kernel_rfl⟩
theorem go110 {a0_0 : Int} {a0_1 : Int} {a0_2 : Int} {a1_0 : Int} {a1_1 : Int} {a1_2 : Int} {w : World} {K : Value → World → Prop} (h : W110 a0_0 a0_1 a0_2 a1_0 a1_1 a1_2 w K) : CallW Try.prog 110 #[.agg #[.int .i64 a0_0, .int .i64 a0_1, .int .u64 a0_2], .agg #[.int .i64 a1_0, .int .i64 a1_1, .int .u64 a1_2]] w K :=
  .inl ⟨ok110, denFn_sound tt_ok mix Try.func110 (by kernel_rfl) (eq110 a0_0 a0_1 a0_2 a1_0 a1_1 a1_2 w K ▸ h)⟩

/- loop.example/g00008/spec.GetEntry -/
def an123 : Ann := (.seq .leaf (.seq (.seq .leaf (.cond (.seq .leaf .leaf) .leaf)) (.seq .leaf (.seq .leaf (.seq .leaf (.seq .leaf (.seq .leaf (.seq .leaf (.seq .leaf (.seq .leaf (.seq .leaf (.seq .leaf .leaf))))))))))))
def W123 (a0 : Int) (w : World) (K : Value → World → Prop) : Prop :=
  LetW (w.alloc (.cells #[.bool false, .bool false, .bool false, .bool false, .bool false, .bool false, .bool false, .bool false, .int .i64 0] 81)) fun w1 => BIf (decide ((a0 : Int) ≥ 1048576)) (MayN w1 ⟨w.heap.size, 0, none⟩ 9 ∧ LetW (puts w1 ⟨w.heap.size, 0, none⟩ 0 [.bool false, .bool false, .bool false, .bool false, .bool false, .bool false, .bool false, .bool false, .int .i64 0]) fun w2 => ∃ b3 : Bool, w2.cell? ⟨w.heap.size, 0, none⟩ = some (.bool b3) ∧ ∃ b4 : Bool, w2.cell? ⟨w.heap.size, 1, none⟩ = some (.bool b4) ∧ ∃ b5 : Bool, w2.cell? ⟨w.heap.size, 2, none⟩ = some (.bool b5) ∧ ∃ b6 : Bool, w2.cell? ⟨w.heap.size, 3, none⟩ = some (.bool b6) ∧ ∃ b7 : Bool, w2.cell? ⟨w.heap.size, 4, none⟩ = some (.bool b7) ∧ ∃ b8 : Bool, w2.cell? ⟨w.heap.size, 5, none⟩ = some (.bool b8) ∧ ∃ b9 : Bool, w2.cell? ⟨w.heap.size, 6, none⟩ = some (.bool b9) ∧ ∃ b10 : Bool, w2.cell? ⟨w.heap.size, 7, none⟩ = some (.bool b10) ∧ ∃ n11 : Int, w2.cell? ⟨w.heap.size, 8, none⟩ = some (.int .i64 n11) ∧ K (.tuple #[.agg #[.bool b3, .bool b4, .bool b5, .bool b6, .bool b7, .bool b8, .bool b9, .bool b10, .int .i64 n11], .bool false]) w2) ((256 : Int) ≠ 0 ∧ LetW (w1.alloc (.cells #[.bool false, .bool false, .bool false, .bool false, .bool false, .bool false, .bool false, .bool false, .int .i64 0] 81)) fun w12 => MayN w12 ⟨w1.heap.size, 0, none⟩ 9 ∧ LetW (puts w12 ⟨w1.heap.size, 0, none⟩ 0 [.bool false, .bool false, .bool false, .bool false, .bool false, .bool false, .bool false, .bool false, .int .i64 (IntKind.wrap .i64 (IntKind.wrap .u64 (Int.tdiv a0 256)))]) fun w13 => CallW Try.prog 173 #[.int .u64 a0, .int .i64 0] w13 fun v14 w15 => ∃ b16 : Bool, v14 = .bool b16 ∧ May w15 ⟨w1.heap.size, 0, none⟩ ∧ LetW (w15.setCell ⟨w1.heap.size, 0, none⟩ (.bool b16)) fun w17 => CallW Try.prog 173 #[.int .u64 a0, .int .i64 1] w17 fun v18 w19 => ∃ b20 : Bool, v18 = .bool b20 ∧ May w19 ⟨w1.heap.size, 1, none⟩ ∧ LetW (w19.setCell ⟨w1.heap.size, 1, none⟩ (.bool b20)) fun w21 => CallW Try.prog 173 #[.int .u64 a0, .int .i64 2] w21 fun v22 w23 => ∃ b24 : Bool, v22 = .bool b24 ∧ May w23 ⟨w1.heap.size, 2, none⟩ ∧ LetW (w23.setCell ⟨w1.heap.size, 2, none⟩ (.bool b24)) fun w25 => CallW Try.prog 173 #[.int .u64 a0, .int .i64 3] w25 fun v26 w27 => ∃ b28 : Bool, v26 = .bool b28 ∧ May w27 ⟨w1.heap.size, 3, none⟩ ∧ LetW (w27.setCell ⟨w1.heap.size, 3, none⟩ (.bool b28)) fun w29 => CallW Try.prog 173 #[.int .u64 a0, .int .i64 4] w29 fun v30 w31 => ∃ b32 : Bool, v30 = .bool b32 ∧ May w31 ⟨w1.heap.size, 4, none⟩ ∧ LetW (w31.setCell ⟨w1.heap.size, 4, none⟩ (.bool b32)) fun w33 => CallW Try.prog 173 #[.int .u64 a0, .int .i64 5] w33 fun v34 w35 => ∃ b36 : Bool, v34 = .bool b36 ∧ May w35 ⟨w1.heap.size, 5, none⟩ ∧ LetW (w35.setCell ⟨w1.heap.size, 5, none⟩ (.bool b36)) fun w37 => CallW Try.prog 173 #[.int .u64 a0, .int .i64 6] w37 fun v38 w39 => ∃ b40 : Bool, v38 = .bool b40 ∧ May w39 ⟨w1.heap.size, 6, none⟩ ∧ LetW (w39.setCell ⟨w1.heap.size, 6, none⟩ (.bool b40)) fun w41 => CallW Try.prog 173 #[.int .u64 a0, .int .i64 7] w41 fun v42 w43 => ∃ b44 : Bool, v42 = .bool b44 ∧ May w43 ⟨w1.heap.size, 7, none⟩ ∧ LetW (w43.setCell ⟨w1.heap.size, 7, none⟩ (.bool b44)) fun w45 => ∃ b46 : Bool, w45.cell? ⟨w1.heap.size, 0, none⟩ = some (.bool b46) ∧ ∃ b47 : Bool, w45.cell? ⟨w1.heap.size, 1, none⟩ = some (.bool b47) ∧ ∃ b48 : Bool, w45.cell? ⟨w1.heap.size, 2, none⟩ = some (.bool b48) ∧ ∃ b49 : Bool, w45.cell? ⟨w1.heap.size, 3, none⟩ = some (.bool b49) ∧ ∃ b50 : Bool, w45.cell? ⟨w1.heap.size, 4, none⟩ = some (.bool b50) ∧ ∃ b51 : Bool, w45.cell? ⟨w1.heap.size, 5, none⟩ = some (.bool b51) ∧ ∃ b52 : Bool, w45.cell? ⟨w1.heap.size, 6, none⟩ = some (.bool b52) ∧ ∃ b53 : Bool, w45.cell? ⟨w1.heap.size, 7, none⟩ = some (.bool b53) ∧ ∃ n54 : Int, w45.cell? ⟨w1.heap.size, 8, none⟩ = some (.int .i64 n54) ∧ MayN w45 ⟨w.heap.size, 0, none⟩ 9 ∧ LetW (puts w45 ⟨w.heap.size, 0, none⟩ 0 [.bool b46, .bool b47, .bool b48, .bool b49, .bool b50, .bool b51, .bool b52, .bool b53, .int .i64 n54]) fun w55 => ∃ b56 : Bool, w55.cell? ⟨w.heap.size, 0, none⟩ = some (.bool b56) ∧ ∃ b57 : Bool, w55.cell? ⟨w.heap.size, 1, none⟩ = some (.bool b57) ∧ ∃ b58 : Bool, w55.cell? ⟨w.heap.size, 2, none⟩ = some (.bool b58) ∧ ∃ b59 : Bool, w55.cell? ⟨w.heap.size, 3, none⟩ = some (.bool b59) ∧ ∃ b60 : Bool, w55.cell? ⟨w.heap.size, 4, none⟩ = some (.bool b60) ∧ ∃ b61 : Bool, w55.cell? ⟨w.heap.size, 5, none⟩ = some (.bool b61) ∧ ∃ b62 : Bool, w55.cell? ⟨w.heap.size, 6, none⟩ = some (.bool b62) ∧ ∃ b63 : Bool, w55.cell? ⟨w.heap.size, 7, none⟩ = some (.bool b63) ∧ ∃ n64 : Int, w55.cell? ⟨w.heap.size, 8, none⟩ = some (.int .i64 n64) ∧ K (.tuple #[.agg #[.bool b56, .bool b57, .bool b58, .bool b59, .bool b60, .bool b61, .bool b62, .bool b63, .int .i64 n64], .bool true]) w55)
theorem eq123 (a0 : Int) (w : World) (K : Value → World → Prop) : denFn Try.prog tt Try.f123 an123 [.int .u64 a0] w K = W123 a0 w K := by kernel_rfl
theorem ok123 : OkFn Try.prog 123 := ⟨Try.f123, Try.func123, by kernel_rfl, by kernel_rfl⟩
theorem go123 {a0 : Int} {w : World} {K : Value → World → Prop} (h : W123 a0 w K) : CallW Try.prog 123 #[.int .u64 a0] w K :=
  .inl ⟨ok123, denFn_sound tt_ok mix Try.func123 (by kernel_rfl) (eq123 a0 w K ▸ h)⟩

/- loop.example/g00008/spec.l9Word -/
def an124 : Ann := (.seq .leaf (.seq .leaf (.seq .leaf .leaf)))
def W124 (a0 : Sl) (a1 : Int) (w : World) (K : Value → World → Prop) : Prop :=
  0 ≤ (IntKind.wrap .i64 (a1 + 8) : Int) ∧ (IntKind.wrap .i64 (a1 + 8) : Int) ≤ ((a0.cap : Nat) : Int) ∧ 0 ≤ (a1 : Int) ∧ (a1 : Int) ≤ (IntKind.wrap .i64 (a1 + 8) : Int) ∧ CallW Try.prog 174 #[.slice (cutA a0.a a0.cap (Int.toNat a1) 1) (Int.toNat (IntKind.wrap .i64 (a1 + 8)) - Int.toNat a1) (a0.cap - Int.toNat a1), .int .i64 0, .int .i64 8, .bool false] w fun v1 w2 => ∃ n3 : Int, ∃ b4 : Bool, v1 = .tuple #[.int .u64 n3, .bool b4] ∧ K (.int .u64 n3) w2
theorem eq124 (a0 : Sl) (a1 : Int) (w : World) (K : Value → World → Prop) : denFn Try.prog tt Try.f124 an124 [.slice a0.a a0.len a0.cap, .int .i64 a1] w K = W124 a0 a1 w K := by kernel_rfl
theorem ok124 : OkFn Try.prog 124 := ⟨Try.f124, Try.func124, by kernel_rfl, by kernel_rfl⟩
theorem go124 {a0 : Sl} {a1 : Int} {w : World} {K : Value → World → Prop} (h : W124 a0 a1 w K) : CallW Try.prog 124 #[.slice a0.a a0.len a0.cap, .int .i64 a1] w K :=
  .inl ⟨ok124, denFn_sound tt_ok mix Try.func124 (by kernel_rfl) (eq124 a0 a1 w K ▸ h)⟩

/- (*loop.example/g00008/impl.pool).entry -/
def an126 : Ann := (.seq .leaf (.seq .leaf (.seq .leaf .leaf)))
def W126 (a0 : Option Addr) (a1 : Int) (a2 : Int) (w : World) (K : Value → World → Prop) : Prop :=
  ∃ p1 : Addr, (a0 : Option Addr) = some p1 ∧ ∃ l2 : Sl, w.cell? (p1.add 0) = some (.slice l2.a l2.len l2.cap) ∧ CallW Try.prog 168 #[.slice l2.a l2.len l2.cap, .int .i64 (IntKind.wrap .i64 ((IntKind.wrap .i64 (a1 * 256)) + (IntKind.wrap .i64 (8 * a2)))), .int .i64 8, .bool false] w fun v3 w4 => ∃ n5 : Int, ∃ b6 : Bool, v3 = .tuple #[.int .u64 n5, .bool b6] ∧ K (.int .u64 n5) w4
theorem eq126 (a0 : Option Addr) (a1 : Int) (a2 : Int) (w : World) (K : Value → World → Prop) : denFn Try.prog tt Try.f126 an126 [.pointer a0, .int .i64 a1, .int .i64 a2] w K = W126 a0 a1 a2 w K := by kernel_rfl
theorem ok126 : OkFn Try.prog 126 := ⟨Try.f126, Try.func126, by kernel_rfl, by kernel_rfl⟩
theorem go126 {a0 : Option Addr} {a1 : Int} {a2 : Int} {w : World} {K : Value → World → Prop} (h : W126 a0 a1 a2 w K) : CallW Try.prog 126 #[.pointer a0, .int .i64 a1, .int .i64 a2] w K :=
  .inl ⟨ok126, denFn_sound tt_ok mix Try.func126 (by kernel_rfl) (eq126 a0 a1 a2 w K ▸ h)⟩

/- loop.example/g00008/impl.entryOf -/
def an127 : Ann := (.seq .leaf (.seq .leaf (.seq (.draw [0, 1, 0, 7, 0, 31, 0, 127, 0, 511, 0, 2047, 0, 8191, 0, 32767, 0, 65536, 196608, 458752, 1048575, 2097151] [0, 2, 4, 6, 8, 10, 12, 14, 16, 17, 18, 19, 1, 3, 5, 7, 9, 11, 13, 15, 20, 21]) .leaf)))
def W127 (a0 : Int) (w : World) (K : Value → World → Prop) : Prop :=
  LetW (w.alloc (.cells #[.int .u64 a0] 89)) fun w1 => LetW (w1.alloc (.cells #[.bool false, .bool false, .bool false, .bool false, .bool false, .bool false, .bool false, .bool false, .int .i64 0] 81)) fun w2 => ∃ n3 : Int, w2.drew.cell? ⟨w.heap.size, 0, none⟩ = some (.int .u64 n3) ∧ 0 ≤ (8 : Int) ∧ CallW Try.prog 175 #[.int .i64 0, .pointer (some ⟨w.heap.size, 0, none⟩)] w2.drew fun v4 w5 => ∃ b6 : Bool, v4 = .bool b6 ∧ ((.int .i64 (IntKind.wrap .i64 (andI .u64 (shrI .u64 n3 8) 4095)) : Value) = (.int .i64 (IntKind.wrap .i64 (andI .u64 (shrI .u64 n3 8) 4095)) : Value)) ∧ (∃ n7 : Int, w5.cell? ⟨w.heap.size, 0, none⟩ = some (.int .u64 n7) ∧ (.int .u64 n7 : Value) = (.int .u64 n3 : Value)) ∧ CallW Try.prog 175 #[.int .i64 1, .pointer (some ⟨w.heap.size, 0, none⟩)] w5 fun v8 w9 => ∃ b10 : Bool, v8 = .bool b10 ∧ ((.int .i64 (IntKind.wrap .i64 (andI .u64 (shrI .u64 n3 8) 4095)) : Value) = (.int .i64 (IntKind.wrap .i64 (andI .u64 (shrI .u64 n3 8) 4095)) : Value)) ∧ (∃ n11 : Int, w9.cell? ⟨w.heap.size, 0, none⟩ = some (.int .u64 n11) ∧ (.int .u64 n11 : Value) = (.int .u64 n3 : Value)) ∧ CallW Try.prog 175 #[.int .i64 2, .pointer (some ⟨w.heap.size, 0, none⟩)] w9 fun v12 w13 => ∃ b14 : Bool, v12 = .bool b14 ∧ ((.int .i64 (IntKind.wrap .i64 (andI .u64 (shrI .u64 n3 8) 4095)) : Value) = (.int .i64 (IntKind.wrap .i64 (andI .u64 (shrI .u64 n3 8) 4095)) : Value)) ∧ (∃ n15 : Int, w13.cell? ⟨w.heap.size, 0, none⟩ = some (.int .u64 n15) ∧ (.int .u64 n15 : Value) = (.int .u64 n3 : Value)) ∧ CallW Try.prog 175 #[.int .i64 3, .pointer (some ⟨w.heap.size, 0, none⟩)] w13 fun v16 w17 => ∃ b18 : Bool, v16 = .bool b18 ∧ ((.int .i64 (IntKind.wrap .i64 (andI .u64 (shrI .u64 n3 8) 4095)) : Value) = (.int .i64 (IntKind.wrap .i64 (andI .u64 (shrI .u64 n3 8) 4095)) : Value)) ∧ (∃ n19 : Int, w17.cell? ⟨w.heap.size, 0, none⟩ = some (.int .u64 n19) ∧ (.int .u64 n19 : Value) = (.int .u64 n3 : Value)) ∧ CallW Try.prog 175 #[.int .i64 4, .pointer (some ⟨w.heap.size, 0, none⟩)] w17 fun v20 w21 => ∃ b22 : Bool, v20 = .bool b22 ∧ ((.int .i64 (IntKind.wrap .i64 (andI .u64 (shrI .u64 n3 8) 4095)) : Value) = (.int .i64 (IntKind.wrap .i64 (andI .u64 (shrI .u64 n3 8) 4095)) : Value)) ∧ (∃ n23 : Int, w21.cell? ⟨w.heap.size, 0, none⟩ = some (.int .u64 n23) ∧ (.int .u64 n23 : Value) = (.int .u64 n3 : Value)) ∧ CallW Try.prog 175 #[.int .i64 5, .pointer (some ⟨w.heap.size, 0, none⟩)] w21 fun v24 w25 => ∃ b26 : Bool, v24 = .bool b26 ∧ ((.int .i64 (IntKind.wrap .i64 (andI .u64 (shrI .u64 n3 8) 4095)) : Value) = (.int .i64 (IntKind.wrap .i64 (andI .u64 (shrI .u64 n3 8) 4095)) : Value)) ∧ (∃ n27 : Int, w25.cell? ⟨w.heap.size, 0, none⟩ = some (.int .u64 n27) ∧ (.int .u64 n27 : Value) = (.int .u64 n3 : Value)) ∧ CallW Try.prog 175 #[.int .i64 6, .pointer (some ⟨w.heap.size, 0, none⟩)] w25 fun v28 w29 => ∃ b30 : Bool, v28 = .bool b30 ∧ ((.int .i64 (IntKind.wrap .i64 (andI .u64 (shrI .u64 n3 8) 4095)) : Value) = (.int .i64 (IntKind.wrap .i64 (andI .u64 (shrI .u64 n3 8) 4095)) : Value)) ∧ (∃ n31 : Int, w29.cell? ⟨w.heap.size, 0, none⟩ = some (.int .u64 n31) ∧ (.int .u64 n31 : Value) = (.int .u64 n3 : Value)) ∧ CallW Try.prog 175 #[.int .i64 7, .pointer (some ⟨w.heap.size, 0, none⟩)] w29 fun v32 w33 => ∃ b34 : Bool, v32 = .bool b34 ∧ ((.int .i64 (IntKind.wrap .i64 (andI .u64 (shrI .u64 n3 8) 4095)) : Value) = (.int .i64 (IntKind.wrap .i64 (andI .u64 (shrI .u64 n3 8) 4095)) : Value)) ∧ (∃ n35 : Int, w33.cell? ⟨w.heap.size, 0, none⟩ = some (.int .u64 n35) ∧ (.int .u64 n35 : Value) = (.int .u64 n3 : Value)) ∧ MayN w33 ⟨w1.heap.size, 0, none⟩ 9 ∧ LetW (puts w33 ⟨w1.heap.size, 0, none⟩ 0 [.bool b6, .bool b10, .bool b14, .bool b18, .bool b22, .bool b26, .bool b30, .bool b34, .int .i64 (IntKind.wrap .i64 (andI .u64 (shrI .u64 n3 8) 4095))]) fun w36 => ∃ b37 : Bool, w36.cell? ⟨w1.heap.size, 0, none⟩ = some (.bool b37) ∧ ∃ b38 : Bool, w36.cell? ⟨w1.heap.size, 1, none⟩ = some (.bool b38) ∧ ∃ b39 : Bool, w36.cell? ⟨w1.heap.size, 2, none⟩ = some (.bool b39) ∧ ∃ b40 : Bool, w36.cell? ⟨w1.heap.size, 3, none⟩ = some (.bool b40) ∧ ∃ b41 : Bool, w36.cell? ⟨w1.heap.size, 4, none⟩ = some (.bool b41) ∧ ∃ b42 : Bool, w36.cell? ⟨w1.heap.size, 5, none⟩ = some (.bool b42) ∧ ∃ b43 : Bool, w36.cell? ⟨w1.heap.size, 6, none⟩ = some (.bool b43) ∧ ∃ b44 : Bool, w36.cell? ⟨w1.heap.size, 7, none⟩ = some (.bool b44) ∧ ∃ n45 : Int, w36.cell? ⟨w1.heap.size, 8, none⟩ = some (.int .i64 n45) ∧ K (.agg #[.bool b37, .bool b38, .bool b39, .bool b40, .bool b41, .bool b42, .bool b43, .bool b44, .int .i64 n45]) w36
theorem eq127 (a0 : Int) (w : World) (K : Value → World → Prop) : denFn Try.prog tt Try.f127 an127 [.int .u64 a0] w K = W127 a0 w K := by kernel_rfl
theorem ok127 : OkFn Try.prog 127 := ⟨Try.f127, Try.func127, by kernel_rfl, by kernel_rfl⟩
theorem go127 {a0 : Int} {w : World} {K : Value → World → Prop} (h : W127 a0 w K) : CallW Try.prog 127 #[.int .u64 a0] w K :=
  .inl ⟨ok127, denFn_sound tt_ok mix Try.func127 (by kernel_rfl) (eq127 a0 w K ▸ h)⟩

/- loop.example/g00008/impl.PutEntry -/
def an132 : Ann := (.seq .leaf (.seq (.seq (.reg [(4, none), (4, some (2, [(14, .bool)]))]) (.cond (.seq .leaf .leaf) .leaf)) (.seq .leaf (.seq (.seq .leaf (.in_ (.loop 103079215104 [(4, .int .u64), (37, .int .i64)] (.seq .leaf (.seq (.cond .leaf .leaf) (.seq (.in_ (.seq .leaf .leaf)) .leaf)))))) (.seq .leaf .leaf)))))
def W132 (a0_0 : Bool) (a0_1 : Bool) (a0_2 : Bool) (a0_3 : Bool) (a0_4 : Bool) (a0_5 : Bool) (a0_6 : Bool) (a0_7 : Bool) (a0_8 : Int) (w : World) (K : Value → World → Prop) : Prop :=
  LetW (w.alloc (.cells #[.bool a0_0, .bool a0_1, .bool a0_2, .bool a0_3, .bool a0_4, .bool a0_5, .bool a0_6, .bool a0_7, .int .i64 a0_8] 81)) fun w1 => ∃ n2 : Int, w1.cell? ⟨w.heap.size, 8, none⟩ = some (.int .i64 n2) ∧ JoinW [.bool] (fun J4 => BIf (decide ((n2 : Int) < 0)) (J4 true w1) (∃ n25 : Int, w1.cell? ⟨w.heap.size, 8, none⟩ = some (.int .i64 n25) ∧ J4 (decide ((n25 : Int) > 4095)) w1)) (fun (b3 : Bool) w5 => BIf b3 (K (.tuple #[.int .u64 0, .bool false]) w5) (∃ n6 : Int, w5.cell? ⟨w.heap.size, 8, none⟩ = some (.int .i64 n6) ∧ 0 ≤ (8 : Int) ∧ ∃ b7 : Bool, w5.cell? ⟨w.heap.size, 0, none⟩ = some (.bool b7) ∧ ∃ b8 : Bool, w5.cell? ⟨w.heap.size, 1, none⟩ = some (.bool b8) ∧ ∃ b9 : Bool, w5.cell? ⟨w.heap.size, 2, none⟩ = some (.bool b9) ∧ ∃ b10 : Bool, w5.cell? ⟨w.heap.size, 3, none⟩ = some (.bool b10) ∧ ∃ b11 : Bool, w5.cell? ⟨w.heap.size, 4, none⟩ = some (.bool b11) ∧ ∃ b12 : Bool, w5.cell? ⟨w.heap.size, 5, none⟩ = some (.bool b12) ∧ ∃ b13 : Bool, w5.cell? ⟨w.heap.size, 6, none⟩ = some (.bool b13) ∧ ∃ b14 : Bool, w5.cell? ⟨w.heap.size, 7, none⟩ = some (.bool b14) ∧ LetW (w5.alloc (.cells #[.bool b7, .bool b8, .bool b9, .bool b10, .bool b11, .bool b12, .bool b13, .bool b14] 4)) fun w15 => LoopW [.int .u64, .int .i64] (fun J18 => fun (n16 : Int) (n17 : Int) w19 => BIf (decide ((n17 : Int) < ((8 : Nat) : Int))) (0 ≤ (n17 : Int) ∧ (n17 : Int) < ((8 : Nat) : Int) ∧ ∃ q20 : Addr, (some ⟨w5.heap.size, 0, none⟩ : Option Addr) = some q20 ∧ ∃ b21 : Bool, w19.cell? (q20.add (Int.toNat n17 * 1)) = some (.bool b21) ∧ CallW Try.prog 86 #[.bool b21] w19 fun v22 w23 => ∃ n24 : Int, v22 = .int .u64 n24 ∧ 0 ≤ (n17 : Int) ∧ J18 (orI .u64 n16 (shlI .u64 n24 n17)) (IntKind.wrap .i64 (n17 + 1)) w23) (K (.tuple #[.int .u64 n16, .bool true]) w19)) ((shlI .u64 (IntKind.wrap .u64 n6) 8 : Int), ((0 : Int), ())) w15))
theorem eq132 (a0_0 : Bool) (a0_1 : Bool) (a0_2 : Bool) (a0_3 : Bool) (a0_4 : Bool) (a0_5 : Bool) (a0_6 : Bool) (a0_7 : Bool) (a0_8 : Int) (w : World) (K : Value → World → Prop) : denFn Try.prog tt Try.f132 an132 [.agg #[.bool a0_0, .bool a0_1, .bool a0_2, .bool a0_3, .bool a0_4, .bool a0_5, .bool a0_6, .bool a0_7, .int .i64 a0_8]] w K = W132 a0_0 a0_1 a0_2 a0_3 a0_4 a0_5 a0_6 a0_7 a0_8 w K := by kernel_rfl
theorem ok132 : OkFn Try.prog 132 := ⟨Try.f132, Try.func132, by kernel_rfl, by kernel_rfl⟩
theorem go132 {a0_0 : Bool} {a0_1 : Bool} {a0_2 : Bool} {a0_3 : Bool} {a0_4 : Bool} {a0_5 : Bool} {a0_6 : Bool} {a0_7 : Bool} {a0_8 : Int} {w : World} {K : Value → World → Prop} (h : W132 a0_0 a0_1 a0_2 a0_3 a0_4 a0_5 a0_6 a0_7 a0_8 w K) : CallW Try.prog 132 #[.agg #[.bool a0_0, .bool a0_1, .bool a0_2, .bool a0_3, .bool a0_4, .bool a0_5, .bool a0_6, .bool a0_7, .int .i64 a0_8]] w K :=
  .inl ⟨ok132, denFn_sound tt_ok mix Try.func132 (by kernel_rfl) (eq132 a0_0 a0_1 a0_2 a0_3 a0_4 a0_5 a0_6 a0_7 a0_8 w K ▸ h)⟩

/- loop.example/g00008/impl.FramesOk -/
def an134 : Ann := (.seq .leaf (.seq (.seq (.reg [(4, none), (4, some (2, [(15, .bool)]))]) (.cond (.seq .leaf .leaf) .leaf)) (.seq .leaf (.seq (.seq .leaf (.in_ (.loop 393218 [(3, .int .i64), (19, .int .i64)] (.seq .leaf (.seq (.cond .leaf .leaf) (.seq (.in_ (.seq .leaf (.seq (.seq (.reg [(6, none), (5, some (917554, [(34, .bool)]))]) (.cond (.seq .leaf .leaf) .leaf)) (.seq .leaf (.seq .leaf (.seq .leaf (.cond (.seq .leaf (.seq (.reg [(6, none), (4, some (917738, [(59, .bool)])), (1, none), (8, some (917706, [(68, .bool)])), (1, none), (7, some (917514, [(76, .bool)]))]) (.cond (.seq .leaf .leaf) .leaf))) .leaf))))))) .leaf)))))) (.seq .leaf .leaf)))))
def W134 (a0_0 : Int) (a0_1 : Sl) (w : World) (K : Value → World → Prop) : Prop :=
  LetW (w.alloc (.cells #[.int .i64 a0_0, .slice a0_1.a a0_1.len a0_1.cap] 63)) fun w1 => ∃ n2 : Int, w1.cell? ⟨w.heap.size, 0, none⟩ = some (.int .i64 n2) ∧ JoinW [.bool] (fun J4 => BIf (decide ((n2 : Int) < 0)) (J4 true w1) (∃ n49 : Int, w1.cell? ⟨w.heap.size, 0, none⟩ = some (.int .i64 n49) ∧ J4 (decide ((n49 : Int) > 1024)) w1)) (fun (b3 : Bool) w5 => BIf b3 (K (.bool false) w5) (∃ l6 : Sl, w5.cell? ⟨w.heap.size, 1, none⟩ = some (.slice l6.a l6.len l6.cap) ∧ LoopW [.int .i64, .int .i64] (fun J9 => fun (n7 : Int) (n8 : Int) w10 => BIf (decide ((n8 : Int) < ((l6.len : Nat) : Int))) (0 ≤ (n8 : Int) ∧ (n8 : Int) < ((l6.len : Nat) : Int) ∧ ∃ q11 : Addr, (l6.a : Option Addr) = some q11 ∧ ∃ n12 : Int, w10.cell? ((q11.add (Int.toNat n8 * 2)).add 0) = some (.int .i64 n12) ∧ ∃ n13 : Int, w10.cell? ((q11.add (Int.toNat n8 * 2)).add 1) = some (.int .i64 n13) ∧ LetW (w10.alloc (.cells #[.int .i64 0, .int .i64 0] 123)) fun w14 => MayN w14 ⟨w10.heap.size, 0, none⟩ 2 ∧ LetW (puts w14 ⟨w10.heap.size, 0, none⟩ 0 [.int .i64 n12, .int .i64 n13]) fun w15 => ∃ n16 : Int, w15.cell? ⟨w.heap.size, 0, none⟩ = some (.int .i64 n16) ∧ ∃ n17 : Int, w15.cell? ⟨w10.heap.size, 0, none⟩ = some (.int .i64 n17) ∧ ∃ n18 : Int, w15.cell? ⟨w10.heap.size, 1, none⟩ = some (.int .i64 n18) ∧ CallW Try.prog 84 #[.int .i64 n16, .agg #[.int .i64 n17, .int .i64 n18]] w15 fun v19 w20 => ∃ b21 : Bool, v19 = .bool b21 ∧ JoinW [.bool] (fun J23 => BIf (!b21) (J23 true w20) (∃ n48 : Int, w20.cell? ⟨w10.heap.size, 0, none⟩ = some (.int .i64 n48) ∧ J23 (decide ((n48 : Int) < n7)) w20)) (fun (b22 : Bool) w24 => BIf b22 (K (.bool false) w24) (∃ n25 : Int, w24.cell? ⟨w10.heap.size, 1, none⟩ = some (.int .i64 n25) ∧ 0 ≤ (n25 : Int) ∧ ∃ n26 : Int, w24.cell? ⟨w10.heap.size, 0, none⟩ = some (.int .i64 n26) ∧ BIf (decide ((n8 : Int) > 0)) (∃ l27 : Sl, w24.cell? ⟨w.heap.size, 1, none⟩ = some (.slice l27.a l27.len l27.cap) ∧ 0 ≤ (IntKind.wrap .i64 (n8 - 1) : Int) ∧ (IntKind.wrap .i64 (n8 - 1) : Int) < ((l27.len : Nat) : Int) ∧ ∃ q28 : Addr, (l27.a : Option Addr) = some q28 ∧ ∃ n29 : Int, w24.cell? ((q28.add (Int.toNat (IntKind.wrap .i64 (n8 - 1)) * 2)).add 0) = some (.int .i64 n29) ∧ ∃ n30 : Int, w24.cell? ((q28.add (Int.toNat (IntKind.wrap .i64 (n8 - 1)) * 2)).add 1) = some (.int .i64 n30) ∧ LetW (w24.alloc (.cells #[.int .i64 0, .int .i64 0] 123)) fun w31 => MayN w31 ⟨w24.heap.size, 0, none⟩ 2 ∧ LetW (puts w31 ⟨w24.heap.size, 0, none⟩ 0 [.int .i64 n29, .int .i64 n30]) fun w32 => ∃ n33 : Int, w32.cell? ⟨w24.heap.size, 1, none⟩ = some (.int .i64 n33) ∧ ∃ n34 : Int, w32.cell? ⟨w10.heap.size, 1, none⟩ = some (.int .i64 n34) ∧ JoinW [.bool] (fun J36 => BIf ((n33 : Int) == n34) (∃ n47 : Int, w32.cell? ⟨w10.heap.size, 1, none⟩ = some (.int .i64 n47) ∧ J36 (decide ((n47 : Int) < 10)) w32) (J36 false w32)) (fun (b35 : Bool) w37 => JoinW [.bool] (fun J39 => BIf b35 (∃ n45 : Int, w37.cell? ⟨w24.heap.size, 0, none⟩ = some (.int .i64 n45) ∧ ∃ n46 : Int, w37.cell? ⟨w10.heap.size, 0, none⟩ = some (.int .i64 n46) ∧ J39 ((n45 : Int) == (IntKind.wrap .i64 (n46 - (shlI .i64 1 n25)))) w37) (J39 false w37)) (fun (b38 : Bool) w40 => JoinW [.bool] (fun J42 => BIf b38 (∃ n44 : Int, w40.cell? ⟨w24.heap.size, 0, none⟩ = some (.int .i64 n44) ∧ (IntKind.wrap .i64 (2 * (shlI .i64 1 n25)) : Int) ≠ 0 ∧ J42 ((Int.tmod n44 (IntKind.wrap .i64 (2 * (shlI .i64 1 n25))) : Int) == 0) w40) (J42 false w40)) (fun (b41 : Bool) w43 => BIf b41 (K (.bool false) w43) (J9 (IntKind.wrap .i64 (n26 + (shlI .i64 1 n25))) (IntKind.wrap .i64 (n8 + 1)) w43))))) (J9 (IntKind.wrap .i64 (n26 + (shlI .i64 1 n25))) (IntKind.wrap .i64 (n8 + 1)) w24)))) (K (.bool true) w10)) ((0 : Int), ((0 : Int), ())) w5))
theorem eq134 (a0_0 : Int) (a0_1 : Sl) (w : World) (K : Value → World → Prop) : denFn Try.prog tt Try.f134 an134 [.agg #[.int .i64 a0_0, .slice a0_1.a a0_1.len a0_1.cap]] w K = W134 a0_0 a0_1 w K := by kernel_rfl
theorem ok134 : OkFn Try.prog 134 := ⟨Try.f134, Try.func134, by kernel_rfl, by kernel_rfl⟩
theorem go134 {a0_0 : Int} {a0_1 : Sl} {w : World} {K : Value → World → Prop} (h : W134 a0_0 a0_1 w K) : CallW Try.prog 134 #[.agg #[.int .i64 a0_0, .slice a0_1.a a0_1.len a0_1.cap]] w K :=
  .inl ⟨ok134, denFn_sound tt_ok mix Try.func134 (by kernel_rfl) (eq134 a0_0 a0_1 w K ▸ h)⟩

/- loop.example/g00008/spec.l8Block -/
def an145 : Ann := (.seq .leaf (.seq (.seq (.reg [(4, none), (4, some (9, [(13, .bool)]))]) (.cond (.seq .leaf .leaf) .leaf)) (.seq .leaf (.seq (.reg [(4, none), (5, some (41, [(25, .bool)])), (1, none), (6, some (41, [(32, .bool)])), (1, none), (7, some (0, [(40, .bool)])), (1, none)]) .leaf))))
def W145 (a0 : Int) (a1_0 : Int) (a1_1 : Int) (w : World) (K : Value → World → Prop) : Prop :=
  LetW (w.alloc (.cells #[.int .i64 a1_0, .int .i64 a1_1] 123)) fun w1 => ∃ n2 : Int, w1.cell? ⟨w.heap.size, 1, none⟩ = some (.int .i64 n2) ∧ JoinW [.bool] (fun J4 => BIf (decide ((n2 : Int) < 0)) (J4 true w1) (∃ n23 : Int, w1.cell? ⟨w.heap.size, 1, none⟩ = some (.int .i64 n23) ∧ J4 (decide ((n23 : Int) > 10)) w1)) (fun (b3 : Bool) w5 => BIf b3 (K (.bool false) w5) (∃ n6 : Int, w5.cell? ⟨w.heap.size, 1, none⟩ = some (.int .i64 n6) ∧ CallW Try.prog 176 #[.int .i64 n6] w5 fun v7 w8 => ∃ n9 : Int, v7 = .int .i64 n9 ∧ ∃ n10 : Int, w8.cell? ⟨w.heap.size, 0, none⟩ = some (.int .i64 n10) ∧ JoinW [.bool] (fun J12 => BIf (decide ((n10 : Int) ≥ 0)) (∃ n22 : Int, w8.cell? ⟨w.heap.size, 0, none⟩ = some (.int .i64 n22) ∧ J12 (decide ((n22 : Int) < a0)) w8) (J12 false w8)) (fun (b11 : Bool) w13 => JoinW [.bool] (fun J15 => BIf b11 (∃ n21 : Int, w13.cell? ⟨w.heap.size, 0, none⟩ = some (.int .i64 n21) ∧ (n9 : Int) ≠ 0 ∧ J15 ((Int.tmod n21 n9 : Int) == 0) w13) (J15 false w13)) (fun (b14 : Bool) w16 => JoinW [.bool] (fun J18 => BIf b14 (∃ n20 : Int, w16.cell? ⟨w.heap.size, 0, none⟩ = some (.int .i64 n20) ∧ J18 (decide ((IntKind.wrap .i64 (n20 + n9) : Int) ≤ a0)) w16) (J18 false w16)) (fun (b17 : Bool) w19 => K (.bool b17) w19)))))
theorem eq145 (a0 : Int) (a1_0 : Int) (a1_1 : Int) (w : World) (K : Value → World → Prop) : denFn Try.prog tt Try.f145 an145 [.int .i64 a0, .agg #[.int .i64 a1_0, .int .i64 a1_1]] w K = W145 a0 a1_0 a1_1 w K := by kernel_rfl
theorem ok145 : OkFn Try.prog 145 := ⟨Try.f145, Try.func145, by kernel_rfl, by kernel_rfl⟩
theorem go145 {a0 : Int} {a1_0 : Int} {a1_1 : Int} {w : World} {K : Value → World → Prop} (h : W145 a0 a1_0 a1_1 w K) : CallW Try.prog 145 #[.int .i64 a0, .agg #[.int .i64 a1_0, .int .i64 a1_1]] w K :=
  .inl ⟨ok145, denFn_sound tt_ok mix Try.func145 (by kernel_rfl) (eq145 a0 a1_0 a1_1 w K ▸ h)⟩

/- loop.example/g00008/impl.copyFrames -/
def an149 : Ann := (.seq .leaf (.seq .leaf (.seq .leaf .leaf)))
def W149 (a0_0 : Int) (a0_1 : Sl) (w : World) (K : Value → World → Prop) : Prop :=
  LetW (w.alloc (.cells #[.int .i64 a0_0, .slice a0_1.a a0_1.len a0_1.cap] 63)) fun w1 => LetW (w1.alloc (.cells #[.int .i64 0, .slice none 0 0] 63)) fun w2 => ∃ l3 : Sl, w2.cell? ⟨w.heap.size, 1, none⟩ = some (.slice l3.a l3.len l3.cap) ∧ AppendW 123 ti123 ⟨none, 0, 0⟩ l3 w2 fun l4 w5 => May w5 ⟨w.heap.size, 1, none⟩ ∧ LetW (w5.setCell ⟨w.heap.size, 1, none⟩ (.slice l4.a l4.len l4.cap)) fun w6 => ∃ n7 : Int, w6.cell? ⟨w.heap.size, 0, none⟩ = some (.int .i64 n7) ∧ ∃ l8 : Sl, w6.cell? ⟨w.heap.size, 1, none⟩ = some (.slice l8.a l8.len l8.cap) ∧ MayN w6 ⟨w1.heap.size, 0, none⟩ 2 ∧ LetW (puts w6 ⟨w1.heap.size, 0, none⟩ 0 [.int .i64 n7, .slice l8.a l8.len l8.cap]) fun w9 => ∃ n10 : Int, w9.cell? ⟨w1.heap.size, 0, none⟩ = some (.int .i64 n10) ∧ ∃ l11 : Sl, w9.cell? ⟨w1.heap.size, 1, none⟩ = some (.slice l11.a l11.len l11.cap) ∧ K (.agg #[.int .i64 n10, .slice l11.a l11.len l11.cap]) w9
theorem eq149 (a0_0 : Int) (a0_1 : Sl) (w : World) (K : Value → World → Prop) : denFn Try.prog tt Try.f149 an149 [.agg #[.int .i64 a0_0, .slice a0_1.a a0_1.len a0_1.cap]] w K = W149 a0_0 a0_1 w K := by kernel_rfl
theorem ok149 : OkFn Try.prog 149 := ⟨Try.f149, Try.func149, by kernel_rfl, by kernel_rfl⟩
theorem go149 {a0_0 : Int} {a0_1 : Sl} {w : World} {K : Value → World → Prop} (h : W149 a0_0 a0_1 w K) : CallW Try.prog 149 #[.agg #[.int .i64 a0_0, .slice a0_1.a a0_1.len a0_1.cap]] w K :=
  .inl ⟨ok149, denFn_sound tt_ok mix Try.func149 (by kernel_rfl) (eq149 a0_0 a0_1 w K ▸ h)⟩

/- loop.example/g00008/impl.freeMap -/
def an150 : Ann := (.seq .leaf (.seq .leaf (.seq (.seq .leaf (.in_ (.loop 6152 [(13, .int .i64)] (.seq .leaf (.seq (.cond .leaf .leaf) (.seq (.in_ (.seq .leaf (.seq .leaf (.in_ (.loop 538664 [(20, .int .i64)] (.seq .leaf (.seq (.cond .leaf .leaf) (.seq (.in_ (.seq .leaf .leaf)) .leaf)))))))) .leaf)))))) (.seq .leaf .leaf))))
def W150 (a0_0 : Int) (a0_1 : Sl) (w : World) (K : Value → World → Prop) : Prop :=
  LetW (w.alloc (.cells #[.int .i64 a0_0, .slice a0_1.a a0_1.len a0_1.cap] 63)) fun w1 => ∃ n2 : Int, w1.cell? ⟨w.heap.size, 0, none⟩ = some (.int .i64 n2) ∧ 0 ≤ (n2 : Int) ∧ (n2 : Int) ≤ (n2 : Int) ∧ (n2 : Int) * 1 ≤ (140737488355328 : Int) ∧ 0 < 1 ∧ LetW (w1.alloc (.cells ⟨zerosOf ti4.zero (Int.toNat n2)⟩ 4)) fun w3 => ∃ l4 : Sl, w3.cell? ⟨w.heap.size, 1, none⟩ = some (.slice l4.a l4.len l4.cap) ∧ LoopW [.int .i64] (fun J6 => fun (n5 : Int) w7 => BIf (decide ((n5 : Int) < ((l4.len : Nat) : Int))) (0 ≤ (n5 : Int) ∧ (n5 : Int) < ((l4.len : Nat) : Int) ∧ ∃ q8 : Addr, (l4.a : Option Addr) = some q8 ∧ ∃ n9 : Int, w7.cell? ((q8.add (Int.toNat n5 * 2)).add 0) = some (.int .i64 n9) ∧ ∃ n10 : Int, w7.cell? ((q8.add (Int.toNat n5 * 2)).add 1) = some (.int .i64 n10) ∧ LetW (w7.alloc (.cells #[.int .i64 0, .int .i64 0] 123)) fun w11 => MayN w11 ⟨w7.heap.size, 0, none⟩ 2 ∧ LetW (puts w11 ⟨w7.heap.size, 0, none⟩ 0 [.int .i64 n9, .int .i64 n10]) fun w12 => ∃ n13 : Int, w12.cell? ⟨w7.heap.size, 1, none⟩ = some (.int .i64 n13) ∧ 0 ≤ (n13 : Int) ∧ LoopW [.int .i64] (fun J15 => fun (n14 : Int) w16 => BIf (decide ((n14 : Int) < (shlI .i64 1 n13))) (∃ n17 : Int, w16.cell? ⟨w7.heap.size, 0, none⟩ = some (.int .i64 n17) ∧ 0 ≤ (IntKind.wrap .i64 (n17 + n14) : Int) ∧ (IntKind.wrap .i64 (n17 + n14) : Int) < ((Int.toNat n2 : Nat) : Int) ∧ ∃ q18 : Addr, (some ⟨w1.heap.size, 0, none⟩ : Option Addr) = some q18 ∧ May w16 (q18.add (Int.toNat (IntKind.wrap .i64 (n17 + n14)) * 1)) ∧ LetW (w16.setCell (q18.add (Int.toNat (IntKind.wrap .i64 (n17 + n14)) * 1)) (.bool true)) fun w19 => J15 (IntKind.wrap .i64 (n14 + 1)) w19) (J6 (IntKind.wrap .i64 (n5 + 1)) w16)) ((0 : Int), ()) w12) (K (.slice (some ⟨w1.heap.size, 0, none⟩) (Int.toNat n2) (Int.toNat n2)) w7)) ((0 : Int), ()) w3
theorem eq150 (a0_0 : Int) (a0_1 : Sl) (w : World) (K : Value → World → Prop) : denFn Try.prog tt Try.f150 an150 [.agg #[.int .i64 a0_0, .slice a0_1.a a0_1.len a0_1.cap]] w K = W150 a0_0 a0_1 w K := by kernel_rfl
theorem ok150 : OkFn Try.prog 150 := ⟨Try.f150, Try.func150, by kernel_rfl, by kernel_rfl⟩
theorem go150 {a0_0 : Int} {a0_1 : Sl} {w : World} {K : Value → World → Prop} (h : W150 a0_0 a0_1 w K) : CallW Try.prog 150 #[.agg #[.int .i64 a0_0, .slice a0_1.a a0_1.len a0_1.cap]] w K :=
  .inl ⟨ok150, denFn_sound tt_ok mix Try.func150 (by kernel_rfl) (eq150 a0_0 a0_1 w K ▸ h)⟩

/- loop.example/g00008/laws.szBlockS -/
def an151 : Ann := (.seq .leaf (.seq .leaf (.seq (.seq .leaf (.cond (.seq .leaf .leaf) .leaf)) (.seq .leaf .leaf))))
def W151 (a0 : Sl) (a1 : Int) (w : World) (K : Value → World → Prop) : Prop :=
  BIf (decide ((IntKind.wrap .i64 (a1 - ((a0.len : Nat) : Int)) : Int) < 0)) (K (.int .i64 (-1)) w) (K (.int .i64 (IntKind.wrap .i64 (a1 - ((a0.len : Nat) : Int)))) w)
theorem eq151 (a0 : Sl) (a1 : Int) (w : World) (K : Value → World → Prop) : denFn Try.prog tt Try.f151 an151 [.slice a0.a a0.len a0.cap, .int .i64 a1] w K = W151 a0 a1 w K := by kernel_rfl
theorem ok151 : OkFn Try.prog 151 := ⟨Try.f151, Try.func151, by kernel_rfl, by kernel_rfl⟩
theorem go151 {a0 : Sl} {a1 : Int} {w : World} {K : Value → World → Prop} (h : W151 a0 a1 w K) : CallW Try.prog 151 #[.slice a0.a a0.len a0.cap, .int .i64 a1] w K :=
  .inl ⟨ok151, denFn_sound tt_ok mix Try.func151 (by kernel_rfl) (eq151 a0 a1 w K ▸ h)⟩

/- loop.example/g00008/spec.l9Tables -/
def an152 : Ann := (.seq .leaf (.seq (.seq (.reg [(3, none), (5, some (31, [(28, .bool)])), (1, none), (5, some (31, [(34, .bool)])), (1, none), (5, some (31, [(40, .bool)]))]) (.cond (.seq .leaf .leaf) .leaf)) (.seq .leaf (.seq .leaf (.seq .leaf (.seq (.seq .leaf (.in_ (.loop 31 [(12, .slice), (13, .bool), (14, .int .i64)] (.seq (.seq .leaf (.cond .leaf .leaf)) (.seq (.in_ (.seq .leaf (.seq (.seq .leaf (.cond .leaf .leaf)) (.seq .leaf (.seq .leaf (.seq (.seq (.reg [(3, none), (7, some (127007, [(72, .bool)]))]) (.cond (.seq .leaf .leaf) .leaf)) (.seq .leaf (.cond (.seq .leaf (.seq .leaf (.seq (.seq .leaf (.cond (.seq .leaf .leaf) .leaf)) .leaf))) .leaf)))))))) .leaf))))) (.seq (.reg [(3, none), (3, some (316912650057057350374175801344, [(103, .bool)])), (2, none)]) .leaf)))))))
def W152 (a0 : Sl) (a1 : Sl) (a2 : Sl) (a3 : Int) (a4 : Int) (w : World) (K : Value → World → Prop) : Prop :=
  JoinW [.bool] (fun J2 => BIf (decide ((a3 : Int) < 0)) (J2 true w) (J2 (decide ((a3 : Int) ≥ ((a1.len : Nat) : Int))) w)) (fun (b1 : Bool) w3 => JoinW [.bool] (fun J5 => BIf b1 (J5 true w3) (0 ≤ (a3 : Int) ∧ (a3 : Int) < ((a1.len : Nat) : Int) ∧ ∃ q54 : Addr, (a1.a : Option Addr) = some q54 ∧ ∃ b55 : Bool, w3.cell? (q54.add (Int.toNat a3 * 1)) = some (.bool b55) ∧ J5 b55 w3)) (fun (b4 : Bool) w6 => JoinW [.bool] (fun J8 => BIf b4 (J8 true w6) (0 ≤ (a3 : Int) ∧ (a3 : Int) < ((a2.len : Nat) : Int) ∧ ∃ q52 : Addr, (a2.a : Option Addr) = some q52 ∧ ∃ b53 : Bool, w6.cell? (q52.add (Int.toNat a3 * 1)) = some (.bool b53) ∧ J8 b53 w6)) (fun (b7 : Bool) w9 => BIf b7 (LetW (w9.alloc (.cells #[] 2)) fun w10 => K (.tuple #[.slice (some ⟨w9.heap.size, 0, none⟩) 0 0, .bool false]) w10) (0 ≤ (a3 : Int) ∧ (a3 : Int) < ((a2.len : Nat) : Int) ∧ ∃ q11 : Addr, (a2.a : Option Addr) = some q11 ∧ May w9 (q11.add (Int.toNat a3 * 1)) ∧ LetW (w9.setCell (q11.add (Int.toNat a3 * 1)) (.bool true)) fun w12 => LetW (w12.alloc (.cells #[.int .i64 a3] 2)) fun w13 => LoopW [.slice, .bool, .int .i64] (fun J17 => fun (l14 : Sl) (b15 : Bool) (n16 : Int) w18 => BIf (decide ((n16 : Int) < 32)) (CallW Try.prog 124 #[.slice a0.a a0.len a0.cap, .int .i64 (IntKind.wrap .i64 ((IntKind.wrap .i64 (a3 * 256)) + (IntKind.wrap .i64 (8 * n16))))] w18 fun v19 w20 => ∃ n21 : Int, v19 = .int .u64 n21 ∧ BIf ((n21 : Int) == 0) (J17 l14 b15 (IntKind.wrap .i64 (n16 + 1)) w20) (CallW Try.prog 186 #[.int .u64 n21, .int .i64 a4] w20 fun v22 w23 => ∃ n24 : Int, v22 = .int .i64 n24 ∧ JoinW [.bool] (fun J26 => BIf (decide ((n24 : Int) < 0)) (J26 true w23) (BIf ((n24 : Int) == 1) (J26 (decide ((a4 : Int) > 0)) w23) (J26 false w23))) (fun (b25 : Bool) w27 => BIf b25 (K (.tuple #[.slice l14.a l14.len l14.cap, .bool false]) w27) (BIf ((n24 : Int) == 0) (CallW Try.prog 123 #[.int .u64 n21] w27 fun v28 w29 => ∃ b30 : Bool, ∃ b31 : Bool, ∃ b32 : Bool, ∃ b33 : Bool, ∃ b34 : Bool, ∃ b35 : Bool, ∃ b36 : Bool, ∃ b37 : Bool, ∃ n38 : Int, ∃ b39 : Bool, v28 = .tuple #[.agg #[.bool b30, .bool b31, .bool b32, .bool b33, .bool b34, .bool b35, .bool b36, .bool b37, .int .i64 n38], .bool b39] ∧ LetW (w29.alloc (.cells #[.bool false, .bool false, .bool false, .bool false, .bool false, .bool false, .bool false, .bool false, .int .i64 0] 81)) fun w40 => MayN w40 ⟨w29.heap.size, 0, none⟩ 9 ∧ LetW (puts w40 ⟨w29.heap.size, 0, none⟩ 0 [.bool b30, .bool b31, .bool b32, .bool b33, .bool b34, .bool b35, .bool b36, .bool b37, .int .i64 n38]) fun w41 => ∃ n42 : Int, w41.cell? ⟨w29.heap.size, 8, none⟩ = some (.int .i64 n42) ∧ CallW Try.prog 152 #[.slice a0.a a0.len a0.cap, .slice a1.a a1.len a1.cap, .slice a2.a a2.len a2.cap, .int .i64 n42, .int .i64 (IntKind.wrap .i64 (a4 - 1))] w41 fun v43 w44 => ∃ l45 : Sl, ∃ b46 : Bool, v43 = .tuple #[.slice l45.a l45.len l45.cap, .bool b46] ∧ BIf (!b46) (K (.tuple #[.slice l14.a l14.len l14.cap, .bool false]) w44) (AppendW 2 ti2 l14 l45 w44 fun l47 w48 => J17 l47 true (IntKind.wrap .i64 (n16 + 1)) w48)) (J17 l14 true (IntKind.wrap .i64 (n16 + 1)) w27))))) (JoinW [.bool] (fun J50 => BIf b15 (J50 true w18) (J50 ((a4 : Int) == 2) w18)) (fun (b49 : Bool) w51 => K (.tuple #[.slice l14.a l14.len l14.cap, .bool b49]) w51))) ((⟨some ⟨w12.heap.size, 0, none⟩, 1, 1⟩ : Sl), ((false : Bool), ((0 : Int), ()))) w13))))
theorem eq152 (a0 : Sl) (a1 : Sl) (a2 : Sl) (a3 : Int) (a4 : Int) (w : World) (K : Value → World → Prop) : denFn Try.prog tt Try.f152 an152 [.slice a0.a a0.len a0.cap, .slice a1.a a1.len a1.cap, .slice a2.a a2.len a2.cap, .int .i64 a3, .int .i64 a4] w K = W152 a0 a1 a2 a3 a4 w K := by kernel_rfl
theorem ok152 : OkFn Try.prog 152 := ⟨Try.f152, Try.func152, by kernel_rfl, by kernel_rfl⟩
theorem go152 {a0 : Sl} {a1 : Sl} {a2 : Sl} {a3 : Int} {a4 : Int} {w : World} {K : Value → World → Prop} (h : W152 a0 a1 a2 a3 a4 w K) : CallW Try.prog 152 #[.slice a0.a a0.len a0.cap, .slice a1.a a1.len a1.cap, .slice a2.a a2.len a2.cap, .int .i64 a3, .int .i64 a4] w K :=
  .inl ⟨ok152, denFn_sound tt_ok mix Try.func152 (by kernel_rfl) (eq152 a0 a1 a2 a3 a4 w K ▸ h)⟩

/- loop.example/g00008/spec.l8Set -/
def an153 : Ann := (.seq .leaf (.seq .leaf (.seq (.seq .leaf (.in_ (.loop 10 [(4, .int .i64)] (.seq (.seq .leaf (.cond .leaf .leaf)) (.seq (.in_ (.seq .leaf (.in_ (.loop 26 [(5, .int .i64)] (.seq (.seq .leaf (.cond .leaf .leaf)) (.seq (.in_ .leaf) .leaf)))))) .leaf))))) (.seq .leaf .leaf))))
def W153 (a0_0 : Int) (a0_1 : Sl) (w : World) (K : Value → World → Prop) : Prop :=
  LetW (w.alloc (.cells #[.int .i64 a0_0, .slice a0_1.a a0_1.len a0_1.cap] 63)) fun w1 => ∃ n2 : Int, w1.cell? ⟨w.heap.size, 0, none⟩ = some (.int .i64 n2) ∧ 0 ≤ (n2 : Int) ∧ (n2 : Int) ≤ (n2 : Int) ∧ (n2 : Int) * 1 ≤ (140737488355328 : Int) ∧ 0 < 1 ∧ LetW (w1.alloc (.cells ⟨zerosOf ti4.zero (Int.toNat n2)⟩ 4)) fun w3 => LoopW [.int .i64] (fun J5 => fun (n4 : Int) w6 => ∃ l7 : Sl, w6.cell? ⟨w.heap.size, 1, none⟩ = some (.slice l7.a l7.len l7.cap) ∧ BIf (decide ((n4 : Int) < ((l7.len : Nat) : Int))) (LoopW [.int .i64] (fun J9 => fun (n8 : Int) w10 => ∃ l11 : Sl, w10.cell? ⟨w.heap.size, 1, none⟩ = some (.slice l11.a l11.len l11.cap) ∧ 0 ≤ (n4 : Int) ∧ (n4 : Int) < ((l11.len : Nat) : Int) ∧ ∃ q12 : Addr, (l11.a : Option Addr) = some q12 ∧ ∃ n13 : Int, w10.cell? ((q12.add (Int.toNat n4 * 2)).add 1) = some (.int .i64 n13) ∧ CallW Try.prog 176 #[.int .i64 n13] w10 fun v14 w15 => ∃ n16 : Int, v14 = .int .i64 n16 ∧ BIf (decide ((n8 : Int) < n16)) (∃ l17 : Sl, w15.cell? ⟨w.heap.size, 1, none⟩ = some (.slice l17.a l17.len l17.cap) ∧ 0 ≤ (n4 : Int) ∧ (n4 : Int) < ((l17.len : Nat) : Int) ∧ ∃ q18 : Addr, (l17.a : Option Addr) = some q18 ∧ ∃ n19 : Int, w15.cell? ((q18.add (Int.toNat n4 * 2)).add 0) = some (.int .i64 n19) ∧ 0 ≤ (IntKind.wrap .i64 (n19 + n8) : Int) ∧ (IntKind.wrap .i64 (n19 + n8) : Int) < ((Int.toNat n2 : Nat) : Int) ∧ ∃ q20 : Addr, (some ⟨w1.heap.size, 0, none⟩ : Option Addr) = some q20 ∧ May w15 (q20.add (Int.toNat (IntKind.wrap .i64 (n19 + n8)) * 1)) ∧ LetW (w15.setCell (q20.add (Int.toNat (IntKind.wrap .i64 (n19 + n8)) * 1)) (.bool true)) fun w21 => J9 (IntKind.wrap .i64 (n8 + 1)) w21) (J5 (IntKind.wrap .i64 (n4 + 1)) w15)) ((0 : Int), ()) w6) (K (.slice (some ⟨w1.heap.size, 0, none⟩) (Int.toNat n2) (Int.toNat n2)) w6)) ((0 : Int), ()) w3
theorem eq153 (a0_0 : Int) (a0_1 : Sl) (w : World) (K : Value → World → Prop) : denFn Try.prog tt Try.f153 an153 [.agg #[.int .i64 a0_0, .slice a0_1.a a0_1.len a0_1.cap]] w K = W153 a0_0 a0_1 w K := by kernel_rfl
theorem ok153 : OkFn Try.prog 153 := ⟨Try.f153, Try.func153, by kernel_rfl, by kernel_rfl⟩
theorem go153 {a0_0 : Int} {a0_1 : Sl} {w : World} {K : Value → World → Prop} (h : W153 a0_0 a0_1 w K) : CallW Try.prog 153 #[.agg #[.int .i64 a0_0, .slice a0_1.a a0_1.len a0_1.cap]] w K :=
  .inl ⟨ok153, denFn_sound tt_ok mix Try.func153 (by kernel_rfl) (eq153 a0_0 a0_1 w K ▸ h)⟩

/- loop.example/g00008/laws.toBlockS -/
def an154 : Ann := (.seq .leaf (.seq .leaf (.seq (.seq .leaf (.in_ (.loop 9 [(4, .int .i64)] (.seq (.seq .leaf (.cond .leaf .leaf)) (.seq (.in_ .leaf) .leaf))))) (.seq .leaf .leaf))))
def W154 (a0 : Sl) (w : World) (K : Value → World → Prop) : Prop :=
  0 ≤ ((a0.len : Nat) : Int) ∧ ((a0.len : Nat) : Int) ≤ ((a0.len : Nat) : Int) ∧ ((a0.len : Nat) : Int) * 16 ≤ (140737488355328 : Int) ∧ 0 < 16 ∧ LetW (w.alloc (.cells ⟨zerosOf ti123.zero (Int.toNat ((a0.len : Nat) : Int))⟩ 123)) fun w1 => LoopW [.int .i64] (fun J3 => fun (n2 : Int) w4 => BIf (decide ((n2 : Int) < ((a0.len : Nat) : Int))) (0 ≤ (n2 : Int) ∧ (n2 : Int) < ((a0.len : Nat) : Int) ∧ ∃ q5 : Addr, (a0.a : Option Addr) = some q5 ∧ ∃ n6 : Int, w4.cell? ((q5.add (Int.toNat n2 * 2)).add 0) = some (.int .i64 n6) ∧ ∃ n7 : Int, w4.cell? ((q5.add (Int.toNat n2 * 2)).add 1) = some (.int .i64 n7) ∧ CallW Try.prog 187 #[.agg #[.int .i64 n6, .int .i64 n7]] w4 fun v8 w9 => ∃ n10 : Int, ∃ n11 : Int, v8 = .agg #[.int .i64 n10, .int .i64 n11] ∧ 0 ≤ (n2 : Int) ∧ (n2 : Int) < ((Int.toNat ((a0.len : Nat) : Int) : Nat) : Int) ∧ ∃ q12 : Addr, (some ⟨w.heap.size, 0, none⟩ : Option Addr) = some q12 ∧ MayN w9 (q12.add (Int.toNat n2 * 2)) 2 ∧ LetW (puts w9 (q12.add (Int.toNat n2 * 2)) 0 [.int .i64 n10, .int .i64 n11]) fun w13 => J3 (IntKind.wrap .i64 (n2 + 1)) w13) (K (.slice (some ⟨w.heap.size, 0, none⟩) (Int.toNat ((a0.len : Nat) : Int)) (Int.toNat ((a0.len : Nat) : Int))) w4)) ((0 : Int), ()) w1
theorem eq154 (a0 : Sl) (w : World) (K : Value → World → Prop) : denFn Try.prog tt Try.f154 an154 [.slice a0.a a0.len a0.cap] w K = W154 a0 w K := by kernel_rfl
theorem ok154 : OkFn Try.prog 154 := ⟨Try.f154, Try.func154, by kernel_rfl, by kernel_rfl⟩
theorem go154 {a0 : Sl} {w : World} {K : Value → World → Prop} (h : W154 a0 w K) : CallW Try.prog 154 #[.slice a0.a a0.len a0.cap] w K :=
  .inl ⟨ok154, denFn_sound tt_ok mix Try.func154 (by kernel_rfl) (eq154 a0 w K ▸ h)⟩

/- loop.example/g00008/impl.memOk -/
def an155 : Ann := (.seq .leaf (.seq (.reg [(5, none), (4, some (0, [(11, .bool)])), (1, none)]) .leaf))
def W155 (a0 : Sl) (w : World) (K : Value → World → Prop) : Prop :=
  (256 : Int) ≠ 0 ∧ JoinW [.bool] (fun J2 => BIf ((Int.tmod ((a0.len : Nat) : Int) 256 : Int) == 0) (J2 (decide ((((a0.len : Nat) : Int) : Int) ≤ 262144)) w) (J2 false w)) (fun (b1 : Bool) w3 => K (.bool b1) w3)
theorem eq155 (a0 : Sl) (w : World) (K : Value → World → Prop) : denFn Try.prog tt Try.f155 an155 [.slice a0.a a0.len a0.cap] w K = W155 a0 w K := by kernel_rfl
theorem ok155 : OkFn Try.prog 155 := ⟨Try.f155, Try.func155, by kernel_rfl, by kernel_rfl⟩
theorem go155 {a0 : Sl} {w : World} {K : Value → World → Prop} (h : W155 a0 w K) : CallW Try.prog 155 #[.slice a0.a a0.len a0.cap] w K :=
  .inl ⟨ok155, denFn_sound tt_ok mix Try.func155 (by kernel_rfl) (eq155 a0 w K ▸ h)⟩

/- loop.example/g00008/impl.copied -/
def an156 : Ann := (.seq .leaf (.seq .leaf .leaf))
def W156 (a0 : Sl) (w : World) (K : Value → World → Prop) : Prop :=
  AppendW 5 ti5 ⟨none, 0, 0⟩ a0 w fun l1 w2 => K (.slice l1.a l1.len l1.cap) w2
theorem eq156 (a0 : Sl) (w : World) (K : Value → World → Prop) : denFn Try.prog tt Try.f156 an156 [.slice a0.a a0.len a0.cap] w K = W156 a0 w K := by kernel_rfl
theorem ok156 : OkFn Try.prog 156 := ⟨Try.f156, Try.func156, by kernel_rfl, by kernel_rfl⟩
theorem go156 {a0 : Sl} {w : World} {K : Value → World → Prop} (h : W156 a0 w K) : CallW Try.prog 156 #[.slice a0.a a0.len a0.cap] w K :=
  .inl ⟨ok156, denFn_sound tt_ok mix Try.func156 (by kernel_rfl) (eq156 a0 w K ▸ h)⟩

/- (*loop.example/g00008/impl.pool).tables$1 -/
def an157 : Ann := (.seq .leaf (.seq (.seq (.reg [(3, none), (5, some (127, [(21, .bool)])), (1, none), (5, some (123, [(27, .bool)])), (1, none), (4, some (123, [(32, .bool)]))]) (.cond (.seq .leaf .leaf) .leaf)) (.seq .leaf (.seq .leaf (.seq .leaf (.seq (.seq .leaf (.in_ (.loop 99 [(10, .bool), (41, .int .i64)] (.seq .leaf (.seq (.cond .leaf .leaf) (.seq (.in_ (.seq .leaf (.seq .leaf (.seq (.seq .leaf (.cond .leaf .leaf)) (.seq .leaf (.seq .leaf (.seq (.seq (.reg [(4, none), (4, some (2199023264867, [(59, .bool)]))]) (.cond (.seq .leaf .leaf) .leaf)) (.seq (.seq (.reg [(3, none), (3, some (2199023264867, [(65, .bool)])), (1, none), (3, some (2199023264867, [(69, .bool)]))]) (.cond (.seq (.seq (.reg [(3, none), (8, some (2199023256675, [(80, .bool)]))]) (.cond (.seq .leaf .leaf) .leaf)) .leaf) .leaf)) (.seq (.reg [(3, none), (3, some (2199023264867, [(86, .bool)])), (1, none), (3, some (2199023264867, [(90, .bool)])), (1, none), (3, some (2199023264867, [(94, .bool)])), (1, none), (8, some (2199023256675, [(103, .bool)]))]) (.cond (.seq .leaf .leaf) .leaf)))))))))) .leaf)))))) (.seq .leaf .leaf)))))))
def W157 (a0 : Int) (a1 : Int) (c0 : Addr) (c1 : Addr) (c2 : Addr) (c3 : Addr) (c4 : Addr) (w : World) (K : Value → World → Prop) : Prop :=
  JoinW [.bool] (fun J2 => BIf (decide ((a0 : Int) < 0)) (J2 true w) (∃ l82 : Sl, w.cell? c0 = some (.slice l82.a l82.len l82.cap) ∧ J2 (decide ((a0 : Int) ≥ ((l82.len : Nat) : Int))) w)) (fun (b1 : Bool) w3 => JoinW [.bool] (fun J5 => BIf b1 (J5 true w3) (∃ l79 : Sl, w3.cell? c0 = some (.slice l79.a l79.len l79.cap) ∧ 0 ≤ (a0 : Int) ∧ (a0 : Int) < ((l79.len : Nat) : Int) ∧ ∃ q80 : Addr, (l79.a : Option Addr) = some q80 ∧ ∃ b81 : Bool, w3.cell? (q80.add (Int.toNat a0 * 1)) = some (.bool b81) ∧ J5 b81 w3)) (fun (b4 : Bool) w6 => JoinW [.bool] (fun J8 => BIf b4 (J8 true w6) (∃ m76 : Option Nat, w6.cell? c1 = some (.map m76) ∧ MapGetW w6 m76 (.int .i64 a0) fun o77 => ∃ b78 : Bool, valOr o77 (.bool false) = (.bool b78 : Value) ∧ J8 b78 w6)) (fun (b7 : Bool) w9 => BIf b7 (K (.bool false) w9) (∃ m10 : Option Nat, w9.cell? c1 = some (.map m10) ∧ MapPutW w9 m10 (.int .i64 a0) (.bool true) fun w11 => ∃ l12 : Sl, w11.cell? c2 = some (.slice l12.a l12.len l12.cap) ∧ LetW (w11.alloc (.cells #[.int .i64 a0] 2)) fun w13 => AppendW 2 ti2 l12 ⟨some ⟨w11.heap.size, 0, none⟩, 1, 1⟩ w13 fun l14 w15 => May w15 c2 ∧ LetW (w15.setCell c2 (.slice l14.a l14.len l14.cap)) fun w16 => LoopW [.bool, .int .i64] (fun J19 => fun (b17 : Bool) (n18 : Int) w20 => BIf (decide ((n18 : Int) < 32)) (∃ p21 : Option Addr, w20.cell? c3 = some (.pointer p21) ∧ CallW Try.prog 126 #[.pointer p21, .int .i64 a0, .int .i64 n18] w20 fun v22 w23 => ∃ n24 : Int, v22 = .int .u64 n24 ∧ BIf ((n24 : Int) == 0) (J19 b17 (IntKind.wrap .i64 (n18 + 1)) w23) (CallW Try.prog 127 #[.int .u64 n24] w23 fun v25 w26 => ∃ b27 : Bool, ∃ b28 : Bool, ∃ b29 : Bool, ∃ b30 : Bool, ∃ b31 : Bool, ∃ b32 : Bool, ∃ b33 : Bool, ∃ b34 : Bool, ∃ n35 : Int, v25 = .agg #[.bool b27, .bool b28, .bool b29, .bool b30, .bool b31, .bool b32, .bool b33, .bool b34, .int .i64 n35] ∧ LetW (w26.alloc (.cells #[.bool false, .bool false, .bool false, .bool false, .bool false, .bool false, .bool false, .bool false, .int .i64 0] 81)) fun w36 => MayN w36 ⟨w26.heap.size, 0, none⟩ 9 ∧ LetW (puts w36 ⟨w26.heap.size, 0, none⟩ 0 [.bool b27, .bool b28, .bool b29, .bool b30, .bool b31, .bool b32, .bool b33, .bool b34, .int .i64 n35]) fun w37 => ∃ b38 : Bool, w37.cell? ⟨w26.heap.size, 0, none⟩ = some (.bool b38) ∧ JoinW [.bool] (fun J40 => BIf (!b38) (J40 true w37) (0 ≤ (20 : Int) ∧ J40 ((shrI .u64 n24 20 : Int) != 0) w37)) (fun (b39 : Bool) w41 => BIf b39 (K (.bool false) w41) (∃ b42 : Bool, w41.cell? ⟨w26.heap.size, 1, none⟩ = some (.bool b42) ∧ JoinW [.bool] (fun J44 => BIf b42 (J44 true w41) (∃ b75 : Bool, w41.cell? ⟨w26.heap.size, 2, none⟩ = some (.bool b75) ∧ J44 b75 w41)) (fun (b43 : Bool) w45 => JoinW [.bool] (fun J47 => BIf b43 (J47 true w45) (∃ b74 : Bool, w45.cell? ⟨w26.heap.size, 3, none⟩ = some (.bool b74) ∧ J47 b74 w45)) (fun (b46 : Bool) w48 => BIf b46 (JoinW [.bool] (fun J50 => BIf ((a1 : Int) != 0) (J50 true w48) (∃ b52 : Bool, w48.cell? ⟨w26.heap.size, 2, none⟩ = some (.bool b52) ∧ BIf b52 (∃ b53 : Bool, w48.cell? ⟨w26.heap.size, 1, none⟩ = some (.bool b53) ∧ J50 (!b53) w48) (J50 false w48))) (fun (b49 : Bool) w51 => BIf b49 (K (.bool false) w51) (J19 true (IntKind.wrap .i64 (n18 + 1)) w51))) (JoinW [.bool] (fun J55 => BIf ((a1 : Int) == 0) (J55 true w48) (∃ b73 : Bool, w48.cell? ⟨w26.heap.size, 4, none⟩ = some (.bool b73) ∧ J55 b73 w48)) (fun (b54 : Bool) w56 => JoinW [.bool] (fun J58 => BIf b54 (J58 true w56) (∃ b72 : Bool, w56.cell? ⟨w26.heap.size, 5, none⟩ = some (.bool b72) ∧ J58 b72 w56)) (fun (b57 : Bool) w59 => JoinW [.bool] (fun J61 => BIf b57 (J61 true w59) (∃ b71 : Bool, w59.cell? ⟨w26.heap.size, 6, none⟩ = some (.bool b71) ∧ J61 b71 w59)) (fun (b60 : Bool) w62 => JoinW [.bool] (fun J64 => BIf b60 (J64 true w62) (∃ f66 : FnV, w62.cell? c4 = some (.func (.func f66.g) ⟨f66.x⟩ ⟨f66.c⟩) ∧ ∃ n67 : Int, w62.cell? ⟨w26.heap.size, 8, none⟩ = some (.int .i64 n67) ∧ CallW Try.prog f66.g ⟨f66.x ++ ([.int .i64 n67, .int .i64 (IntKind.wrap .i64 (a1 - 1))] ++ f66.c)⟩ w62 fun v68 w69 => ∃ b70 : Bool, v68 = .bool b70 ∧ J64 (!b70) w69)) (fun (b63 : Bool) w65 => BIf b63 (K (.bool false) w65) (J19 true (IntKind.wrap .i64 (n18 + 1)) w65)))))))))))) (K (.bool b17) w20)) (((a1 : Int) == 2 : Bool), ((0 : Int), ())) w16))))
theorem eq157 (a0 : Int) (a1 : Int) (c0 : Addr) (c1 : Addr) (c2 : Addr) (c3 : Addr) (c4 : Addr) (w : World) (K : Value → World → Prop) : denFn Try.prog tt Try.f157 an157 [.int .i64 a0, .int .i64 a1, .pointer (some c0), .pointer (some c1), .pointer (some c2), .pointer (some c3), .pointer (some c4)] w K = W157 a0 a1 c0 c1 c2 c3 c4 w K := by kernel_rfl
theorem ok157 : OkFn Try.prog 157 := ⟨Try.f157, Try.func157, by kernel_rfl, by kernel_rfl⟩
theorem go157 {a0 : Int} {a1 : Int} {c0 : Addr} {c1 : Addr} {c2 : Addr} {c3 : Addr} {c4 : Addr} {w : World} {K : Value → World → Prop} (h : W157 a0 a1 c0 c1 c2 c3 c4 w K) : CallW Try.prog 157 #[.int .i64 a0, .int .i64 a1, .pointer (some c0), .pointer (some c1), .pointer (some c2), .pointer (some c3), .pointer (some c4)] w K :=
  .inl ⟨ok157, denFn_sound tt_ok mix Try.func157 (by kernel_rfl) (eq157 a0 a1 c0 c1 c2 c3 c4 w K ▸ h)⟩

/- loop.example/g00008/laws.eqBlockS -/
def an158 : Ann := (.seq .leaf (.seq (.seq .leaf (.cond (.seq .leaf .leaf) .leaf)) (.seq (.seq .leaf (.in_ (.loop 3 [(5, .int .i64)] (.seq (.seq .leaf (.cond .leaf .leaf)) (.seq (.in_ (.seq (.draw [0, 0, 3, 7, 0, 0, 48, 112, 255, 511] [0, 1, 2, 3, 4, 5, 6, 7, 8, 9]) (.cond (.seq .leaf .leaf) .leaf))) .leaf))))) (.seq .leaf .leaf))))
def W158 (a0 : Sl) (a1 : Sl) (w : World) (K : Value → World → Prop) : Prop :=
  BIf ((((a0.len : Nat) : Int) : Int) != ((a1.len : Nat) : Int)) (K (.bool false) w) (LoopW [.int .i64] (fun J2 => fun (n1 : Int) w3 => BIf (decide ((n1 : Int) < ((a0.len : Nat) : Int))) (0 ≤ (n1 : Int) ∧ (n1 : Int) < ((a0.len : Nat) : Int) ∧ ∃ q4 : Addr, (a0.a : Option Addr) = some q4 ∧ ∃ n5 : Int, w3.drew.cell? ((q4.add (Int.toNat n1 * 2)).add 0) = some (.int .i64 n5) ∧ ∃ n6 : Int, w3.drew.cell? ((q4.add (Int.toNat n1 * 2)).add 1) = some (.int .i64 n6) ∧ 0 ≤ (n1 : Int) ∧ (n1 : Int) < ((a1.len : Nat) : Int) ∧ ∃ q7 : Addr, (a1.a : Option Addr) = some q7 ∧ ∃ n8 : Int, w3.drew.cell? ((q7.add (Int.toNat n1 * 2)).add 0) = some (.int .i64 n8) ∧ ∃ n9 : Int, w3.drew.cell? ((q7.add (Int.toNat n1 * 2)).add 1) = some (.int .i64 n9) ∧ CallW Try.prog 188 #[.agg #[.int .i64 n5, .int .i64 n6], .agg #[.int .i64 n8, .int .i64 n9]] w3.drew fun v10 w11 => ∃ b12 : Bool, v10 = .bool b12 ∧ BIf (!b12) (K (.bool false) w11) (J2 (IntKind.wrap .i64 (n1 + 1)) w11)) (K (.bool true) w3)) ((0 : Int), ()) w)
theorem eq158 (a0 : Sl) (a1 : Sl) (w : World) (K : Value → World → Prop) : denFn Try.prog tt Try.f158 an158 [.slice a0.a a0.len a0.cap, .slice a1.a a1.len a1.cap] w K = W158 a0 a1 w K := by kernel_rfl
theorem ok158 : OkFn Try.prog 158 := ⟨Try.f158, Try.func158, by kernel_rfl, by kernel_rfl⟩
theorem go158 {a0 : Sl} {a1 : Sl} {w : World} {K : Value → World → Prop} (h : W158 a0 a1 w K) : CallW Try.prog 158 #[.slice a0.a a0.len a0.cap, .slice a1.a a1.len a1.cap] w K :=
  .inl ⟨ok158, denFn_sound tt_ok mix Try.func158 (by kernel_rfl) (eq158 a0 a1 w K ▸ h)⟩

/- loop.example/g00008/spec.l6MemOk -/
def an159 : Ann := (.seq .leaf (.seq (.reg [(5, none), (4, some (0, [(11, .bool)])), (1, none)]) .leaf))
def W159 (a0 : Sl) (w : World) (K : Value → World → Prop) : Prop :=
  (256 : Int) ≠ 0 ∧ JoinW [.bool] (fun J2 => BIf ((Int.tmod ((a0.len : Nat) : Int) 256 : Int) == 0) (J2 (decide ((((a0.len : Nat) : Int) : Int) ≤ 262144)) w) (J2 false w)) (fun (b1 : Bool) w3 => K (.bool b1) w3)
theorem eq159 (a0 : Sl) (w : World) (K : Value → World → Prop) : denFn Try.prog tt Try.f159 an159 [.slice a0.a a0.len a0.cap] w K = W159 a0 w K := by kernel_rfl
theorem ok159 : OkFn Try.prog 159 := ⟨Try.f159, Try.func159, by kernel_rfl, by kernel_rfl⟩
theorem go159 {a0 : Sl} {w : World} {K : Value → World → Prop} (h : W159 a0 w K) : CallW Try.prog 159 #[.slice a0.a a0.len a0.cap] w K :=
  .inl ⟨ok159, denFn_sound tt_ok mix Try.func159 (by kernel_rfl) (eq159 a0 w K ▸ h)⟩

/- loop.example/g00008/spec.FramesOk -/
def an160 : Ann := (.seq .leaf (.seq (.seq (.reg [(4, none), (4, some (2, [(14, .bool)]))]) (.cond (.seq .leaf .leaf) .leaf)) (.seq .leaf (.seq (.seq .leaf (.in_ (.loop 2 [(3, .int .i64), (4, .int .i64)] (.seq (.seq .leaf (.cond .leaf .leaf)) (.seq (.in_ (.seq .leaf (.seq (.seq (.reg [(6, none), (5, some (58, [(37, .bool)]))]) (.cond (.seq .leaf .leaf) .leaf)) (.seq .leaf (.seq (.join 114 [(78, .bool)] (.draw [0, 1, 3, 7, 15, 7, 39, 127, 255, 511, 7, 1031, 4095, 8191, 16383, 32767, 65535, 131071, 262143, 524287, 1048575, 2097151, 1048575, 8388607, 16777215, 33554431, 67108863, 134217727, 67108863, 335544319, 1073741823, 2147483647, 4294967295, 67108863, 8657043455, 34359738367, 68719476735, 137438953471] [0, 1, 2, 3, 4, 5, 6, 7, 8, 9, 10, 11, 12, 13, 14, 15, 16, 17, 18, 19, 20, 21, 22, 23, 24, 25, 26, 27, 28, 29, 30, 31, 32, 33, 34, 35, 36, 37]) (.cond (.seq .leaf .leaf) .leaf)) .leaf))))) .leaf))))) (.seq .leaf .leaf)))))
def W160 (a0_0 : Int) (a0_1 : Sl) (w : World) (K : Value → World → Prop) : Prop :=
  LetW (w.alloc (.cells #[.int .i64 a0_0, .slice a0_1.a a0_1.len a0_1.cap] 63)) fun w1 => ∃ n2 : Int, w1.cell? ⟨w.heap.size, 0, none⟩ = some (.int .i64 n2) ∧ JoinW [.bool] (fun J4 => BIf (decide ((n2 : Int) < 0)) (J4 true w1) (∃ n44 : Int, w1.cell? ⟨w.heap.size, 0, none⟩ = some (.int .i64 n44) ∧ J4 (decide ((n44 : Int) > 1024)) w1)) (fun (b3 : Bool) w5 => BIf b3 (K (.bool false) w5) (LoopW [.int .i64, .int .i64] (fun J8 => fun (n6 : Int) (n7 : Int) w9 => ∃ l10 : Sl, w9.cell? ⟨w.heap.size, 1, none⟩ = some (.slice l10.a l10.len l10.cap) ∧ BIf (decide ((n7 : Int) < ((l10.len : Nat) : Int))) (∃ l11 : Sl, w9.cell? ⟨w.heap.size, 1, none⟩ = some (.slice l11.a l11.len l11.cap) ∧ 0 ≤ (n7 : Int) ∧ (n7 : Int) < ((l11.len : Nat) : Int) ∧ ∃ q12 : Addr, (l11.a : Option Addr) = some q12 ∧ ∃ n13 : Int, w9.cell? ((q12.add (Int.toNat n7 * 2)).add 0) = some (.int .i64 n13) ∧ ∃ n14 : Int, w9.cell? ((q12.add (Int.toNat n7 * 2)).add 1) = some (.int .i64 n14) ∧ LetW (w9.alloc (.cells #[.int .i64 0, .int .i64 0] 123)) fun w15 => MayN w15 ⟨w9.heap.size, 0, none⟩ 2 ∧ LetW (puts w15 ⟨w9.heap.size, 0, none⟩ 0 [.int .i64 n13, .int .i64 n14]) fun w16 => ∃ n17 : Int, w16.cell? ⟨w.heap.size, 0, none⟩ = some (.int .i64 n17) ∧ ∃ n18 : Int, w16.cell? ⟨w9.heap.size, 0, none⟩ = some (.int .i64 n18) ∧ ∃ n19 : Int, w16.cell? ⟨w9.heap.size, 1, none⟩ = some (.int .i64 n19) ∧ CallW Try.prog 145 #[.int .i64 n17, .agg #[.int .i64 n18, .int .i64 n19]] w16 fun v20 w21 => ∃ b22 : Bool, v20 = .bool b22 ∧ JoinW [.bool] (fun J24 => BIf (!b22) (J24 true w21) (∃ n43 : Int, w21.cell? ⟨w9.heap.size, 0, none⟩ = some (.int .i64 n43) ∧ J24 (decide ((n43 : Int) < n6)) w21)) (fun (b23 : Bool) w25 => BIf b23 (K (.bool false) w25) (∃ n26 : Int, w25.cell? ⟨w9.heap.size, 1, none⟩ = some (.int .i64 n26) ∧ CallW Try.prog 176 #[.int .i64 n26] w25 fun v27 w28 => ∃ n29 : Int, v27 = .int .i64 n29 ∧ JoinW [.bool] (fun J31 => BIf (decide ((n7 : Int) > 0)) (∃ l34 : Sl, w28.drew.cell? ⟨w.heap.size, 1, none⟩ = some (.slice l34.a l34.len l34.cap) ∧ 0 ≤ (IntKind.wrap .i64 (n7 - 1) : Int) ∧ (IntKind.wrap .i64 (n7 - 1) : Int) < ((l34.len : Nat) : Int) ∧ ∃ q35 : Addr, (l34.a : Option Addr) = some q35 ∧ ∃ n36 : Int, w28.drew.cell? ((q35.add (Int.toNat (IntKind.wrap .i64 (n7 - 1)) * 2)).add 1) = some (.int .i64 n36) ∧ ∃ n37 : Int, w28.drew.cell? ⟨w9.heap.size, 1, none⟩ = some (.int .i64 n37) ∧ BIf ((n36 : Int) == n37) (∃ n38 : Int, w28.drew.cell? ⟨w9.heap.size, 1, none⟩ = some (.int .i64 n38) ∧ BIf (decide ((n38 : Int) < 10)) (∃ n39 : Int, w28.drew.cell? ⟨w9.heap.size, 0, none⟩ = some (.int .i64 n39) ∧ BIf ((n39 : Int) == n6) (∃ l40 : Sl, w28.drew.cell? ⟨w.heap.size, 1, none⟩ = some (.slice l40.a l40.len l40.cap) ∧ 0 ≤ (IntKind.wrap .i64 (n7 - 1) : Int) ∧ (IntKind.wrap .i64 (n7 - 1) : Int) < ((l40.len : Nat) : Int) ∧ ∃ q41 : Addr, (l40.a : Option Addr) = some q41 ∧ ∃ n42 : Int, w28.drew.cell? ((q41.add (Int.toNat (IntKind.wrap .i64 (n7 - 1)) * 2)).add 0) = some (.int .i64 n42) ∧ (IntKind.wrap .i64 (2 * n29) : Int) ≠ 0 ∧ J31 ((Int.tmod n42 (IntKind.wrap .i64 (2 * n29)) : Int) == 0) w28.drew) (J31 false w28.drew)) (J31 false w28.drew)) (J31 false w28.drew)) (J31 false w28.drew)) (fun (b30 : Bool) w32 => BIf b30 (K (.bool false) w32) (∃ n33 : Int, w32.cell? ⟨w9.heap.size, 0, none⟩ = some (.int .i64 n33) ∧ J8 (IntKind.wrap .i64 (n33 + n29)) (IntKind.wrap .i64 (n7 + 1)) w32))))) (K (.bool true) w9)) ((0 : Int), ((0 : Int), ())) w5))
theorem eq160 (a0_0 : Int) (a0_1 : Sl) (w : World) (K : Value → World → Prop) : denFn Try.prog tt Try.f160 an160 [.agg #[.int .i64 a0_0, .slice a0_1.a a0_1.len a0_1.cap]] w K = W160 a0_0 a0_1 w K := by kernel_rfl
theorem ok160 : OkFn Try.prog 160 := ⟨Try.f160, Try.func160, by kernel_rfl, by kernel_rfl⟩
theorem go160 {a0_0 : Int} {a0_1 : Sl} {w : World} {K : Value → World → Prop} (h : W160 a0_0 a0_1 w K) : CallW Try.prog 160 #[.agg #[.int .i64 a0_0, .slice a0_1.a a0_1.len a0_1.cap]] w K :=
  .inl ⟨ok160, denFn_sound tt_ok mix Try.func160 (by kernel_rfl) (eq160 a0_0 a0_1 w K ▸ h)⟩

/- loop.example/g00008/laws.markBlockS -/
def an164 : Ann := (.seq .leaf (.seq (.seq .leaf (.in_ (.loop 1 [(1, .int .i64), (5, .int .i64)] (.seq (.seq .leaf (.cond .leaf .leaf)) (.seq (.in_ (.seq .leaf (.seq .leaf (.seq .leaf .leaf)))) .leaf))))) (.seq .leaf .leaf)))
def W164 (a0 : Sl) (a1 : Int) (w : World) (K : Value → World → Prop) : Prop :=
  LoopW [.int .i64, .int .i64] (fun J3 => fun (n1 : Int) (n2 : Int) w4 => BIf (decide ((n2 : Int) < ((a0.len : Nat) : Int))) (0 ≤ (n2 : Int) ∧ (n2 : Int) < ((a0.len : Nat) : Int) ∧ ∃ q5 : Addr, (a0.a : Option Addr) = some q5 ∧ May w4 ((q5.add (Int.toNat n2 * 2)).add 0) ∧ LetW (w4.setCell ((q5.add (Int.toNat n2 * 2)).add 0) (.int .i64 n1)) fun w6 => 0 ≤ (n2 : Int) ∧ (n2 : Int) < ((a0.len : Nat) : Int) ∧ ∃ q7 : Addr, (a0.a : Option Addr) = some q7 ∧ May w6 ((q7.add (Int.toNat n2 * 2)).add 1) ∧ LetW (w6.setCell ((q7.add (Int.toNat n2 * 2)).add 1) (.int .i64 (IntKind.wrap .i64 (n1 + 1)))) fun w8 => J3 (IntKind.wrap .i64 ((IntKind.wrap .i64 (n1 + 1)) + 1)) (IntKind.wrap .i64 (n2 + 1)) w8) (K (.int .i64 n1) w4)) ((a1 : Int), ((0 : Int), ())) w
theorem eq164 (a0 : Sl) (a1 : Int) (w : World) (K : Value → World → Prop) : denFn Try.prog tt Try.f164 an164 [.slice a0.a a0.len a0.cap, .int .i64 a1] w K = W164 a0 a1 w K := by kernel_rfl
theorem ok164 : OkFn Try.prog 164 := ⟨Try.f164, Try.func164, by kernel_rfl, by kernel_rfl⟩
theorem go164 {a0 : Sl} {a1 : Int} {w : World} {K : Value → World → Prop} (h : W164 a0 a1 w K) : CallW Try.prog 164 #[.slice a0.a a0.len a0.cap, .int .i64 a1] w K :=
  .inl ⟨ok164, denFn_sound tt_ok mix Try.func164 (by kernel_rfl) (eq164 a0 a1 w K ▸ h)⟩

/- loop.example/g00008/spec.l6Below -/
def an166 : Ann := (.seq .leaf (.seq .leaf (.seq (.seq (.reg [(3, none), (6, some (527, [(26, .bool)]))]) (.cond (.seq .leaf .leaf) .leaf)) (.seq (.seq .leaf (.in_ (.loop 15 [(9, .slice), (10, .int .i64)] (.seq (.seq .leaf (.cond .leaf .leaf)) (.seq (.in_ (.seq .leaf (.seq .leaf (.seq .leaf (.seq .leaf (.in_ (.seq .leaf (.cond (.seq .leaf .leaf) (.seq .leaf (.cond .leaf .leaf)))))))))) .leaf))))) (.seq .leaf .leaf)))))
def W166 (a0 : Sl) (a1 : Int) (a2 : Int) (a3 : Int) (w : World) (K : Value → World → Prop) : Prop :=
  LetW (w.alloc (.cells #[] 91)) fun w1 => JoinW [.bool] (fun J3 => BIf (decide ((a1 : Int) < 0)) (J3 true w1) ((256 : Int) ≠ 0 ∧ J3 (decide ((a1 : Int) ≥ (IntKind.wrap .i64 (Int.tdiv ((a0.len : Nat) : Int) 256)))) w1)) (fun (b2 : Bool) w4 => BIf b2 (K (.slice (some ⟨w.heap.size, 0, none⟩) 0 0) w4) (LoopW [.slice, .int .i64] (fun J7 => fun (l5 : Sl) (n6 : Int) w8 => BIf (decide ((n6 : Int) < 32)) (0 ≤ (IntKind.wrap .i64 ((IntKind.wrap .i64 ((IntKind.wrap .i64 (a1 * 256)) + (IntKind.wrap .i64 (8 * n6)))) + 8) : Int) ∧ (IntKind.wrap .i64 ((IntKind.wrap .i64 ((IntKind.wrap .i64 (a1 * 256)) + (IntKind.wrap .i64 (8 * n6)))) + 8) : Int) ≤ ((a0.cap : Nat) : Int) ∧ 0 ≤ (IntKind.wrap .i64 ((IntKind.wrap .i64 (a1 * 256)) + (IntKind.wrap .i64 (8 * n6))) : Int) ∧ (IntKind.wrap .i64 ((IntKind.wrap .i64 (a1 * 256)) + (IntKind.wrap .i64 (8 * n6))) : Int) ≤ (IntKind.wrap .i64 ((IntKind.wrap .i64 ((IntKind.wrap .i64 (a1 * 256)) + (IntKind.wrap .i64 (8 * n6)))) + 8) : Int) ∧ CallW Try.prog 174 #[.slice (cutA a0.a a0.cap (Int.toNat (IntKind.wrap .i64 ((IntKind.wrap .i64 (a1 * 256)) + (IntKind.wrap .i64 (8 * n6))))) 1) (Int.toNat (IntKind.wrap .i64 ((IntKind.wrap .i64 ((IntKind.wrap .i64 (a1 * 256)) + (IntKind.wrap .i64 (8 * n6)))) + 8)) - Int.toNat (IntKind.wrap .i64 ((IntKind.wrap .i64 (a1 * 256)) + (IntKind.wrap .i64 (8 * n6))))) (a0.cap - Int.toNat (IntKind.wrap .i64 ((IntKind.wrap .i64 (a1 * 256)) + (IntKind.wrap .i64 (8 * n6))))), .int .i64 0, .int .i64 8, .bool false] w8 fun v9 w10 => ∃ n11 : Int, ∃ b12 : Bool, v9 = .tuple #[.int .u64 n11, .bool b12] ∧ CallW Try.prog 177 #[.int .i64 a2] w10 fun v13 w14 => ∃ n15 : Int, v13 = .int .i64 n15 ∧ CallW Try.prog 186 #[.int .u64 n11, .int .i64 a2] w14 fun v16 w17 => ∃ n18 : Int, v16 = .int .i64 n18 ∧ BIf ((n18 : Int) == 0) (CallW Try.prog 123 #[.int .u64 n11] w17 fun v19 w20 => ∃ b21 : Bool, ∃ b22 : Bool, ∃ b23 : Bool, ∃ b24 : Bool, ∃ b25 : Bool, ∃ b26 : Bool, ∃ b27 : Bool, ∃ b28 : Bool, ∃ n29 : Int, ∃ b30 : Bool, v19 = .tuple #[.agg #[.bool b21, .bool b22, .bool b23, .bool b24, .bool b25, .bool b26, .bool b27, .bool b28, .int .i64 n29], .bool b30] ∧ LetW (w20.alloc (.cells #[.bool false, .bool false, .bool false, .bool false, .bool false, .bool false, .bool false, .bool false, .int .i64 0] 81)) fun w31 => MayN w31 ⟨w20.heap.size, 0, none⟩ 9 ∧ LetW (puts w31 ⟨w20.heap.size, 0, none⟩ 0 [.bool b21, .bool b22, .bool b23, .bool b24, .bool b25, .bool b26, .bool b27, .bool b28, .int .i64 n29]) fun w32 => ∃ n33 : Int, w32.cell? ⟨w20.heap.size, 8, none⟩ = some (.int .i64 n33) ∧ CallW Try.prog 166 #[.slice a0.a a0.len a0.cap, .int .i64 n33, .int .i64 (IntKind.wrap .i64 (a2 - 1)), .int .i64 (IntKind.wrap .i64 (a3 + (IntKind.wrap .i64 ((IntKind.wrap .i64 (n6 * 256)) * n15))))] w32 fun v34 w35 => ∃ l36 : Sl, v34 = .slice l36.a l36.len l36.cap ∧ AppendW 91 ti91 l5 l36 w35 fun l37 w38 => J7 l37 (IntKind.wrap .i64 (n6 + 1)) w38) (BIf ((n18 : Int) == 1) (LetW (w17.alloc (.cells #[.int .i64 (IntKind.wrap .i64 (a3 + (IntKind.wrap .i64 ((IntKind.wrap .i64 (n6 * 256)) * n15)))), .int .i64 a2, .int .u64 n11] 91)) fun w39 => AppendW 91 ti91 l5 ⟨some ⟨w17.heap.size, 0, none⟩, 1, 1⟩ w39 fun l40 w41 => J7 l40 (IntKind.wrap .i64 (n6 + 1)) w41) (J7 l5 (IntKind.wrap .i64 (n6 + 1)) w17))) (K (.slice l5.a l5.len l5.cap) w8)) ((⟨some ⟨w.heap.size, 0, none⟩, 0, 0⟩ : Sl), ((0 : Int), ())) w4))
theorem eq166 (a0 : Sl) (a1 : Int) (a2 : Int) (a3 : Int) (w : World) (K : Value → World → Prop) : denFn Try.prog tt Try.f166 an166 [.slice a0.a a0.len a0.cap, .int .i64 a1, .int .i64 a2, .int .i64 a3] w K = W166 a0 a1 a2 a3 w K := by kernel_rfl
theorem ok166 : OkFn Try.prog 166 := ⟨Try.f166, Try.func166, by kernel_rfl, by kernel_rfl⟩
theorem go166 {a0 : Sl} {a1 : Int} {a2 : Int} {a3 : Int} {w : World} {K : Value → World → Prop} (h : W166 a0 a1 a2 a3 w K) : CallW Try.prog 166 #[.slice a0.a a0.len a0.cap, .int .i64 a1, .int .i64 a2, .int .i64 a3] w K :=
  .inl ⟨ok166, denFn_sound tt_ok mix Try.func166 (by kernel_rfl) (eq166 a0 a1 a2 a3 w K ▸ h)⟩

/- loop.example/g00008/impl.translate -/
def an167 : Ann := (.seq .leaf (.seq .leaf (.seq .leaf (.in_ (.loop 1053 [(11, .int .i64), (12, .ptr)] (.seq (.in_ (.seq (.seq (.reg [(3, none), (6, some (7197, [(32, .bool)]))]) (.cond (.seq .leaf .leaf) .leaf)) (.seq .leaf (.seq .leaf (.seq .leaf (.seq .leaf (.seq .leaf (.seq (.seq .leaf (.cond (.seq .leaf .leaf) .leaf)) (.seq (.seq (.reg [(4, none), (8, some (422941, [(72, .bool)]))]) (.cond (.seq .leaf .leaf) .leaf)) (.seq (.seq (.reg [(4, none), (4, some (422941, [(82, .bool)])), (1, none), (4, some (422941, [(87, .bool)]))]) (.cond (.seq (.seq (.reg [(3, none), (3, some (398365, [(93, .bool)])), (1, none), (3, some (398365, [(97, .bool)])), (1, none), (3, some (398365, [(101, .bool)]))]) (.cond (.seq .leaf .leaf) .leaf)) (.seq .leaf .leaf)) .leaf)) (.seq (.seq (.draw [0, 1, 0, 4, 12, 31, 63] [0, 1, 2, 3, 4, 5, 6]) (.cond (.seq .leaf .leaf) .leaf)) (.seq (.seq (.reg [(2, none), (4, some (422924, [(120, .bool)]))]) (.cond (.seq .leaf .leaf) .leaf)) (.seq (.seq (.reg [(3, none), (3, some (422924, [(128, .bool)])), (1, none), (7, some (422924, [(136, .bool)])), (1, none), (7, some (422924, [(144, .bool)])), (1, none)]) (.cond (.seq .leaf .leaf) .leaf)) (.seq .leaf (.join 160772 [] (.seq .leaf (.cond .leaf .leaf)) (.seq .leaf (.seq (.draw [0, 0, 0, 4, 12, 0, 0, 64, 192, 480, 992, 2044, 0, 8191, 16383] [0, 1, 2, 3, 4, 5, 6, 7, 8, 9, 10, 11, 12, 13, 14]) .leaf))))))))))))))))) (.seq (.seq .leaf .leaf) .leaf)))))))
def W167 (a0 : Sl) (a1 : Int) (a2 : Int) (a3 : Int) (a4 : Bool) (w : World) (K : Value → World → Prop) : Prop :=
  LetW (w.alloc (.cells #[.int .i64 0, .int .i64 0, .int .i64 0, .int .i64 0, .int .u64 0] 93)) fun w1 => LetW (w1.alloc (.cells #[.int .i64 0] 2)) fun w2 => May w2 ⟨w1.heap.size, 0, none⟩ ∧ LetW (w2.setCell ⟨w1.heap.size, 0, none⟩ (.int .i64 2)) fun w3 => LoopW [.int .i64, .ptr] (fun J6 => fun (n4 : Int) (p5 : Option Addr) w7 => JoinW [.bool] (fun J9 => BIf (decide ((n4 : Int) < 0)) (J9 true w7) ((256 : Int) ≠ 0 ∧ J9 (decide ((n4 : Int) ≥ (IntKind.wrap .i64 (Int.tdiv ((a0.len : Nat) : Int) 256)))) w7)) (fun (b8 : Bool) w10 => BIf b8 (addrOf (some (.pointer p5)) fun p11 => ∃ n12 : Int, w10.cell? p11 = some (.int .i64 n12) ∧ MayN w10 ⟨w.heap.size, 0, none⟩ 5 ∧ LetW (puts w10 ⟨w.heap.size, 0, none⟩ 0 [.int .i64 3, .int .i64 n12, .int .i64 0, .int .i64 0, .int .u64 0]) fun w13 => ∃ n14 : Int, w13.cell? ⟨w.heap.size, 0, none⟩ = some (.int .i64 n14) ∧ ∃ n15 : Int, w13.cell? ⟨w.heap.size, 1, none⟩ = some (.int .i64 n15) ∧ ∃ n16 : Int, w13.cell? ⟨w.heap.size, 2, none⟩ = some (.int .i64 n16) ∧ ∃ n17 : Int, w13.cell? ⟨w.heap.size, 3, none⟩ = some (.int .i64 n17) ∧ ∃ n18 : Int, w13.cell? ⟨w.heap.size, 4, none⟩ = some (.int .u64 n18) ∧ K (.agg #[.int .i64 n14, .int .i64 n15, .int .i64 n16, .int .i64 n17, .int .u64 n18]) w13) (addrOf (some (.pointer p5)) fun p19 => ∃ n20 : Int, w10.cell? p19 = some (.int .i64 n20) ∧ 0 ≤ (IntKind.wrap .i64 (8 + (IntKind.wrap .i64 (5 * n20))) : Int) ∧ LetW (w10.alloc (.cells #[.int .i64 0] 2)) fun w21 => May w21 ⟨w10.heap.size, 0, none⟩ ∧ LetW (w21.setCell ⟨w10.heap.size, 0, none⟩ (.int .i64 (IntKind.wrap .i64 ((IntKind.wrap .i64 (n4 * 256)) + (IntKind.wrap .i64 ((IntKind.wrap .i64 (andI .u64 (shrI .u64 a2 (IntKind.wrap .i64 (8 + (IntKind.wrap .i64 (5 * n20))))) 31)) * 8)))))) fun w22 => ∃ n23 : Int, w22.cell? ⟨w10.heap.size, 0, none⟩ = some (.int .i64 n23) ∧ CallW Try.prog 168 #[.slice a0.a a0.len a0.cap, .int .i64 n23, .int .i64 8, .bool false] w22 fun v24 w25 => ∃ n26 : Int, ∃ b27 : Bool, v24 = .tuple #[.int .u64 n26, .bool b27] ∧ CallW Try.prog 127 #[.int .u64 n26] w25 fun v28 w29 => ∃ b30 : Bool, ∃ b31 : Bool, ∃ b32 : Bool, ∃ b33 : Bool, ∃ b34 : Bool, ∃ b35 : Bool, ∃ b36 : Bool, ∃ b37 : Bool, ∃ n38 : Int, v28 = .agg #[.bool b30, .bool b31, .bool b32, .bool b33, .bool b34, .bool b35, .bool b36, .bool b37, .int .i64 n38] ∧ LetW (w29.alloc (.cells #[.bool false, .bool false, .bool false, .bool false, .bool false, .bool false, .bool false, .bool false, .int .i64 0] 81)) fun w39 => MayN w39 ⟨w29.heap.size, 0, none⟩ 9 ∧ LetW (puts w39 ⟨w29.heap.size, 0, none⟩ 0 [.bool b30, .bool b31, .bool b32, .bool b33, .bool b34, .bool b35, .bool b36, .bool b37, .int .i64 n38]) fun w40 => ∃ b41 : Bool, w40.cell? ⟨w29.heap.size, 0, none⟩ = some (.bool b41) ∧ BIf (!b41) (CallW Try.prog 189 #[.int .i64 4, .pointer p5, .pointer (some ⟨w10.heap.size, 0, none⟩)] w40 fun v42 w43 => ∃ n44 : Int, ∃ n45 : Int, ∃ n46 : Int, ∃ n47 : Int, ∃ n48 : Int, v42 = .agg #[.int .i64 n44, .int .i64 n45, .int .i64 n46, .int .i64 n47, .int .u64 n48] ∧ MayN w43 ⟨w.heap.size, 0, none⟩ 5 ∧ LetW (puts w43 ⟨w.heap.size, 0, none⟩ 0 [.int .i64 n44, .int .i64 n45, .int .i64 n46, .int .i64 n47, .int .u64 n48]) fun w49 => ∃ n50 : Int, w49.cell? ⟨w.heap.size, 0, none⟩ = some (.int .i64 n50) ∧ ∃ n51 : Int, w49.cell? ⟨w.heap.size, 1, none⟩ = some (.int .i64 n51) ∧ ∃ n52 : Int, w49.cell? ⟨w.heap.size, 2, none⟩ = some (.int .i64 n52) ∧ ∃ n53 : Int, w49.cell? ⟨w.heap.size, 3, none⟩ = some (.int .i64 n53) ∧ ∃ n54 : Int, w49.cell? ⟨w.heap.size, 4, none⟩ = some (.int .u64 n54) ∧ K (.agg #[.int .i64 n50, .int .i64 n51, .int .i64 n52, .int .i64 n53, .int .u64 n54]) w49) (0 ≤ (20 : Int) ∧ JoinW [.bool] (fun J56 => BIf ((shrI .u64 n26 20 : Int) != 0) (J56 true w40) (∃ b199 : Bool, w40.cell? ⟨w29.heap.size, 2, none⟩ = some (.bool b199) ∧ BIf b199 (∃ b200 : Bool, w40.cell? ⟨w29.heap.size, 1, none⟩ = some (.bool b200) ∧ J56 (!b200) w40) (J56 false w40))) (fun (b55 : Bool) w57 => BIf b55 (CallW Try.prog 189 #[.int .i64 5, .pointer p5, .pointer (some ⟨w10.heap.size, 0, none⟩)] w57 fun v58 w59 => ∃ n60 : Int, ∃ n61 : Int, ∃ n62 : Int, ∃ n63 : Int, ∃ n64 : Int, v58 = .agg #[.int .i64 n60, .int .i64 n61, .int .i64 n62, .int .i64 n63, .int .u64 n64] ∧ MayN w59 ⟨w.heap.size, 0, none⟩ 5 ∧ LetW (puts w59 ⟨w.heap.size, 0, none⟩ 0 [.int .i64 n60, .int .i64 n61, .int .i64 n62, .int .i64 n63, .int .u64 n64]) fun w65 => ∃ n66 : Int, w65.cell? ⟨w.heap.size, 0, none⟩ = some (.int .i64 n66) ∧ ∃ n67 : Int, w65.cell? ⟨w.heap.size, 1, none⟩ = some (.int .i64 n67) ∧ ∃ n68 : Int, w65.cell? ⟨w.heap.size, 2, none⟩ = some (.int .i64 n68) ∧ ∃ n69 : Int, w65.cell? ⟨w.heap.size, 3, none⟩ = some (.int .i64 n69) ∧ ∃ n70 : Int, w65.cell? ⟨w.heap.size, 4, none⟩ = some (.int .u64 n70) ∧ K (.agg #[.int .i64 n66, .int .i64 n67, .int .i64 n68, .int .i64 n69, .int .u64 n70]) w65) (∃ b71 : Bool, w57.cell? ⟨w29.heap.size, 1, none⟩ = some (.bool b71) ∧ JoinW [.bool] (fun J73 => BIf (!b71) (∃ b198 : Bool, w57.cell? ⟨w29.heap.size, 2, none⟩ = some (.bool b198) ∧ J73 (!b198) w57) (J73 false w57)) (fun (b72 : Bool) w74 => JoinW [.bool] (fun J76 => BIf b72 (∃ b197 : Bool, w74.cell? ⟨w29.heap.size, 3, none⟩ = some (.bool b197) ∧ J76 (!b197) w74) (J76 false w74)) (fun (b75 : Bool) w77 => BIf b75 (∃ b78 : Bool, w77.cell? ⟨w29.heap.size, 4, none⟩ = some (.bool b78) ∧ JoinW [.bool] (fun J80 => BIf b78 (J80 true w77) (∃ b111 : Bool, w77.cell? ⟨w29.heap.size, 5, none⟩ = some (.bool b111) ∧ J80 b111 w77)) (fun (b79 : Bool) w81 => JoinW [.bool] (fun J83 => BIf b79 (J83 true w81) (∃ b110 : Bool, w81.cell? ⟨w29.heap.size, 6, none⟩ = some (.bool b110) ∧ J83 b110 w81)) (fun (b82 : Bool) w84 => JoinW [.bool] (fun J86 => BIf b82 (J86 true w84) (addrOf (some (.pointer p5)) fun p108 => ∃ n109 : Int, w84.cell? p108 = some (.int .i64 n109) ∧ J86 ((n109 : Int) == 0) w84)) (fun (b85 : Bool) w87 => BIf b85 (CallW Try.prog 189 #[.int .i64 5, .pointer p5, .pointer (some ⟨w10.heap.size, 0, none⟩)] w87 fun v88 w89 => ∃ n90 : Int, ∃ n91 : Int, ∃ n92 : Int, ∃ n93 : Int, ∃ n94 : Int, v88 = .agg #[.int .i64 n90, .int .i64 n91, .int .i64 n92, .int .i64 n93, .int .u64 n94] ∧ MayN w89 ⟨w.heap.size, 0, none⟩ 5 ∧ LetW (puts w89 ⟨w.heap.size, 0, none⟩ 0 [.int .i64 n90, .int .i64 n91, .int .i64 n92, .int .i64 n93, .int .u64 n94]) fun w95 => ∃ n96 : Int, w95.cell? ⟨w.heap.size, 0, none⟩ = some (.int .i64 n96) ∧ ∃ n97 : Int, w95.cell? ⟨w.heap.size, 1, none⟩ = some (.int .i64 n97) ∧ ∃ n98 : Int, w95.cell? ⟨w.heap.size, 2, none⟩ = some (.int .i64 n98) ∧ ∃ n99 : Int, w95.cell? ⟨w.heap.size, 3, none⟩ = some (.int .i64 n99) ∧ ∃ n100 : Int, w95.cell? ⟨w.heap.size, 4, none⟩ = some (.int .u64 n100) ∧ K (.agg #[.int .i64 n96, .int .i64 n97, .int .i64 n98, .int .i64 n99, .int .u64 n100]) w95) (∃ n101 : Int, w87.cell? ⟨w29.heap.size, 8, none⟩ = some (.int .i64 n101) ∧ addrOf (some (.pointer p5)) fun p102 => ∃ n103 : Int, w87.cell? p102 = some (.int .i64 n103) ∧ LetW (w87.alloc (.cells #[.int .i64 0] 2)) fun w104 => May w104 ⟨w87.heap.size, 0, none⟩ ∧ LetW (w104.setCell ⟨w87.heap.size, 0, none⟩ (.int .i64 n103)) fun w105 => ∃ n106 : Int, w105.cell? ⟨w87.heap.size, 0, none⟩ = some (.int .i64 n106) ∧ May w105 ⟨w87.heap.size, 0, none⟩ ∧ LetW (w105.setCell ⟨w87.heap.size, 0, none⟩ (.int .i64 (IntKind.wrap .i64 (n106 - 1)))) fun w107 => J6 n101 (some ⟨w87.heap.size, 0, none⟩) w107))))) (∃ n112 : Int, w77.drew.cell? ⟨w29.heap.size, 8, none⟩ = some (.int .i64 n112) ∧ addrOf (some (.pointer p5)) fun p113 => ∃ n114 : Int, w77.drew.cell? p113 = some (.int .i64 n114) ∧ 0 ≤ (IntKind.wrap .i64 (5 * n114) : Int) ∧ (shlI .i64 1 (IntKind.wrap .i64 (5 * n114)) : Int) ≠ 0 ∧ BIf ((Int.tmod n112 (shlI .i64 1 (IntKind.wrap .i64 (5 * n114))) : Int) != 0) (CallW Try.prog 189 #[.int .i64 6, .pointer p5, .pointer (some ⟨w10.heap.size, 0, none⟩)] w77.drew fun v115 w116 => ∃ n117 : Int, ∃ n118 : Int, ∃ n119 : Int, ∃ n120 : Int, ∃ n121 : Int, v115 = .agg #[.int .i64 n117, .int .i64 n118, .int .i64 n119, .int .i64 n120, .int .u64 n121] ∧ MayN w116 ⟨w.heap.size, 0, none⟩ 5 ∧ LetW (puts w116 ⟨w.heap.size, 0, none⟩ 0 [.int .i64 n117, .int .i64 n118, .int .i64 n119, .int .i64 n120, .int .u64 n121]) fun w122 => ∃ n123 : Int, w122.cell? ⟨w.heap.size, 0, none⟩ = some (.int .i64 n123) ∧ ∃ n124 : Int, w122.cell? ⟨w.heap.size, 1, none⟩ = some (.int .i64 n124) ∧ ∃ n125 : Int, w122.cell? ⟨w.heap.size, 2, none⟩ = some (.int .i64 n125) ∧ ∃ n126 : Int, w122.cell? ⟨w.heap.size, 3, none⟩ = some (.int .i64 n126) ∧ ∃ n127 : Int, w122.cell? ⟨w.heap.size, 4, none⟩ = some (.int .u64 n127) ∧ K (.agg #[.int .i64 n123, .int .i64 n124, .int .i64 n125, .int .i64 n126, .int .u64 n127]) w122) (JoinW [.bool] (fun J129 => BIf a4 (∃ b196 : Bool, w77.drew.cell? ⟨w29.heap.size, 4, none⟩ = some (.bool b196) ∧ J129 (!b196) w77.drew) (J129 false w77.drew)) (fun (b128 : Bool) w130 => BIf b128 (CallW Try.prog 189 #[.int .i64 7, .pointer p5, .pointer (some ⟨w10.heap.size, 0, none⟩)] w130 fun v131 w132 => ∃ n133 : Int, ∃ n134 : Int, ∃ n135 : Int, ∃ n136 : Int, ∃ n137 : Int, v131 = .agg #[.int .i64 n133, .int .i64 n134, .int .i64 n135, .int .i64 n136, .int .u64 n137] ∧ MayN w132 ⟨w.heap.size, 0, none⟩ 5 ∧ LetW (puts w132 ⟨w.heap.size, 0, none⟩ 0 [.int .i64 n133, .int .i64 n134, .int .i64 n135, .int .i64 n136, .int .u64 n137]) fun w138 => ∃ n139 : Int, w138.cell? ⟨w.heap.size, 0, none⟩ = some (.int .i64 n139) ∧ ∃ n140 : Int, w138.cell? ⟨w.heap.size, 1, none⟩ = some (.int .i64 n140) ∧ ∃ n141 : Int, w138.cell? ⟨w.heap.size, 2, none⟩ = some (.int .i64 n141) ∧ ∃ n142 : Int, w138.cell? ⟨w.heap.size, 3, none⟩ = some (.int .i64 n142) ∧ ∃ n143 : Int, w138.cell? ⟨w.heap.size, 4, none⟩ = some (.int .u64 n143) ∧ K (.agg #[.int .i64 n139, .int .i64 n140, .int .i64 n141, .int .i64 n142, .int .u64 n143]) w138) (JoinW [.bool] (fun J145 => BIf ((a3 : Int) == 0) (∃ b195 : Bool, w130.cell? ⟨w29.heap.size, 1, none⟩ = some (.bool b195) ∧ J145 b195 w130) (J145 false w130)) (fun (b144 : Bool) w146 => JoinW [.bool] (fun J148 => BIf b144 (J148 true w146) (BIf ((a3 : Int) == 1) (∃ b194 : Bool, w146.cell? ⟨w29.heap.size, 2, none⟩ = some (.bool b194) ∧ J148 b194 w146) (J148 false w146))) (fun (b147 : Bool) w149 => JoinW [.bool] (fun J151 => BIf b147 (J151 true w149) (BIf ((a3 : Int) == 2) (∃ b193 : Bool, w149.cell? ⟨w29.heap.size, 3, none⟩ = some (.bool b193) ∧ J151 b193 w149) (J151 false w149))) (fun (b150 : Bool) w152 => BIf (!b150) (CallW Try.prog 189 #[.int .i64 8, .pointer p5, .pointer (some ⟨w10.heap.size, 0, none⟩)] w152 fun v153 w154 => ∃ n155 : Int, ∃ n156 : Int, ∃ n157 : Int, ∃ n158 : Int, ∃ n159 : Int, v153 = .agg #[.int .i64 n155, .int .i64 n156, .int .i64 n157, .int .i64 n158, .int .u64 n159] ∧ MayN w154 ⟨w.heap.size, 0, none⟩ 5 ∧ LetW (puts w154 ⟨w.heap.size, 0, none⟩ 0 [.int .i64 n155, .int .i64 n156, .int .i64 n157, .int .i64 n158, .int .u64 n159]) fun w160 => ∃ n161 : Int, w160.cell? ⟨w.heap.size, 0, none⟩ = some (.int .i64 n161) ∧ ∃ n162 : Int, w160.cell? ⟨w.heap.size, 1, none⟩ = some (.int .i64 n162) ∧ ∃ n163 : Int, w160.cell? ⟨w.heap.size, 2, none⟩ = some (.int .i64 n163) ∧ ∃ n164 : Int, w160.cell? ⟨w.heap.size, 3, none⟩ = some (.int .i64 n164) ∧ ∃ n165 : Int, w160.cell? ⟨w.heap.size, 4, none⟩ = some (.int .u64 n165) ∧ K (.agg #[.int .i64 n161, .int .i64 n162, .int .i64 n163, .int .i64 n164, .int .u64 n165]) w160) (May w152 ⟨w29.heap.size, 5, none⟩ ∧ LetW (w152.setCell ⟨w29.heap.size, 5, none⟩ (.bool true)) fun w166 => JoinW [] (fun J167 => BIf ((a3 : Int) == 1) (May w166 ⟨w29.heap.size, 6, none⟩ ∧ LetW (w166.setCell ⟨w29.heap.size, 6, none⟩ (.bool true)) fun w192 => J167 w192) (J167 w166)) (fun w168 => ∃ b169 : Bool, w168.cell? ⟨w29.heap.size, 0, none⟩ = some (.bool b169) ∧ ∃ b170 : Bool, w168.cell? ⟨w29.heap.size, 1, none⟩ = some (.bool b170) ∧ ∃ b171 : Bool, w168.cell? ⟨w29.heap.size, 2, none⟩ = some (.bool b171) ∧ ∃ b172 : Bool, w168.cell? ⟨w29.heap.size, 3, none⟩ = some (.bool b172) ∧ ∃ b173 : Bool, w168.cell? ⟨w29.heap.size, 4, none⟩ = some (.bool b173) ∧ ∃ b174 : Bool, w168.cell? ⟨w29.heap.size, 5, none⟩ = some (.bool b174) ∧ ∃ b175 : Bool, w168.cell? ⟨w29.heap.size, 6, none⟩ = some (.bool b175) ∧ ∃ b176 : Bool, w168.cell? ⟨w29.heap.size, 7, none⟩ = some (.bool b176) ∧ ∃ n177 : Int, w168.cell? ⟨w29.heap.size, 8, none⟩ = some (.int .i64 n177) ∧ CallW Try.prog 132 #[.agg #[.bool b169, .bool b170, .bool b171, .bool b172, .bool b173, .bool b174, .bool b175, .bool b176, .int .i64 n177]] w168 fun v178 w179 => ∃ n180 : Int, ∃ b181 : Bool, v178 = .tuple #[.int .u64 n180, .bool b181] ∧ addrOf (some (.pointer p5)) fun p182 => ∃ n183 : Int, w179.drew.cell? p182 = some (.int .i64 n183) ∧ ∃ n184 : Int, w179.drew.cell? ⟨w10.heap.size, 0, none⟩ = some (.int .i64 n184) ∧ ∃ n185 : Int, w179.drew.cell? ⟨w29.heap.size, 8, none⟩ = some (.int .i64 n185) ∧ 0 ≤ (IntKind.wrap .i64 (8 + (IntKind.wrap .i64 (5 * n20))) : Int) ∧ MayN w179.drew ⟨w.heap.size, 0, none⟩ 5 ∧ LetW (puts w179.drew ⟨w.heap.size, 0, none⟩ 0 [.int .i64 0, .int .i64 n183, .int .i64 n184, .int .i64 (IntKind.wrap .i64 ((IntKind.wrap .i64 (n185 * 256)) + (IntKind.wrap .i64 (andI .u64 a2 (IntKind.wrap .u64 ((shlI .u64 1 (IntKind.wrap .i64 (8 + (IntKind.wrap .i64 (5 * n20))))) - 1)))))), .int .u64 n180]) fun w186 => ∃ n187 : Int, w186.cell? ⟨w.heap.size, 0, none⟩ = some (.int .i64 n187) ∧ ∃ n188 : Int, w186.cell? ⟨w.heap.size, 1, none⟩ = some (.int .i64 n188) ∧ ∃ n189 : Int, w186.cell? ⟨w.heap.size, 2, none⟩ = some (.int .i64 n189) ∧ ∃ n190 : Int, w186.cell? ⟨w.heap.size, 3, none⟩ = some (.int .i64 n190) ∧ ∃ n191 : Int, w186.cell? ⟨w.heap.size, 4, none⟩ = some (.int .u64 n191) ∧ K (.agg #[.int .i64 n187, .int .i64 n188, .int .i64 n189, .int .i64 n190, .int .u64 n191]) w186))))))))))))))))) ((a1 : Int), ((some ⟨w1.heap.size, 0, none⟩ : Option Addr), ())) w3
theorem eq167 (a0 : Sl) (a1 : Int) (a2 : Int) (a3 : Int) (a4 : Bool) (w : World) (K : Value → World → Prop) : denFn Try.prog tt Try.f167 an167 [.slice a0.a a0.len a0.cap, .int .i64 a1, .int .u64 a2, .int .i64 a3, .bool a4] w K = W167 a0 a1 a2 a3 a4 w K := by kernel_rfl
theorem ok167 : OkFn Try.prog 167 := ⟨Try.f167, Try.func167, by kernel_rfl, by kernel_rfl⟩
theorem go167 {a0 : Sl} {a1 : Int} {a2 : Int} {a3 : Int} {a4 : Bool} {w : World} {K : Value → World → Prop} (h : W167 a0 a1 a2 a3 a4 w K) : CallW Try.prog 167 #[.slice a0.a a0.len a0.cap, .int .i64 a1, .int .u64 a2, .int .i64 a3, .bool a4] w K :=
  .inl ⟨ok167, denFn_sound tt_ok mix Try.func167 (by kernel_rfl) (eq167 a0 a1 a2 a3 a4 w K ▸ h)⟩

/- loop.example/g00008/impl.LoadWord -/
def an168 : Ann := (.seq .leaf (.seq (.seq (.reg [(4, none), (7, some (15, [(22, .bool)]))]) (.cond (.seq .leaf .leaf) .leaf)) (.seq .leaf (.seq (.seq .leaf (.in_ (.loop 15 [(10, .int .u64), (11, .int .i64)] (.seq (.seq .leaf (.cond .leaf .leaf)) (.seq (.in_ .leaf) .leaf))))) (.seq (.seq .leaf (.cond .leaf .leaf)) (.seq .leaf .leaf))))))
def W168 (a0 : Sl) (a1 : Int) (a2 : Int) (a3 : Bool) (w : World) (K : Value → World → Prop) : Prop :=
  CallW Try.prog 190 #[.int .i64 a2] w fun v1 w2 => ∃ b3 : Bool, v1 = .bool b3 ∧ JoinW [.bool] (fun J5 => BIf (!b3) (J5 true w2) (CallW Try.prog 191 #[.int .i64 ((a0.len : Nat) : Int), .int .i64 a1, .int .i64 a2] w2 fun v16 w17 => ∃ b18 : Bool, v16 = .bool b18 ∧ J5 (!b18) w17)) (fun (b4 : Bool) w6 => BIf b4 (K (.tuple #[.int .u64 0, .bool false]) w6) (LoopW [.int .u64, .int .i64] (fun J9 => fun (n7 : Int) (n8 : Int) w10 => BIf (decide ((n8 : Int) ≥ 0)) (0 ≤ (8 : Int) ∧ 0 ≤ (IntKind.wrap .i64 (a1 + n8) : Int) ∧ (IntKind.wrap .i64 (a1 + n8) : Int) < ((a0.len : Nat) : Int) ∧ ∃ q11 : Addr, (a0.a : Option Addr) = some q11 ∧ ∃ n12 : Int, w10.cell? (q11.add (Int.toNat (IntKind.wrap .i64 (a1 + n8)) * 1)) = some (.int .u8 n12) ∧ J9 (orI .u64 (shlI .u64 n7 8) (IntKind.wrap .u64 n12)) (IntKind.wrap .i64 (n8 - 1)) w10) (BIf a3 (CallW Try.prog 192 #[.int .u64 n7, .int .i64 (IntKind.wrap .i64 (8 * a2))] w10 fun v13 w14 => ∃ n15 : Int, v13 = .int .u64 n15 ∧ K (.tuple #[.int .u64 n15, .bool true]) w14) (K (.tuple #[.int .u64 n7, .bool true]) w10))) ((0 : Int), ((IntKind.wrap .i64 (a2 - 1) : Int), ())) w6))
theorem eq168 (a0 : Sl) (a1 : Int) (a2 : Int) (a3 : Bool) (w : World) (K : Value → World → Prop) : denFn Try.prog tt Try.f168 an168 [.slice a0.a a0.len a0.cap, .int .i64 a1, .int .i64 a2, .bool a3] w K = W168 a0 a1 a2 a3 w K := by kernel_rfl
theorem ok168 : OkFn Try.prog 168 := ⟨Try.f168, Try.func168, by kernel_rfl, by kernel_rfl⟩
theorem go168 {a0 : Sl} {a1 : Int} {a2 : Int} {a3 : Bool} {w : World} {K : Value → World → Prop} (h : W168 a0 a1 a2 a3 w K) : CallW Try.prog 168 #[.slice a0.a a0.len a0.cap, .int .i64 a1, .int .i64 a2, .bool a3] w K :=
  .inl ⟨ok168, denFn_sound tt_ok mix Try.func168 (by kernel_rfl) (eq168 a0 a1 a2 a3 w K ▸ h)⟩

/- loop.example/g00008/spec.l6Is -/
def an173 : Ann := (.seq .leaf (.seq .leaf .leaf))
def W173 (a0 : Int) (a1 : Int) (w : World) (K : Value → World → Prop) : Prop :=
  CallW Try.prog 194 #[.int .u64 a0, .int .i64 a1] w fun v1 w2 => ∃ n3 : Int, v1 = .int .u64 n3 ∧ K (.bool ((n3 : Int) == 1)) w2
theorem eq173 (a0 : Int) (a1 : Int) (w : World) (K : Value → World → Prop) : denFn Try.prog tt Try.f173 an173 [.int .u64 a0, .int .i64 a1] w K = W173 a0 a1 w K := by kernel_rfl
theorem ok173 : OkFn Try.prog 173 := ⟨Try.f173, Try.func173, by kernel_rfl, by kernel_rfl⟩
theorem go173 {a0 : Int} {a1 : Int} {w : World} {K : Value → World → Prop} (h : W173 a0 a1 w K) : CallW Try.prog 173 #[.int .u64 a0, .int .i64 a1] w K :=
  .inl ⟨ok173, denFn_sound tt_ok mix Try.func173 (by kernel_rfl) (eq173 a0 a1 w K ▸ h)⟩

/- loop.example/g00008/spec.LoadWord -/
def an174 : Ann := (.seq .leaf (.seq (.seq (.reg [(4, none), (3, some (15, [(18, .bool)])), (1, none), (7, some (15, [(26, .bool)]))]) (.cond (.seq .leaf .leaf) .leaf)) (.seq .leaf (.seq (.seq .leaf (.in_ (.loop 15 [(10, .int .u64), (11, .int .i64)] (.seq (.seq .leaf (.cond .leaf .leaf)) (.seq (.in_ .leaf) .leaf))))) (.seq (.seq .leaf (.cond (.seq .leaf .leaf) .leaf)) (.seq .leaf .leaf))))))
def W174 (a0 : Sl) (a1 : Int) (a2 : Int) (a3 : Bool) (w : World) (K : Value → World → Prop) : Prop :=
  CallW Try.prog 195 #[.int .i64 a2] w fun v1 w2 => ∃ b3 : Bool, v1 = .bool b3 ∧ JoinW [.bool] (fun J5 => BIf (!b3) (J5 true w2) (J5 (decide ((a1 : Int) < 0)) w2)) (fun (b4 : Bool) w6 => JoinW [.bool] (fun J8 => BIf b4 (J8 true w6) (J8 (decide ((a1 : Int) > (IntKind.wrap .i64 (((a0.len : Nat) : Int) - a2)))) w6)) (fun (b7 : Bool) w9 => BIf b7 (K (.tuple #[.int .u64 0, .bool false]) w9) (LoopW [.int .u64, .int .i64] (fun J12 => fun (n10 : Int) (n11 : Int) w13 => BIf (decide ((n11 : Int) ≥ 0)) (0 ≤ (IntKind.wrap .i64 (a1 + n11) : Int) ∧ (IntKind.wrap .i64 (a1 + n11) : Int) < ((a0.len : Nat) : Int) ∧ ∃ q14 : Addr, (a0.a : Option Addr) = some q14 ∧ ∃ n15 : Int, w13.cell? (q14.add (Int.toNat (IntKind.wrap .i64 (a1 + n11)) * 1)) = some (.int .u8 n15) ∧ J12 (IntKind.wrap .u64 ((IntKind.wrap .u64 (n10 * 256)) + (IntKind.wrap .u64 n15))) (IntKind.wrap .i64 (n11 - 1)) w13) (BIf a3 (CallW Try.prog 196 #[.int .u64 n10, .int .i64 (IntKind.wrap .i64 (8 * a2))] w13 fun v16 w17 => ∃ n18 : Int, v16 = .int .u64 n18 ∧ K (.tuple #[.int .u64 n18, .bool true]) w17) (K (.tuple #[.int .u64 n10, .bool true]) w13))) ((0 : Int), ((IntKind.wrap .i64 (a2 - 1) : Int), ())) w9)))
theorem eq174 (a0 : Sl) (a1 : Int) (a2 : Int) (a3 : Bool) (w : World) (K : Value → World → Prop) : denFn Try.prog tt Try.f174 an174 [.slice a0.a a0.len a0.cap, .int .i64 a1, .int .i64 a2, .bool a3] w K = W174 a0 a1 a2 a3 w K := by kernel_rfl
theorem ok174 : OkFn Try.prog 174 := ⟨Try.f174, Try.func174, by kernel_rfl, by kernel_rfl⟩
theorem go174 {a0 : Sl} {a1 : Int} {a2 : Int} {a3 : Bool} {w : World} {K : Value → World → Prop} (h : W174 a0 a1 a2 a3 w K) : CallW Try.prog 174 #[.slice a0.a a0.len a0.cap, .int .i64 a1, .int .i64 a2, .bool a3] w K :=
  .inl ⟨ok174, denFn_sound tt_ok mix Try.func174 (by kernel_rfl) (eq174 a0 a1 a2 a3 w K ▸ h)⟩

/- loop.example/g00008/impl.entryOf$1 -/
def an175 : Ann := (.seq .leaf (.seq .leaf .leaf))
def W175 (a0 : Int) (c0 : Addr) (w : World) (K : Value → World → Prop) : Prop :=
  ∃ n1 : Int, w.cell? c0 = some (.int .u64 n1) ∧ 0 ≤ (a0 : Int) ∧ K (.bool ((andI .u64 (shrI .u64 n1 a0) 1 : Int) == 1)) w
theorem eq175 (a0 : Int) (c0 : Addr) (w : World) (K : Value → World → Prop) : denFn Try.prog tt Try.f175 an175 [.int .i64 a0, .pointer (some c0)] w K = W175 a0 c0 w K := by kernel_rfl
theorem ok175 : OkFn Try.prog 175 := ⟨Try.f175, Try.func175, by kernel_rfl, by kernel_rfl⟩
theorem go175 {a0 : Int} {c0 : Addr} {w : World} {K : Value → World → Prop} (h : W175 a0 c0 w K) : CallW Try.prog 175 #[.int .i64 a0, .pointer (some c0)] w K :=
  .inl ⟨ok175, denFn_sound tt_ok mix Try.func175 (by kernel_rfl) (eq175 a0 c0 w K ▸ h)⟩

/- loop.example/g00008/spec.l8Len -/
def an176 : Ann := (.seq .leaf (.seq .leaf (.seq (.seq .leaf (.in_ (.loop 1 [(3, .int .i64), (4, .int .i64)] (.seq (.seq .leaf (.cond .leaf .leaf)) (.seq (.in_ .leaf) .leaf))))) (.seq .leaf .leaf))))
def W176 (a0 : Int) (w : World) (K : Value → World → Prop) : Prop :=
  LoopW [.int .i64, .int .i64] (fun J3 => fun (n1 : Int) (n2 : Int) w4 => BIf (decide ((n2 : Int) < a0)) (J3 (IntKind.wrap .i64 (n1 * 2)) (IntKind.wrap .i64 (n2 + 1)) w4) (K (.int .i64 n1) w4)) ((1 : Int), ((0 : Int), ())) w
theorem eq176 (a0 : Int) (w : World) (K : Value → World → Prop) : denFn Try.prog tt Try.f176 an176 [.int .i64 a0] w K = W176 a0 w K := by kernel_rfl
theorem ok176 : OkFn Try.prog 176 := ⟨Try.f176, Try.func176, by kernel_rfl, by kernel_rfl⟩
theorem go176 {a0 : Int} {w : World} {K : Value → World → Prop} (h : W176 a0 w K) : CallW Try.prog 176 #[.int .i64 a0] w K :=
  .inl ⟨ok176, denFn_sound tt_ok mix Try.func176 (by kernel_rfl) (eq176 a0 w K ▸ h)⟩

/- loop.example/g00008/spec.l6Pages -/
def an177 : Ann := (.seq .leaf (.seq (.seq .leaf (.cond (.seq .leaf .leaf) .leaf)) (.seq .leaf .leaf)))
def W177 (a0 : Int) (w : World) (K : Value → World → Prop) : Prop :=
  BIf ((a0 : Int) == 0) (K (.int .i64 1) w) (CallW Try.prog 177 #[.int .i64 (IntKind.wrap .i64 (a0 - 1))] w fun v1 w2 => ∃ n3 : Int, v1 = .int .i64 n3 ∧ K (.int .i64 (IntKind.wrap .i64 (32 * n3))) w2)
theorem eq177 (a0 : Int) (w : World) (K : Value → World → Prop) : denFn Try.prog tt Try.f177 an177 [.int .i64 a0] w K = W177 a0 w K := by kernel_rfl
theorem ok177 : OkFn Try.prog 177 := ⟨Try.f177, Try.func177, by kernel_rfl, by kernel_rfl⟩
theorem go177 {a0 : Int} {w : World} {K : Value → World → Prop} (h : W177 a0 w K) : CallW Try.prog 177 #[.int .i64 a0] w K :=
  .inl ⟨ok177, denFn_sound tt_ok mix Try.func177 (by kernel_rfl) (eq177 a0 w K ▸ h)⟩

/- loop.example/g00008/spec.l6Kind -/
def an186 : Ann := (.seq .leaf (.seq (.seq .leaf (.cond (.seq .leaf .leaf) .leaf)) (.seq .leaf (.seq (.seq (.reg [(3, none), (8, some (34, [(25, .bool)]))]) (.cond (.seq .leaf .leaf) .leaf)) (.seq (.seq (.reg [(4, none), (4, some (34, [(33, .bool)])), (1, none), (4, some (34, [(38, .bool)]))]) (.cond (.seq (.seq (.reg [(3, none), (3, some (34, [(44, .bool)])), (1, none), (3, some (2, [(48, .bool)])), (1, none), (3, some (0, [(52, .bool)]))]) (.cond (.seq .leaf .leaf) .leaf)) (.seq .leaf .leaf)) .leaf)) (.seq (.seq (.draw [0, 1, 0, 4, 15, 31] [0, 1, 2, 3, 4, 5]) (.cond (.seq .leaf .leaf) .leaf)) (.seq .leaf .leaf)))))))
def W186 (a0 : Int) (a1 : Int) (w : World) (K : Value → World → Prop) : Prop :=
  CallW Try.prog 173 #[.int .u64 a0, .int .i64 0] w fun v1 w2 => ∃ b3 : Bool, v1 = .bool b3 ∧ BIf (!b3) (K (.int .i64 (-4)) w2) (CallW Try.prog 123 #[.int .u64 a0] w2 fun v4 w5 => ∃ b6 : Bool, ∃ b7 : Bool, ∃ b8 : Bool, ∃ b9 : Bool, ∃ b10 : Bool, ∃ b11 : Bool, ∃ b12 : Bool, ∃ b13 : Bool, ∃ n14 : Int, ∃ b15 : Bool, v4 = .tuple #[.agg #[.bool b6, .bool b7, .bool b8, .bool b9, .bool b10, .bool b11, .bool b12, .bool b13, .int .i64 n14], .bool b15] ∧ LetW (w5.alloc (.cells #[.bool false, .bool false, .bool false, .bool false, .bool false, .bool false, .bool false, .bool false, .int .i64 0] 81)) fun w16 => MayN w16 ⟨w5.heap.size, 0, none⟩ 9 ∧ LetW (puts w16 ⟨w5.heap.size, 0, none⟩ 0 [.bool b6, .bool b7, .bool b8, .bool b9, .bool b10, .bool b11, .bool b12, .bool b13, .int .i64 n14]) fun w17 => JoinW [.bool] (fun J19 => BIf (!b15) (J19 true w17) (∃ b47 : Bool, w17.cell? ⟨w5.heap.size, 2, none⟩ = some (.bool b47) ∧ BIf b47 (∃ b48 : Bool, w17.cell? ⟨w5.heap.size, 1, none⟩ = some (.bool b48) ∧ J19 (!b48) w17) (J19 false w17))) (fun (b18 : Bool) w20 => BIf b18 (K (.int .i64 (-5)) w20) (∃ b21 : Bool, w20.cell? ⟨w5.heap.size, 1, none⟩ = some (.bool b21) ∧ JoinW [.bool] (fun J23 => BIf (!b21) (∃ b46 : Bool, w20.cell? ⟨w5.heap.size, 2, none⟩ = some (.bool b46) ∧ J23 (!b46) w20) (J23 false w20)) (fun (b22 : Bool) w24 => JoinW [.bool] (fun J26 => BIf b22 (∃ b45 : Bool, w24.cell? ⟨w5.heap.size, 3, none⟩ = some (.bool b45) ∧ J26 (!b45) w24) (J26 false w24)) (fun (b25 : Bool) w27 => BIf b25 (∃ b28 : Bool, w27.cell? ⟨w5.heap.size, 4, none⟩ = some (.bool b28) ∧ JoinW [.bool] (fun J30 => BIf b28 (J30 true w27) (∃ b39 : Bool, w27.cell? ⟨w5.heap.size, 5, none⟩ = some (.bool b39) ∧ J30 b39 w27)) (fun (b29 : Bool) w31 => JoinW [.bool] (fun J33 => BIf b29 (J33 true w31) (∃ b38 : Bool, w31.cell? ⟨w5.heap.size, 6, none⟩ = some (.bool b38) ∧ J33 b38 w31)) (fun (b32 : Bool) w34 => JoinW [.bool] (fun J36 => BIf b32 (J36 true w34) (J36 ((a1 : Int) == 0) w34)) (fun (b35 : Bool) w37 => BIf b35 (K (.int .i64 (-5)) w37) (K (.int .i64 0) w37))))) (∃ n40 : Int, w27.drew.cell? ⟨w5.heap.size, 8, none⟩ = some (.int .i64 n40) ∧ CallW Try.prog 177 #[.int .i64 a1] w27.drew fun v41 w42 => ∃ n43 : Int, v41 = .int .i64 n43 ∧ (∃ n44 : Int, w42.cell? ⟨w5.heap.size, 8, none⟩ = some (.int .i64 n44) ∧ (.int .i64 n44 : Value) = (.int .i64 n40 : Value)) ∧ (n43 : Int) ≠ 0 ∧ BIf ((Int.tmod n40 n43 : Int) != 0) (K (.int .i64 (-6)) w42) (K (.int .i64 1) w42)))))))
theorem eq186 (a0 : Int) (a1 : Int) (w : World) (K : Value → World → Prop) : denFn Try.prog tt Try.f186 an186 [.int .u64 a0, .int .i64 a1] w K = W186 a0 a1 w K := by kernel_rfl
theorem ok186 : OkFn Try.prog 186 := ⟨Try.f186, Try.func186, by kernel_rfl, by kernel_rfl⟩
theorem go186 {a0 : Int} {a1 : Int} {w : World} {K : Value → World → Prop} (h : W186 a0 a1 w K) : CallW Try.prog 186 #[.int .u64 a0, .int .i64 a1] w K :=
  .inl ⟨ok186, denFn_sound tt_ok mix Try.func186 (by kernel_rfl) (eq186 a0 a1 w K ▸ h)⟩

/- loop.example/g00008/laws.toBlock -/
def an187 : Ann := (.seq .leaf (.seq .leaf (.seq .leaf (.seq .leaf (.seq .leaf .leaf)))))
def W187 (a0_0 : Int) (a0_1 : Int) (w : World) (K : Value → World → Prop) : Prop :=
  LetW (w.alloc (.cells #[.int .i64 a0_0, .int .i64 a0_1] 211)) fun w1 => LetW (w1.alloc (.cells #[.int .i64 0, .int .i64 0] 123)) fun w2 => LetW (w2.alloc (.cells #[.int .i64 0, .int .i64 0] 123)) fun w3 => ∃ n4 : Int, w3.cell? ⟨w.heap.size, 0, none⟩ = some (.int .i64 n4) ∧ May w3 ⟨w2.heap.size, 0, none⟩ ∧ LetW (w3.setCell ⟨w2.heap.size, 0, none⟩ (.int .i64 n4)) fun w5 => ∃ n6 : Int, w5.cell? ⟨w.heap.size, 1, none⟩ = some (.int .i64 n6) ∧ May w5 ⟨w2.heap.size, 1, none⟩ ∧ LetW (w5.setCell ⟨w2.heap.size, 1, none⟩ (.int .i64 n6)) fun w7 => ∃ n8 : Int, w7.cell? ⟨w2.heap.size, 0, none⟩ = some (.int .i64 n8) ∧ ∃ n9 : Int, w7.cell? ⟨w2.heap.size, 1, none⟩ = some (.int .i64 n9) ∧ MayN w7 ⟨w1.heap.size, 0, none⟩ 2 ∧ LetW (puts w7 ⟨w1.heap.size, 0, none⟩ 0 [.int .i64 n8, .int .i64 n9]) fun w10 => ∃ n11 : Int, w10.cell? ⟨w1.heap.size, 0, none⟩ = some (.int .i64 n11) ∧ ∃ n12 : Int, w10.cell? ⟨w1.heap.size, 1, none⟩ = some (.int .i64 n12) ∧ K (.agg #[.int .i64 n11, .int .i64 n12]) w10
theorem eq187 (a0_0 : Int) (a0_1 : Int) (w : World) (K : Value → World → Prop) : denFn Try.prog tt Try.f187 an187 [.agg #[.int .i64 a0_0, .int .i64 a0_1]] w K = W187 a0_0 a0_1 w K := by kernel_rfl
theorem ok187 : OkFn Try.prog 187 := ⟨Try.f187, Try.func187, by kernel_rfl, by kernel_rfl⟩
theorem go187 {a0_0 : Int} {a0_1 : Int} {w : World} {K : Value → World → Prop} (h : W187 a0_0 a0_1 w K) : CallW Try.prog 187 #[.agg #[.int .i64 a0_0, .int .i64 a0_1]] w K :=
  .inl ⟨ok187, denFn_sound tt_ok mix Try.func187 (by kernel_rfl) (eq187 a0_0 a0_1 w K ▸ h)⟩

/- loop.example/g00008/laws.eqBlock -/
def an188 : Ann := (.seq .leaf (.seq (.seq .leaf (.cond (.seq .leaf .leaf) .leaf)) (.seq (.seq .leaf (.cond (.seq .leaf .leaf) .leaf)) (.seq .leaf .leaf))))
def W188 (a0_0 : Int) (a0_1 : Int) (a1_0 : Int) (a1_1 : Int) (w : World) (K : Value → World → Prop) : Prop :=
  LetW (w.alloc (.cells #[.int .i64 a0_0, .int .i64 a0_1] 123)) fun w1 => LetW (w1.alloc (.cells #[.int .i64 a1_0, .int .i64 a1_1] 123)) fun w2 => ∃ n3 : Int, w2.cell? ⟨w.heap.size, 0, none⟩ = some (.int .i64 n3) ∧ ∃ n4 : Int, w2.cell? ⟨w1.heap.size, 0, none⟩ = some (.int .i64 n4) ∧ BIf ((n3 : Int) != n4) (K (.bool false) w2) (∃ n5 : Int, w2.cell? ⟨w.heap.size, 1, none⟩ = some (.int .i64 n5) ∧ ∃ n6 : Int, w2.cell? ⟨w1.heap.size, 1, none⟩ = some (.int .i64 n6) ∧ BIf ((n5 : Int) != n6) (K (.bool false) w2) (K (.bool true) w2))
theorem eq188 (a0_0 : Int) (a0_1 : Int) (a1_0 : Int) (a1_1 : Int) (w : World) (K : Value → World → Prop) : denFn Try.prog tt Try.f188 an188 [.agg #[.int .i64 a0_0, .int .i64 a0_1], .agg #[.int .i64 a1_0, .int .i64 a1_1]] w K = W188 a0_0 a0_1 a1_0 a1_1 w K := by kernel_rfl
theorem ok188 : OkFn Try.prog 188 := ⟨Try.f188, Try.func188, by kernel_rfl, by kernel_rfl⟩
theorem go188 {a0_0 : Int} {a0_1 : Int} {a1_0 : Int} {a1_1 : Int} {w : World} {K : Value → World → Prop} (h : W188 a0_0 a0_1 a1_0 a1_1 w K) : CallW Try.prog 188 #[.agg #[.int .i64 a0_0, .int .i64 a0_1], .agg #[.int .i64 a1_0, .int .i64 a1_1]] w K :=
  .inl ⟨ok188, denFn_sound tt_ok mix Try.func188 (by kernel_rfl) (eq188 a0_0 a0_1 a1_0 a1_1 w K ▸ h)⟩

/- loop.example/g00008/impl.translate$1 -/
def an189 : Ann := (.seq .leaf (.seq .leaf .leaf))
def W189 (a0 : Int) (c0 : Addr) (c1 : Addr) (w : World) (K : Value → World → Prop) : Prop :=
  LetW (w.alloc (.cells #[.int .i64 0, .int .i64 0, .int .i64 0, .int .i64 0, .int .u64 0] 93)) fun w1 => ∃ n2 : Int, w1.cell? c0 = some (.int .i64 n2) ∧ ∃ n3 : Int, w1.cell? c1 = some (.int .i64 n3) ∧ MayN w1 ⟨w.heap.size, 0, none⟩ 5 ∧ LetW (puts w1 ⟨w.heap.size, 0, none⟩ 0 [.int .i64 a0, .int .i64 n2, .int .i64 n3, .int .i64 0, .int .u64 0]) fun w4 => ∃ n5 : Int, w4.cell? ⟨w.heap.size, 0, none⟩ = some (.int .i64 n5) ∧ ∃ n6 : Int, w4.cell? ⟨w.heap.size, 1, none⟩ = some (.int .i64 n6) ∧ ∃ n7 : Int, w4.cell? ⟨w.heap.size, 2, none⟩ = some (.int .i64 n7) ∧ ∃ n8 : Int, w4.cell? ⟨w.heap.size, 3, none⟩ = some (.int .i64 n8) ∧ ∃ n9 : Int, w4.cell? ⟨w.heap.size, 4, none⟩ = some (.int .u64 n9) ∧ K (.agg #[.int .i64 n5, .int .i64 n6, .int .i64 n7, .int .i64 n8, .int .u64 n9]) w4
theorem eq189 (a0 : Int) (c0 : Addr) (c1 : Addr) (w : World) (K : Value → World → Prop) : denFn Try.prog tt Try.f189 an189 [.int .i64 a0, .pointer (some c0), .pointer (some c1)] w K = W189 a0 c0 c1 w K := by kernel_rfl
theorem ok189 : OkFn Try.prog 189 := ⟨Try.f189, Try.func189, by kernel_rfl, by kernel_rfl⟩
theorem go189 {a0 : Int} {c0 : Addr} {c1 : Addr} {w : World} {K : Value → World → Prop} (h : W189 a0 c0 c1 w K) : CallW Try.prog 189 #[.int .i64 a0, .pointer (some c0), .pointer (some c1)] w K :=
  .inl ⟨ok189, denFn_sound tt_ok mix Try.func189 (by kernel_rfl) (eq189 a0 c0 c1 w K ▸ h)⟩

/- loop.example/g00008/impl.sizeOk -/
def an190 : Ann := (.seq .leaf (.seq (.reg [(3, none), (3, some (1, [(8, .bool)])), (1, none), (3, some (1, [(12, .bool)])), (1, none), (3, some (0, [(16, .bool)])), (1, none)]) .leaf))
def W190 (a0 : Int) (w : World) (K : Value → World → Prop) : Prop :=
  JoinW [.bool] (fun J2 => BIf ((a0 : Int) == 1) (J2 true w) (J2 ((a0 : Int) == 2) w)) (fun (b1 : Bool) w3 => JoinW [.bool] (fun J5 => BIf b1 (J5 true w3) (J5 ((a0 : Int) == 4) w3)) (fun (b4 : Bool) w6 => JoinW [.bool] (fun J8 => BIf b4 (J8 true w6) (J8 ((a0 : Int) == 8) w6)) (fun (b7 : Bool) w9 => K (.bool b7) w9)))
theorem eq190 (a0 : Int) (w : World) (K : Value → World → Prop) : denFn Try.prog tt Try.f190 an190 [.int .i64 a0] w K = W190 a0 w K := by kernel_rfl
theorem ok190 : OkFn Try.prog 190 := ⟨Try.f190, Try.func190, by kernel_rfl, by kernel_rfl⟩
theorem go190 {a0 : Int} {w : World} {K : Value → World → Prop} (h : W190 a0 w K) : CallW Try.prog 190 #[.int .i64 a0] w K :=
  .inl ⟨ok190, denFn_sound tt_ok mix Try.func190 (by kernel_rfl) (eq190 a0 w K ▸ h)⟩

/- loop.example/g00008/impl.inside -/
def an191 : Ann := (.seq .leaf (.seq (.reg [(3, none), (3, some (7, [(12, .bool)])), (1, none), (4, some (7, [(17, .bool)])), (1, none), (6, some (0, [(24, .bool)])), (1, none)]) .leaf))
def W191 (a0 : Int) (a1 : Int) (a2 : Int) (w : World) (K : Value → World → Prop) : Prop :=
  JoinW [.bool] (fun J2 => BIf (decide ((a1 : Int) ≥ 0)) (J2 (decide ((a2 : Int) ≥ 0)) w) (J2 false w)) (fun (b1 : Bool) w3 => JoinW [.bool] (fun J5 => BIf b1 (J5 (decide ((a1 : Int) ≤ a0)) w3) (J5 false w3)) (fun (b4 : Bool) w6 => JoinW [.bool] (fun J8 => BIf b4 (J8 (decide ((a2 : Int) ≤ (IntKind.wrap .i64 (a0 - a1)))) w6) (J8 false w6)) (fun (b7 : Bool) w9 => K (.bool b7) w9)))
theorem eq191 (a0 : Int) (a1 : Int) (a2 : Int) (w : World) (K : Value → World → Prop) : denFn Try.prog tt Try.f191 an191 [.int .i64 a0, .int .i64 a1, .int .i64 a2] w K = W191 a0 a1 a2 w K := by kernel_rfl
theorem ok191 : OkFn Try.prog 191 := ⟨Try.f191, Try.func191, by kernel_rfl, by kernel_rfl⟩
theorem go191 {a0 : Int} {a1 : Int} {a2 : Int} {w : World} {K : Value → World → Prop} (h : W191 a0 a1 a2 w K) : CallW Try.prog 191 #[.int .i64 a0, .int .i64 a1, .int .i64 a2] w K :=
  .inl ⟨ok191, denFn_sound tt_ok mix Try.func191 (by kernel_rfl) (eq191 a0 a1 a2 w K ▸ h)⟩

/- loop.example/g00008/spec.l1Pow -/
def an193 : Ann := (.seq .leaf (.seq .leaf (.seq (.seq .leaf (.in_ (.loop 1 [(3, .int .u64), (4, .int .i64)] (.seq (.seq .leaf (.cond .leaf .leaf)) (.seq (.in_ .leaf) .leaf))))) (.seq .leaf .leaf))))
def W193 (a0 : Int) (w : World) (K : Value → World → Prop) : Prop :=
  LoopW [.int .u64, .int .i64] (fun J3 => fun (n1 : Int) (n2 : Int) w4 => BIf (decide ((n2 : Int) < a0)) (J3 (IntKind.wrap .u64 (n1 * 2)) (IntKind.wrap .i64 (n2 + 1)) w4) (K (.int .u64 n1) w4)) ((1 : Int), ((0 : Int), ())) w
theorem eq193 (a0 : Int) (w : World) (K : Value → World → Prop) : denFn Try.prog tt Try.f193 an193 [.int .i64 a0] w K = W193 a0 w K := by kernel_rfl
theorem ok193 : OkFn Try.prog 193 := ⟨Try.f193, Try.func193, by kernel_rfl, by kernel_rfl⟩
theorem go193 {a0 : Int} {w : World} {K : Value → World → Prop} (h : W193 a0 w K) : CallW Try.prog 193 #[.int .i64 a0] w K :=
  .inl ⟨ok193, denFn_sound tt_ok mix Try.func193 (by kernel_rfl) (eq193 a0 w K ▸ h)⟩

/- loop.example/g00008/spec.l1Bit -/
def an194 : Ann := (.seq .leaf (.seq .leaf .leaf))
def W194 (a0 : Int) (a1 : Int) (w : World) (K : Value → World → Prop) : Prop :=
  CallW Try.prog 193 #[.int .i64 a1] w fun v1 w2 => ∃ n3 : Int, v1 = .int .u64 n3 ∧ (n3 : Int) ≠ 0 ∧ (2 : Int) ≠ 0 ∧ K (.int .u64 (Int.tmod (IntKind.wrap .u64 (Int.tdiv a0 n3)) 2)) w2
theorem eq194 (a0 : Int) (a1 : Int) (w : World) (K : Value → World → Prop) : denFn Try.prog tt Try.f194 an194 [.int .u64 a0, .int .i64 a1] w K = W194 a0 a1 w K := by kernel_rfl
theorem ok194 : OkFn Try.prog 194 := ⟨Try.f194, Try.func194, by kernel_rfl, by kernel_rfl⟩
theorem go194 {a0 : Int} {a1 : Int} {w : World} {K : Value → World → Prop} (h : W194 a0 a1 w K) : CallW Try.prog 194 #[.int .u64 a0, .int .i64 a1] w K :=
  .inl ⟨ok194, denFn_sound tt_ok mix Try.func194 (by kernel_rfl) (eq194 a0 a1 w K ▸ h)⟩

/- loop.example/g00008/spec.l1SizeOk -/
def an195 : Ann := (.seq .leaf (.seq (.reg [(3, none), (3, some (1, [(8, .bool)])), (1, none), (3, some (1, [(12, .bool)])), (1, none), (3, some (0, [(16, .bool)])), (1, none)]) .leaf))
def W195 (a0 : Int) (w : World) (K : Value → World → Prop) : Prop :=
  JoinW [.bool] (fun J2 => BIf ((a0 : Int) == 1) (J2 true w) (J2 ((a0 : Int) == 2) w)) (fun (b1 : Bool) w3 => JoinW [.bool] (fun J5 => BIf b1 (J5 true w3) (J5 ((a0 : Int) == 4) w3)) (fun (b4 : Bool) w6 => JoinW [.bool] (fun J8 => BIf b4 (J8 true w6) (J8 ((a0 : Int) == 8) w6)) (fun (b7 : Bool) w9 => K (.bool b7) w9)))
theorem eq195 (a0 : Int) (w : World) (K : Value → World → Prop) : denFn Try.prog tt Try.f195 an195 [.int .i64 a0] w K = W195 a0 w K := by kernel_rfl
theorem ok195 : OkFn Try.prog 195 := ⟨Try.f195, Try.func195, by kernel_rfl, by kernel_rfl⟩
theorem go195 {a0 : Int} {w : World} {K : Value → World → Prop} (h : W195 a0 w K) : CallW Try.prog 195 #[.int .i64 a0] w K :=
  .inl ⟨ok195, denFn_sound tt_ok mix Try.func195 (by kernel_rfl) (eq195 a0 w K ▸ h)⟩

end Go.Proofs.Ytkgoanjemhbjgaa

/- The types of the laws' parameters, as values of Lean's. Conditions: none. -/
set_option linter.unusedVariables false
set_option maxRecDepth 100000
namespace Go.Proofs.Ytkgoanjemhbjgaa
open Go Go.Den
theorem o5 : Opens Try.prog 5 (cInt .u8) := opens_int Try.underlying5
theorem o22 : Opens Try.prog 22 (cSlice (cInt .u8)) := opens_slice Try.underlying22 (by kernel_rfl) o5
theorem o2 : Opens Try.prog 2 (cInt .i64) := opens_int Try.underlying2
structure DBlock where
  At : Int
  Order : Int
def cDBlock : Cod DBlock := cMap (cPair (cInt .i64) (cPair (cInt .i64) cUnit)) (fun x => ⟨x.1, x.2.1⟩)
abbrev TyBlock : Ty := .st [(.int .i64), (.int .i64)]
def DBlock.dat (x : DBlock) : Dat := .st [.int .i64 x.At, .int .i64 x.Order]
theorem cDBlock_dat {w : World} {cs : List Value} {x : DBlock} (h : cDBlock.is w cs x) : IsD w x.dat cs := by
  obtain ⟨y, rfl, ⟨a0, b0, rfl, _, h0, ⟨a1, b1, rfl, _, h1, z⟩⟩⟩ := h
  exact isD_mkSt (isF_mk (isD_mkInt h0) (isF_mk (isD_mkInt h1) (isF_mk0 z)))
theorem DBlock.has (x : DBlock) : Has TyBlock x.dat := mk_st (mkF_cons (mk_int) (mkF_cons (mk_int) (mkF_nil)))
theorem DBlock.is_cells {w : World} {cs : List Value} {x : DBlock} (h : IsD w x.dat cs) : cs = [.int .i64 x.At, .int .i64 x.Order] := by
  have q := isD_st h
  obtain ⟨_, _, rfl, i0, q⟩ := isF_cons q
  obtain ⟨_, _, rfl, i1, q⟩ := isF_cons q
  obtain rfl := isF_nil q
  obtain ⟨rfl, _⟩ := isD_int i0
  obtain ⟨rfl, _⟩ := isD_int i1
  rfl
def DBlock.cells (x : DBlock) : List Value := [.int .i64 x.At, .int .i64 x.Order]
theorem o211 : Opens Try.prog 211 cDBlock := opens_map _ (opens_struct Try.underlying211 (by kernel_rfl) (opensF_cons rfl (by kernel_rfl) o2 (opensF_cons rfl (by kernel_rfl) o2 opensF_nil)))
theorem o54 : Opens Try.prog 54 (cSlice cDBlock) := opens_slice Try.underlying54 (by kernel_rfl) o211
structure DFrames where
  Total : Int
  Free : List DBlock
def cDFrames : Cod DFrames := cMap (cPair (cInt .i64) (cPair (cSlice cDBlock) cUnit)) (fun x => ⟨x.1, x.2.1⟩)
abbrev TyFrames : Ty := .st [(.int .i64), (.sl 2 TyBlock)]
def DFrames.dat (x : DFrames) : Dat := .st [.int .i64 x.Total, .sl 2 (x.Free.map (DBlock.dat))]
theorem cDFrames_dat {w : World} {cs : List Value} {x : DFrames} (h : cDFrames.is w cs x) : IsD w x.dat cs := by
  obtain ⟨y, rfl, ⟨a0, b0, rfl, _, h0, ⟨a1, b1, rfl, _, h1, z⟩⟩⟩ := h
  exact isD_mkSt (isF_mk (isD_mkInt h0) (isF_mk (isD_mkSl (f := DBlock.dat) h1 (fun es x hx => cDBlock_dat hx)) (isF_mk0 z)))
theorem DFrames.has (x : DFrames) : Has TyFrames x.dat := mk_st (mkF_cons (mk_int) (mkF_cons (mk_sl (fun e he => by obtain ⟨y, _, rfl⟩ := List.mem_map.1 he; exact DBlock.has _)) (mkF_nil)))
theorem o56 : Opens Try.prog 56 cDFrames := opens_map _ (opens_struct Try.underlying56 (by kernel_rfl) (opensF_cons rfl (by kernel_rfl) o2 (opensF_cons rfl (by kernel_rfl) o54 opensF_nil)))
structure DPool where
  Mem : List Int
  Free : DFrames
def cDPool : Cod DPool := cMap (cPair (cSlice (cInt .u8)) (cPair cDFrames cUnit)) (fun x => ⟨x.1, x.2.1⟩)
abbrev TyPool : Ty := .st [(.sl 1 (.int .u8)), TyFrames]
def DPool.dat (x : DPool) : Dat := .st [.sl 1 (x.Mem.map (Dat.int .u8)), x.Free.dat]
theorem cDPool_dat {w : World} {cs : List Value} {x : DPool} (h : cDPool.is w cs x) : IsD w x.dat cs := by
  obtain ⟨y, rfl, ⟨a0, b0, rfl, _, h0, ⟨a1, b1, rfl, _, h1, z⟩⟩⟩ := h
  exact isD_mkSt (isF_mk (isD_mkSl (f := Dat.int .u8) h0 (fun es x hx => isD_mkInt hx)) (isF_mk (cDFrames_dat h1) (isF_mk0 z)))
theorem DPool.has (x : DPool) : Has TyPool x.dat := mk_st (mkF_cons (mk_sl (fun e he => by obtain ⟨y, _, rfl⟩ := List.mem_map.1 he; exact mk_int)) (mkF_cons (DFrames.has _) (mkF_nil)))
theorem o58 : Opens Try.prog 58 cDPool := opens_map _ (opens_struct Try.underlying58 (by kernel_rfl) (opensF_cons rfl (by kernel_rfl) o22 (opensF_cons rfl (by kernel_rfl) o56 opensF_nil)))
end Go.Proofs.Ytkgoanjemhbjgaa

/- Spaces: words and entries of memory, on both sides. Conditions: none. -/
set_option linter.unusedVariables false
set_option linter.unusedSimpArgs false
namespace Go.Proofs.Ytkgoanjemhbjgaa
open Go Go.Den
def byt (m : List Int) (i : Int) : Int := m.getD i.toNat 0
/-- Bytes that are lent. -/
structure Bytes (w : World) (s : Sl) (m : List Int) : Prop where
  len : s.len = m.length
  cap : s.len ≤ s.cap
  row : RowAt w s.a s.len (m.map (Value.int .u8))
  rng : ∀ x, x ∈ m → 0 ≤ x ∧ x ≤ 255
  small : m.length ≤ 1099511627776
theorem Bytes.ext {w w' : World} {s : Sl} {m : List Int} (h : Bytes w s m) (e : Ext w w') : Bytes w' s m := ⟨h.len, h.cap, e.row h.row, h.rng, h.small⟩
theorem Bytes.at {w : World} {s : Sl} {m : List Int} (h : Bytes w s m) {i : Int} (h0 : 0 ≤ i) (h1 : i < m.length) : ∃ p, s.a = some p ∧ w.cell? (p.add (i.toNat * 1)) = some (.int .u8 (byt m i)) := by
  have hi : i.toNat < m.length := by omega
  obtain ⟨p, hp, hc⟩ := h.row.cell (i := i.toNat) (v := .int .u8 (byt m i)) (by rw [List.getElem?_map, List.getElem?_eq_getElem hi]; simp [byt, List.getD_eq_getElem?_getD, List.getElem?_eq_getElem hi])
  exact ⟨p, hp, by rw [Nat.mul_one]; exact hc⟩
theorem byt_rng {m : List Int} (h : ∀ x, x ∈ m → 0 ≤ x ∧ x ≤ 255) (i : Int) : 0 ≤ byt m i ∧ byt m i ≤ 255 := by
  unfold byt
  rw [List.getD_eq_getElem?_getD]
  cases hx : m[i.toNat]? with
  | none => simp
  | some x => exact h x (List.mem_of_getElem? hx)
def hornr (m : List Int) (at_ : Int) : Nat → Int → Int
  | 0, x => x
  | i + 1, x => hornr m at_ i (x * 256 + byt m (at_ + (i : Int)))
def word (m : List Int) (at_ : Int) : Int := hornr m at_ 8 0
def B256 : Nat → Int
  | 0 => 1
  | n + 1 => 256 * B256 n
theorem B256_le : ∀ n, n ≤ 8 → 1 ≤ B256 n ∧ B256 n ≤ 18446744073709551616 := by decide
theorem hornr_rng {m : List Int} (hm : ∀ x, x ∈ m → 0 ≤ x ∧ x ≤ 255) (at_ : Int) : ∀ (k : Nat) (x : Int), k ≤ 8 → 0 ≤ x → x < B256 (8 - k) → 0 ≤ hornr m at_ k x ∧ hornr m at_ k x < 18446744073709551616
  | 0, x, hk, h0, h1 => ⟨h0, by have : B256 (8 - 0) = 18446744073709551616 := by decide
                                unfold hornr; omega⟩
  | k + 1, x, hk, h0, h1 => by
    have hb := byt_rng hm (at_ + (k : Int))
    have e : B256 (8 - k) = 256 * B256 (8 - (k + 1)) := by rw [show 8 - k = (8 - (k + 1)) + 1 by omega]; rfl
    exact hornr_rng hm at_ k _ (by omega) (by omega) (by omega)
theorem word_rng {m : List Int} (hm : ∀ x, x ∈ m → 0 ≤ x ∧ x ≤ 255) (at_ : Int) : 0 ≤ word m at_ ∧ word m at_ < 18446744073709551616 := hornr_rng hm at_ 8 0 (by omega) (by omega) (by decide)
/-! ## Bits -/
theorem ofInt_nat {y : Int} (h0 : 0 ≤ y) (h1 : y < 18446744073709551616) : (BitVec.ofInt 64 y).toNat = y.toNat := by
  rw [BitVec.toNat_ofInt]
  have : y % ((2 ^ 64 : Nat) : Int) = y := Int.emod_eq_of_lt h0 (by simpa using h1)
  rw [this]
theorem and_mask {y : Int} (k : Nat) (hk : k ≤ 62) (h0 : 0 ≤ y) (h1 : y < 18446744073709551616) : andI .u64 y ((2 ^ k - 1 : Nat) : Int) = y % ((2 ^ k : Nat) : Int) := by
  have hp : 2 ^ k ≤ 2 ^ 62 := Nat.pow_le_pow_right (by omega) hk
  have hp1 : 1 ≤ 2 ^ k := Nat.one_le_two_pow
  unfold andI
  show IntKind.u64.wrap ((BitVec.ofInt 64 y &&& BitVec.ofInt 64 ((2 ^ k - 1 : Nat) : Int)).toNat : Int) = _
  rw [BitVec.toNat_and, ofInt_nat h0 h1, ofInt_nat (by omega) (by omega), Int.toNat_natCast, Nat.and_two_pow_sub_one_eq_mod]
  obtain ⟨n, rfl⟩ := Int.eq_ofNat_of_zero_le h0
  have := Nat.mod_lt n (show 0 < 2 ^ k by omega)
  rw [Int.toNat_natCast, ← Int.natCast_emod, wu64 (by omega) (by omega)]
theorem and_one {y : Int} (h0 : 0 ≤ y) (h1 : y < 18446744073709551616) : andI .u64 y 1 = y % 2 := and_mask 1 (by omega) h0 h1
theorem and_4095 {y : Int} (h0 : 0 ≤ y) (h1 : y < 18446744073709551616) : andI .u64 y 4095 = y % 4096 := and_mask 12 (by omega) h0 h1
theorem shr_u64 {y : Int} {n : Nat} (hn : n ≤ 63) : shrI .u64 y (n : Int) = y / ((2 ^ n : Nat) : Int) := by
  unfold shrI
  rw [Int.toNat_natCast, show min n (IntKind.u64.bits) = n from Nat.min_eq_left (by show n ≤ 64; omega)]
  rw [Int.fdiv_eq_ediv_of_nonneg _ (by exact_mod_cast Nat.zero_le _)]
  norm_cast
theorem shl_byte {v : Int} (h0 : 0 ≤ v) (h1 : v < 72057594037927936) : shlI .u64 v 8 = v * 256 := by
  unfold shlI
  show IntKind.u64.wrap (v * 2 ^ (min (Int.toNat 8) 64)) = _
  rw [show v * 2 ^ (min (Int.toNat 8) 64) = v * 256 from rfl, wu64 (by omega) (by omega)]
theorem or_byte {v b : Int} (h0 : 0 ≤ v) (h1 : v < 72057594037927936) (hb0 : 0 ≤ b) (hb1 : b ≤ 255) : orI .u64 (shlI .u64 v 8) (IntKind.wrap .u64 b) = v * 256 + b := by
  rw [shl_byte h0 h1, wu64 hb0 (by omega)]
  unfold orI
  show IntKind.u64.wrap ((BitVec.ofInt 64 (v * 256) ||| BitVec.ofInt 64 b).toNat : Int) = _
  rw [BitVec.toNat_or, ofInt_nat (by omega) (by omega), ofInt_nat (by omega) (by omega)]
  obtain ⟨n, rfl⟩ := Int.eq_ofNat_of_zero_le h0
  obtain ⟨c, rfl⟩ := Int.eq_ofNat_of_zero_le hb0
  have h := Nat.shiftLeft_add_eq_or_of_lt (show c < 2 ^ 8 by omega) n
  rw [show ((n : Int) * 256).toNat = n <<< 8 by rw [Nat.shiftLeft_eq]; omega, Int.toNat_natCast, ← h, Nat.shiftLeft_eq, wu64 (by omega) (by omega)]
  omega
/-! ## Words -/
theorem c195 {w : World} : CallW Try.prog 195 #[.int .i64 8] w (fun v w' => v = .bool true ∧ w' = w) := by
  refine go195 ?_
  unfold W195
  simp only [join_or]
  exact ⟨rfl, by trivial⟩
theorem c190 {w : World} : CallW Try.prog 190 #[.int .i64 8] w (fun v w' => v = .bool true ∧ w' = w) := by
  refine go190 ?_
  unfold W190
  simp only [join_or]
  exact ⟨rfl, by trivial⟩
theorem c191 {n a : Int} {w : World} (h0 : 0 ≤ a) (h1 : a + 8 ≤ n) (h2 : n ≤ 1099511627776) : CallW Try.prog 191 #[.int .i64 n, .int .i64 a, .int .i64 8] w (fun v w' => v = .bool true ∧ w' = w) := by
  refine go191 ?_
  unfold W191
  simp only [join_and]
  refine ⟨?_, by trivial⟩
  rw [w64 (by omega) (by omega)]
  simp
  omega
theorem c174 {s : Sl} {m : List Int} {a : Int} {w : World} (h : Bytes w s m) (h0 : 0 ≤ a) (h1 : a + 8 ≤ m.length) : CallW Try.prog 174 #[.slice s.a s.len s.cap, .int .i64 a, .int .i64 8, .bool false] w (fun v w' => v = .tuple #[.int .u64 (word m a), .bool true] ∧ w' = w) := by
  refine go174 ?_
  unfold W174
  refine c195.mono ?_
  rintro _ w ⟨rfl, rfl⟩
  have hl := h.len
  have hsm := h.small
  refine ⟨true, rfl, JoinW.each (BIf.f rfl (JoinW.each ?_))⟩
  refine BIf.f (decide_eq_false (by omega)) ?_
  refine BIf.f (decide_eq_false (by rw [w64 (by omega) (by omega)]; omega)) ?_
  refine LoopW.m2 (fun (x i : Int) w' => ∃ k : Nat, k ≤ 8 ∧ i = (k : Int) - 1 ∧ hornr m a k x = word m a ∧ 0 ≤ x ∧ x < B256 (8 - k) ∧ w' = w) (fun _ (i : Int) _ => (i + 1).toNat) ⟨8, by omega, by rw [w64 (by omega) (by omega)]; rfl, rfl, by omega, by decide, rfl⟩ ?_
  rintro (x : Int) (i : Int) w ⟨k, hk, rfl, hx, hx0, hx1, rfl⟩ J hJ
  refine BIf.dec (fun hge => ?_) (fun hlt => ?_)
  · obtain ⟨j, rfl⟩ : ∃ j, k = j + 1 := ⟨k - 1, by omega⟩
    have hb := byt_rng h.rng (a + (j : Int))
    have e : B256 (8 - j) = 256 * B256 (8 - (j + 1)) := by rw [show 8 - j = (8 - (j + 1)) + 1 by omega]; rfl
    have hB := B256_le (8 - j) (by omega)
    have hidx : IntKind.i64.wrap (a + (((j + 1 : Nat) : Int) - 1)) = a + (j : Int) := by rw [w64 (by omega) (by omega)]; omega
    rw [hidx]
    obtain ⟨p, hp, hc⟩ := h.at (i := a + (j : Int)) (by omega) (by omega)
    refine ⟨by omega, by omega, p, hp, _, hc, ?_⟩
    rw [wu64 (n := byt m (a + (j : Int))) (by omega) (by omega), wu64 (n := x * 256) (by omega) (by omega), wu64 (by omega) (by omega), w64 (by omega) (by omega)]
    exact hJ _ _ _ ⟨j, by omega, by omega, hx, by omega, by omega, rfl⟩ (by omega)
  · have hk0 : k = 0 := by omega
    subst hk0
    refine BIf.f rfl ⟨?_, rfl⟩
    have hx : x = word m a := hx
    rw [hx]
theorem c168 {s : Sl} {m : List Int} {a : Int} {w : World} (h : Bytes w s m) (h0 : 0 ≤ a) (h1 : a + 8 ≤ m.length) : CallW Try.prog 168 #[.slice s.a s.len s.cap, .int .i64 a, .int .i64 8, .bool false] w (fun v w' => v = .tuple #[.int .u64 (word m a), .bool true] ∧ w' = w) := by
  refine go168 ?_
  unfold W168
  refine c190.mono ?_
  rintro _ w ⟨rfl, rfl⟩
  have hl := h.len
  have hsm := h.small
  refine ⟨true, rfl, JoinW.each (BIf.f rfl ((c191 h0 (by omega) (by omega)).mono ?_))⟩
  rintro _ w ⟨rfl, rfl⟩
  refine ⟨true, rfl, BIf.f rfl ?_⟩
  refine LoopW.m2 (fun (x i : Int) w' => ∃ k : Nat, k ≤ 8 ∧ i = (k : Int) - 1 ∧ hornr m a k x = word m a ∧ 0 ≤ x ∧ x < B256 (8 - k) ∧ w' = w) (fun _ (i : Int) _ => (i + 1).toNat) ⟨8, by omega, by rw [w64 (by omega) (by omega)]; rfl, rfl, by omega, by decide, rfl⟩ ?_
  rintro (x : Int) (i : Int) w ⟨k, hk, rfl, hx, hx0, hx1, rfl⟩ J hJ
  refine BIf.dec (fun hge => ?_) (fun hlt => ?_)
  · obtain ⟨j, rfl⟩ : ∃ j, k = j + 1 := ⟨k - 1, by omega⟩
    have hb := byt_rng h.rng (a + (j : Int))
    have e : B256 (8 - j) = 256 * B256 (8 - (j + 1)) := by rw [show 8 - j = (8 - (j + 1)) + 1 by omega]; rfl
    have hB := B256_le (8 - j) (by omega)
    have hidx : IntKind.i64.wrap (a + (((j + 1 : Nat) : Int) - 1)) = a + (j : Int) := by rw [w64 (by omega) (by omega)]; omega
    rw [hidx]
    obtain ⟨p, hp, hc⟩ := h.at (i := a + (j : Int)) (by omega) (by omega)
    refine ⟨by omega, by omega, by omega, p, hp, _, hc, ?_⟩
    rw [or_byte hx0 (by omega) (by omega) (by omega), w64 (by omega) (by omega)]
    exact hJ _ _ _ ⟨j, by omega, by omega, hx, by omega, by omega, rfl⟩ (by omega)
  · have hk0 : k = 0 := by omega
    subst hk0
    refine BIf.f rfl ⟨?_, rfl⟩
    have hx : x = word m a := hx
    rw [hx]
end Go.Proofs.Ytkgoanjemhbjgaa

/- Spaces: an entry's bits, on both sides. Conditions: none. -/
set_option linter.unusedVariables false
set_option linter.unusedSimpArgs false
namespace Go.Proofs.Ytkgoanjemhbjgaa
open Go Go.Den
def ebit (x : Int) (n : Nat) : Bool := x / ((2 ^ n : Nat) : Int) % 2 == 1
def efr (x : Int) : Int := x / 256 % 4096
def eCells (x : Int) : List Value := [.bool (ebit x 0), .bool (ebit x 1), .bool (ebit x 2), .bool (ebit x 3), .bool (ebit x 4), .bool (ebit x 5), .bool (ebit x 6), .bool (ebit x 7), .int .i64 (efr x)]
theorem pow_le {a b : Nat} (h : a ≤ b) : 2 ^ a ≤ 2 ^ b := Nat.pow_le_pow_right (by omega) h
theorem c193 {n : Nat} {w : World} (hn : n ≤ 63) : CallW Try.prog 193 #[.int .i64 (n : Int)] w (fun v w' => v = .int .u64 ((2 ^ n : Nat) : Int) ∧ w' = w) := by
  refine go193 ?_
  unfold W193
  refine LoopW.m2 (fun (x i : Int) w' => ∃ k : Nat, k ≤ n ∧ i = k ∧ x = ((2 ^ k : Nat) : Int) ∧ w' = w) (fun _ (i : Int) _ => ((n : Int) - i).toNat) ⟨0, by omega, rfl, rfl, rfl⟩ ?_
  rintro (x : Int) (i : Int) w ⟨k, hk, rfl, rfl, rfl⟩ J hJ
  refine BIf.dec (fun hlt => ?_) (fun hge => ?_)
  · have h1 : 2 ^ (k + 1) ≤ 2 ^ 63 := pow_le (by omega)
    have h2 : 2 ^ (k + 1) = 2 ^ k * 2 := Nat.pow_succ 2 k
    rw [wu64 (by omega) (by omega), w64 (by omega) (by omega)]
    exact hJ _ _ _ ⟨k + 1, by omega, by omega, by rw [h2]; omega, rfl⟩ (by omega)
  · have : k = n := by omega
    subst this
    exact ⟨rfl, rfl⟩
theorem c194 {x : Int} {n : Nat} {w : World} (h0 : 0 ≤ x) (h1 : x < 18446744073709551616) (hn : n ≤ 63) : CallW Try.prog 194 #[.int .u64 x, .int .i64 (n : Int)] w (fun v w' => v = .int .u64 (x / ((2 ^ n : Nat) : Int) % 2) ∧ w' = w) := by
  refine go194 ?_
  unfold W194
  refine (c193 hn).mono ?_
  rintro _ w ⟨rfl, rfl⟩
  have hp : 1 ≤ 2 ^ n := Nat.one_le_two_pow
  have hd0 : 0 ≤ x / ((2 ^ n : Nat) : Int) := Int.ediv_nonneg h0 (by omega)
  have hd1 : x / ((2 ^ n : Nat) : Int) ≤ x := Int.ediv_le_self _ h0
  refine ⟨_, rfl, by omega, by omega, ?_, rfl⟩
  rw [Int.tdiv_eq_ediv_of_nonneg h0, wu64 hd0 (by omega), Int.tmod_eq_emod_of_nonneg hd0]
theorem c173 {x : Int} {n : Nat} {w : World} (h0 : 0 ≤ x) (h1 : x < 18446744073709551616) (hn : n ≤ 63) : CallW Try.prog 173 #[.int .u64 x, .int .i64 (n : Int)] w (fun v w' => v = .bool (ebit x n) ∧ w' = w) := by
  refine go173 ?_
  unfold W173
  refine (c194 h0 h1 hn).mono ?_
  rintro _ w ⟨rfl, rfl⟩
  exact ⟨_, rfl, rfl, rfl⟩
theorem c175 {x : Int} {n : Nat} {c : Addr} {w : World} (hc : w.cell? c = some (.int .u64 x)) (h0 : 0 ≤ x) (h1 : x < 18446744073709551616) (hn : n ≤ 63) : CallW Try.prog 175 #[.int .i64 (n : Int), .pointer (some c)] w (fun v w' => v = .bool (ebit x n) ∧ w' = w) := by
  refine go175 ?_
  unfold W175
  have hp : 1 ≤ 2 ^ n := Nat.one_le_two_pow
  have hd0 : 0 ≤ x / ((2 ^ n : Nat) : Int) := Int.ediv_nonneg h0 (by omega)
  have hd1 : x / ((2 ^ n : Nat) : Int) ≤ x := Int.ediv_le_self _ h0
  refine ⟨x, hc, by omega, ?_, rfl⟩
  rw [shr_u64 hn, and_one hd0 (by omega)]
  rfl
def zE : List Value := [.bool false, .bool false, .bool false, .bool false, .bool false, .bool false, .bool false, .bool false, .int .i64 0]
theorem efr_small {x : Int} (h0 : 0 ≤ x) (h1 : x < 1048576) : efr x = x / 256 := by unfold efr; omega
theorem c123f {x : Int} {w : World} (h1 : 1048576 ≤ x) : CallW Try.prog 123 #[.int .u64 x] w (fun v w' => v = .tuple #[.agg ⟨zE⟩, .bool false] ∧ Ext w w') := by
  refine go123 ?_
  unfold W123
  refine alloc_step (fun w1 e1 hb n1 => ?_)
  refine BIf.t (decide_eq_true h1) ?_
  refine put_step hb rfl rfl (fun w2 o2 hb n2 => ?_)
  refine ⟨_, hb.cell 0, _, hb.cell 1, _, hb.cell 2, _, hb.cell 3, _, hb.cell 4, _, hb.cell 5, _, hb.cell 6, _, hb.cell 7, _, hb.cell 8, ?_⟩
  exact ⟨rfl, Ext.own e1 o2 (fun k hk => by omega)⟩
theorem c123 {x : Int} {w : World} (h0 : 0 ≤ x) (h1 : x < 1048576) : CallW Try.prog 123 #[.int .u64 x] w (fun v w' => v = .tuple #[.agg ⟨eCells x⟩, .bool true] ∧ Ext w w') := by
  refine go123 ?_
  unfold W123
  refine alloc_step (fun w1 e1 ha n1 => ?_)
  refine BIf.f (decide_eq_false (by omega)) ⟨by omega, ?_⟩
  rw [Int.tdiv_eq_ediv_of_nonneg h0, wu64 (by omega) (by omega), w64 (by omega) (by omega)]
  refine alloc_step (fun w2 e2 hb n2 => ?_)
  have ha := ha.ext e2
  refine put_step hb rfl rfl (fun w3 o3 hb n3 => ?_)
  have ha := ha.only o3 (by omega)
  have e := Ext.own (Only.trans e1 e2) o3 (fun k hk => by omega)
  refine (c173 (n := 0) h0 (by omega) (by omega)).mono ?_
  rintro _ w10 ⟨rfl, rfl⟩
  refine ⟨_, rfl, ?_⟩
  refine set_step hb (by simp) (fun v0 o10 hb m0 => ?_)
  have ha := ha.only o10 (by omega)
  have e := Ext.own e o10 (fun k hk => by omega)
  refine (c173 (n := 1) h0 (by omega) (by omega)).mono ?_
  rintro _ w11 ⟨rfl, rfl⟩
  refine ⟨_, rfl, ?_⟩
  refine set_step hb (by simp) (fun v1 o11 hb m1 => ?_)
  have ha := ha.only o11 (by omega)
  have e := Ext.own e o11 (fun k hk => by omega)
  refine (c173 (n := 2) h0 (by omega) (by omega)).mono ?_
  rintro _ w12 ⟨rfl, rfl⟩
  refine ⟨_, rfl, ?_⟩
  refine set_step hb (by simp) (fun v2 o12 hb m2 => ?_)
  have ha := ha.only o12 (by omega)
  have e := Ext.own e o12 (fun k hk => by omega)
  refine (c173 (n := 3) h0 (by omega) (by omega)).mono ?_
  rintro _ w13 ⟨rfl, rfl⟩
  refine ⟨_, rfl, ?_⟩
  refine set_step hb (by simp) (fun v3 o13 hb m3 => ?_)
  have ha := ha.only o13 (by omega)
  have e := Ext.own e o13 (fun k hk => by omega)
  refine (c173 (n := 4) h0 (by omega) (by omega)).mono ?_
  rintro _ w14 ⟨rfl, rfl⟩
  refine ⟨_, rfl, ?_⟩
  refine set_step hb (by simp) (fun v4 o14 hb m4 => ?_)
  have ha := ha.only o14 (by omega)
  have e := Ext.own e o14 (fun k hk => by omega)
  refine (c173 (n := 5) h0 (by omega) (by omega)).mono ?_
  rintro _ w15 ⟨rfl, rfl⟩
  refine ⟨_, rfl, ?_⟩
  refine set_step hb (by simp) (fun v5 o15 hb m5 => ?_)
  have ha := ha.only o15 (by omega)
  have e := Ext.own e o15 (fun k hk => by omega)
  refine (c173 (n := 6) h0 (by omega) (by omega)).mono ?_
  rintro _ w16 ⟨rfl, rfl⟩
  refine ⟨_, rfl, ?_⟩
  refine set_step hb (by simp) (fun v6 o16 hb m6 => ?_)
  have ha := ha.only o16 (by omega)
  have e := Ext.own e o16 (fun k hk => by omega)
  refine (c173 (n := 7) h0 (by omega) (by omega)).mono ?_
  rintro _ w17 ⟨rfl, rfl⟩
  refine ⟨_, rfl, ?_⟩
  refine set_step hb (by simp) (fun v7 o17 hb m7 => ?_)
  have ha := ha.only o17 (by omega)
  have e := Ext.own e o17 (fun k hk => by omega)
  refine ⟨_, hb.cell 0, _, hb.cell 1, _, hb.cell 2, _, hb.cell 3, _, hb.cell 4, _, hb.cell 5, _, hb.cell 6, _, hb.cell 7, _, hb.cell 8, ?_⟩
  refine put_step ha rfl rfl (fun w30 o30 ha n30 => ?_)
  have e := Ext.own e o30 (fun k hk => by omega)
  refine ⟨_, ha.cell 0, _, ha.cell 1, _, ha.cell 2, _, ha.cell 3, _, ha.cell 4, _, ha.cell 5, _, ha.cell 6, _, ha.cell 7, _, ha.cell 8, ?_⟩
  refine ⟨?_, e⟩
  show _ = Value.tuple #[.agg ⟨eCells x⟩, .bool true]
  unfold eCells
  rw [efr_small h0 h1]
theorem c127 {x : Int} {w : World} (h0 : 0 ≤ x) (h1 : x < 18446744073709551616) : CallW Try.prog 127 #[.int .u64 x] w (fun v w' => v = .agg ⟨eCells x⟩ ∧ Ext w w') := by
  refine go127 ?_
  unfold W127
  refine alloc_step (fun w1 e1 ha n1 => ?_)
  refine alloc_step (fun w2 e2 hb n2 => ?_)
  have ha := (ha.ext e2).ext (ext_drew w2)
  have hb := hb.ext (ext_drew w2)
  have e := Only.trans (Only.trans e1 e2) (ext_drew w2)
  generalize w2.drew = w2d at *
  have hf : IntKind.i64.wrap (andI .u64 (shrI .u64 x 8) 4095) = efr x := by
    rw [show (8 : Int) = ((8 : Nat) : Int) from rfl, shr_u64 (by omega)]
    rw [and_4095 (by omega) (by omega), w64 (by omega) (by omega)]
    rfl
  refine ⟨x, ha.cell 0, by omega, ?_⟩
  refine (c175 (n := 0) (ha.cell 0) h0 h1 (by omega)).mono ?_
  rintro _ w10 ⟨rfl, rfl⟩
  refine ⟨_, rfl, rfl, ⟨_, ha.cell 0, rfl⟩, ?_⟩
  refine (c175 (n := 1) (ha.cell 0) h0 h1 (by omega)).mono ?_
  rintro _ w11 ⟨rfl, rfl⟩
  refine ⟨_, rfl, rfl, ⟨_, ha.cell 0, rfl⟩, ?_⟩
  refine (c175 (n := 2) (ha.cell 0) h0 h1 (by omega)).mono ?_
  rintro _ w12 ⟨rfl, rfl⟩
  refine ⟨_, rfl, rfl, ⟨_, ha.cell 0, rfl⟩, ?_⟩
  refine (c175 (n := 3) (ha.cell 0) h0 h1 (by omega)).mono ?_
  rintro _ w13 ⟨rfl, rfl⟩
  refine ⟨_, rfl, rfl, ⟨_, ha.cell 0, rfl⟩, ?_⟩
  refine (c175 (n := 4) (ha.cell 0) h0 h1 (by omega)).mono ?_
  rintro _ w14 ⟨rfl, rfl⟩
  refine ⟨_, rfl, rfl, ⟨_, ha.cell 0, rfl⟩, ?_⟩
  refine (c175 (n := 5) (ha.cell 0) h0 h1 (by omega)).mono ?_
  rintro _ w15 ⟨rfl, rfl⟩
  refine ⟨_, rfl, rfl, ⟨_, ha.cell 0, rfl⟩, ?_⟩
  refine (c175 (n := 6) (ha.cell 0) h0 h1 (by omega)).mono ?_
  rintro _ w16 ⟨rfl, rfl⟩
  refine ⟨_, rfl, rfl, ⟨_, ha.cell 0, rfl⟩, ?_⟩
  refine (c175 (n := 7) (ha.cell 0) h0 h1 (by omega)).mono ?_
  rintro _ w17 ⟨rfl, rfl⟩
  refine ⟨_, rfl, rfl, ⟨_, ha.cell 0, rfl⟩, ?_⟩
  rw [hf]
  refine put_step hb rfl rfl (fun w30 o30 hb n30 => ?_)
  refine ⟨_, hb.cell 0, _, hb.cell 1, _, hb.cell 2, _, hb.cell 3, _, hb.cell 4, _, hb.cell 5, _, hb.cell 6, _, hb.cell 7, _, hb.cell 8, rfl, ?_⟩
  exact Ext.own e o30 (fun k hk => by omega)
theorem c177z {w : World} : CallW Try.prog 177 #[.int .i64 0] w (fun v w' => v = .int .i64 1 ∧ w' = w) := by
  refine go177 ?_
  unfold W177
  exact BIf.t rfl ⟨rfl, rfl⟩
theorem c177s {n k : Int} {w : World} (h : ∀ {w : World}, CallW Try.prog 177 #[.int .i64 n] w (fun v w' => v = .int .i64 k ∧ w' = w)) (h0 : 0 ≤ n) (h1 : n ≤ 100) (hk0 : 0 ≤ k) (hk : k ≤ 100000) : CallW Try.prog 177 #[.int .i64 (n + 1)] w (fun v w' => v = .int .i64 (32 * k) ∧ w' = w) := by
  refine go177 ?_
  unfold W177
  refine BIf.f (by simp; omega) ?_
  rw [w64 (by omega) (by omega), show n + 1 - 1 = n by omega]
  refine h.mono ?_
  rintro _ w ⟨rfl, rfl⟩
  refine ⟨_, rfl, ?_, rfl⟩
  rw [w64 (by omega) (by omega)]
def pgs (n : Int) : Int := if n = 0 then 1 else if n = 1 then 32 else 1024
theorem c177 {n : Int} {w : World} (h0 : 0 ≤ n) (h2 : n ≤ 2) : CallW Try.prog 177 #[.int .i64 n] w (fun v w' => v = .int .i64 (pgs n) ∧ w' = w) := by
  have hn : n = 0 ∨ n = 1 ∨ n = 2 := by omega
  have h1 : ∀ {w : World}, CallW Try.prog 177 #[.int .i64 1] w (fun v w' => v = .int .i64 32 ∧ w' = w) := fun {w} => c177s (n := 0) (k := 1) (fun {w} => c177z) (by omega) (by omega) (by omega) (by omega)
  rcases hn with rfl | rfl | rfl
  · exact c177z
  · exact h1
  · exact c177s (n := 1) (k := 32) (fun {w} => h1) (by omega) (by omega) (by omega) (by omega)
theorem pgs_pos {n : Int} (h0 : 0 ≤ n) : 0 < pgs n := by unfold pgs; split <;> (try split) <;> omega
/-- What an entry is, at a level. -/
def kindS (x lvl : Int) : Int :=
  if ebit x 0 = false then -4 else if 1048576 ≤ x then -5 else if (ebit x 2 && !ebit x 1) = true then -5
  else if (!ebit x 1 && !ebit x 2 && !ebit x 3) = true then (if (ebit x 4 || ebit x 5 || ebit x 6 || lvl == 0) = true then -5 else 0)
  else if efr x % pgs lvl ≠ 0 then -6 else 1
theorem c186 {x lvl : Int} {w : World} (h0 : 0 ≤ x) (h1 : x < 18446744073709551616) (hl0 : 0 ≤ lvl) (hl2 : lvl ≤ 2) : CallW Try.prog 186 #[.int .u64 x, .int .i64 lvl] w (fun v w' => v = .int .i64 (kindS x lvl) ∧ Ext w w') := by
  refine go186 ?_
  unfold W186
  refine (c173 (n := 0) h0 h1 (by omega)).mono ?_
  rintro _ w ⟨rfl, rfl⟩
  refine ⟨_, rfl, BIf.of (fun hb => ⟨?_, Only.refl _ _⟩) (fun hb => ?_)⟩
  · have hb : ebit x 0 = false := by simpa using hb
    unfold kindS; rw [if_pos hb]
  have hb0 : ¬ (ebit x 0 = false) := by simpa using hb
  have hk0 := kindS.eq_1 x lvl
  rw [if_neg hb0] at hk0
  by_cases hx : 1048576 ≤ x
  · refine (c123f hx).mono ?_
    rintro _ w2 ⟨rfl, e2⟩
    refine ⟨_, _, _, _, _, _, _, _, _, _, rfl, ?_⟩
    refine alloc_step (fun w3 e3 hb n3 => ?_)
    refine put_step hb rfl rfl (fun w4 o4 hb n4 => ?_)
    have e := Ext.own (Only.trans e2 e3) o4 (fun k hk => by have := e2.size; omega)
    refine JoinW.each (BIf.t rfl (BIf.t rfl ⟨?_, e⟩))
    rw [hk0, if_pos hx]
  · refine (c123 h0 (by omega)).mono ?_
    rintro _ w2 ⟨rfl, e2⟩
    refine ⟨_, _, _, _, _, _, _, _, _, _, rfl, ?_⟩
    refine alloc_step (fun w3 e3 hb n3 => ?_)
    refine put_step hb rfl rfl (fun w4 o4 hb n4 => ?_)
    have e := Ext.own (Only.trans e2 e3) o4 (fun k hk => by have := e2.size; omega)
    rw [if_neg hx] at hk0
    have hb' : Blk w4 w2.heap.size (eCells x) := hb
    clear hb
    refine JoinW.cut1 (fun (b : Bool) w' => b = (ebit x 2 && !ebit x 1) ∧ w' = w4) ?_ ?_
    · exact BIf.f rfl ⟨_, hb'.cell 2, BIf.of (fun hW => ⟨_, hb'.cell 1, by rw [hW]; rfl, rfl⟩) (fun hW => ⟨by rw [hW]; rfl, rfl⟩)⟩
    rintro (b : Bool) w5 ⟨rfl, rfl⟩
    refine BIf.of (fun h => ⟨by rw [hk0, if_pos h], e⟩) (fun h => ?_)
    rw [if_neg (by rw [h]; simp)] at hk0
    refine ⟨_, hb'.cell 1, join_and_ex _ (hb'.cell 2) (join_and_ex _ (hb'.cell 3) ?_)⟩
    refine BIf.of (fun h2 => ?_) (fun h2 => ?_)
    · rw [if_pos h2] at hk0
      refine ⟨_, hb'.cell 4, join_or_ex _ (hb'.cell 5) (join_or_ex _ (hb'.cell 6) ?_)⟩
      rw [join_or]
      refine BIf.of (fun h3 => ⟨by rw [hk0, if_pos h3], e⟩) (fun h3 => ⟨by rw [hk0, if_neg (by rw [h3]; simp)], e⟩)
    · rw [if_neg (by rw [h2]; simp)] at hk0
      have hb2 := hb'.ext (ext_drew w5)
      have e2 := Only.trans e (ext_drew w5)
      generalize w5.drew = w6 at *
      refine ⟨_, hb2.cell 8, (c177 hl0 hl2).mono ?_⟩
      rintro _ w6 ⟨rfl, rfl⟩
      have hp := pgs_pos hl0
      have hf0 : 0 ≤ efr x := by unfold efr; omega
      refine ⟨_, rfl, ⟨_, hb2.cell 8, rfl⟩, by omega, ?_⟩
      rw [Int.tmod_eq_emod_of_nonneg hf0]
      refine BIf.ne (fun h3 => ⟨by rw [hk0, if_pos h3], e2⟩) (fun h3 => ⟨by rw [hk0, if_neg (by rw [h3]; simp)], e2⟩)
/-! ## An entry of a table -/
theorem Bytes.cut {w : World} {s : Sl} {m : List Int} (h : Bytes w s m) {a : Nat} (ha : a + 8 ≤ m.length) : Bytes w ⟨cutA s.a s.cap a 1, 8, s.cap - a⟩ ((m.drop a).take 8) := by
  have hl := h.len
  have hc := h.cap
  refine ⟨by simp; omega, by show 8 ≤ s.cap - a; omega, ?_, fun x hx => h.rng x (List.mem_of_mem_drop (List.mem_of_mem_take hx)), by simp; omega⟩
  obtain ⟨p, hp, hcell⟩ := h.row.2 (by omega)
  refine ⟨by simp; omega, fun _ => ⟨p.add (a * 1), ?_, fun j v hj => ?_⟩⟩
  · show cutA s.a s.cap a 1 = _
    unfold cutA
    rw [hp]
    first
      | rfl
      | (simp; omega)
      | (rw [if_neg (by omega)])
  · rw [add_add, Nat.mul_one]
    refine hcell _ v ?_
    rw [List.map_take, List.map_drop, List.getElem?_take] at hj
    split at hj
    · rw [List.getElem?_drop] at hj; exact hj
    · cases hj
end Go.Proofs.Ytkgoanjemhbjgaa

/- Spaces: frames that can be, on both sides. Conditions: none. -/
set_option linter.unusedVariables false
set_option linter.unusedSimpArgs false
namespace Go.Proofs.Ytkgoanjemhbjgaa
open Go Go.Den
/-- The list of free blocks, lent. -/
structure FrAt (w : World) (l : Sl) (fr : List DBlock) : Prop where
  len : l.len = fr.length
  row : RowAt w l.a (l.len * 2) (fr.flatMap DBlock.cells)
  few : fr.length ≤ 1099511627776
theorem FrAt.ext {w w' : World} {l : Sl} {fr : List DBlock} (h : FrAt w l fr) (e : Ext w w') : FrAt w' l fr := ⟨h.len, e.row h.row, h.few⟩
theorem FrAt.get {w : World} {l : Sl} {fr : List DBlock} (h : FrAt w l fr) {i : Nat} {x : DBlock} (hx : fr[i]? = some x) :
    ∃ p, l.a = some p ∧ w.cell? ((p.add (i * 2)).add 0) = some (.int .i64 x.At) ∧ w.cell? ((p.add (i * 2)).add 1) = some (.int .i64 x.Order) := by
  obtain ⟨p, hp, hc⟩ := RowAt.elem (f := DBlock.cells) (z := 2) (fun _ => rfl) h.row hx (by omega)
  exact ⟨p, hp, hc 0 _ rfl, hc 1 _ rfl⟩
def pw (o : Int) : Int := ((2 ^ o.toNat : Nat) : Int)
theorem pw_rng {o : Int} (h1 : o ≤ 11) : 1 ≤ pw o ∧ pw o ≤ 2048 := by
  unfold pw
  have h1 : 2 ^ o.toNat ≤ 2 ^ 11 := pow_le (by omega)
  have h2 : 1 ≤ 2 ^ o.toNat := Nat.one_le_two_pow
  omega
theorem c176 {o : Int} {w : World} (h0 : 0 ≤ o) (h1 : o ≤ 11) : CallW Try.prog 176 #[.int .i64 o] w (fun v w' => v = .int .i64 (pw o) ∧ w' = w) := by
  refine go176 ?_
  unfold W176
  obtain ⟨n, rfl⟩ := Int.eq_ofNat_of_zero_le h0
  refine LoopW.m2 (fun (x i : Int) w' => ∃ k : Nat, k ≤ n ∧ i = k ∧ x = ((2 ^ k : Nat) : Int) ∧ w' = w) (fun _ (i : Int) _ => ((n : Int) - i).toNat) ⟨0, by omega, rfl, rfl, rfl⟩ ?_
  rintro (x : Int) (i : Int) w ⟨k, hk, rfl, rfl, rfl⟩ J hJ
  refine BIf.dec (fun hlt => ?_) (fun hge => ?_)
  · have h1 : 2 ^ (k + 1) ≤ 2 ^ 11 := pow_le (by omega)
    have h2 : 2 ^ (k + 1) = 2 ^ k * 2 := Nat.pow_succ 2 k
    rw [w64 (by omega) (by omega), w64 (by omega) (by omega)]
    exact hJ _ _ _ ⟨k + 1, by omega, by omega, by rw [h2]; omega, rfl⟩ (by omega)
  · have : k = n := by omega
    subst this
    refine ⟨?_, rfl⟩
    unfold pw; rw [Int.toNat_natCast]
theorem shl_pw {o : Int} (h0 : 0 ≤ o) (h1 : o ≤ 11) : shlI .i64 1 o = pw o := by
  have hp := pw_rng h1
  unfold shlI
  rw [show min o.toNat (IntKind.i64.bits) = o.toNat from Nat.min_eq_left (by show o.toNat ≤ 64; omega)]
  have : (1 : Int) * 2 ^ o.toNat = pw o := by unfold pw; norm_cast; omega
  rw [this, w64 (by omega) (by omega)]
def blkOk (T a o : Int) : Bool := decide (0 ≤ o ∧ o ≤ 10 ∧ 0 ≤ a ∧ a < T ∧ a % pw o = 0 ∧ a + pw o ≤ T)
theorem c145 {T a o : Int} {w : World} (hT : T ≤ 1099511627776) : CallW Try.prog 145 #[.int .i64 T, .agg #[.int .i64 a, .int .i64 o]] w (fun v w' => v = .bool (blkOk T a o) ∧ Ext w w') := by
  refine go145 ?_
  unfold W145
  refine alloc_step (fun w1 e hb n1 => ?_)
  refine ⟨_, hb.cell 1, join_or_ex _ (hb.cell 1) ?_⟩
  refine BIf.of (fun h => ⟨?_, e⟩) (fun h => ?_)
  · simp only [Bool.or_eq_true, decide_eq_true_eq] at h
    unfold blkOk
    rw [decide_eq_false (by omega)]
  · simp only [Bool.or_eq_false_iff, decide_eq_false_iff_not] at h
    have hp := pw_rng (o := o) (by omega)
    refine ⟨_, hb.cell 1, (c176 (by omega) (by omega)).mono ?_⟩
    rintro _ w1 ⟨rfl, rfl⟩
    refine ⟨_, rfl, _, hb.cell 0, join_and_ex _ (hb.cell 0) ?_⟩
    refine JoinW.cut1 (fun (b : Bool) w' => b = ((decide (a ≥ 0) && decide (a < T)) && decide (a % pw o = 0)) ∧ w' = w1) ?_ ?_
    · refine BIf.of (fun h2 => ⟨_, hb.cell 0, by omega, ?_, rfl⟩) (fun h2 => ⟨by rw [h2]; rfl, rfl⟩)
      rw [h2]
      simp only [Bool.and_eq_true, decide_eq_true_eq] at h2
      rw [Int.tmod_eq_emod_of_nonneg h2.1]
      rfl
    rintro (b : Bool) w1 ⟨rfl, rfl⟩
    refine join_and_ex _ (hb.cell 0) ⟨?_, e⟩
    congr 1
    apply Bool.eq_iff_iff.2
    unfold blkOk
    simp only [Bool.and_eq_true, decide_eq_true_eq]
    constructor
    · rintro ⟨⟨⟨h1, h2⟩, h3⟩, h4⟩
      rw [w64 (by omega) (by omega)] at h4
      exact ⟨by omega, by omega, by omega, by omega, h3, h4⟩
    · rintro ⟨h1, h2, h3, h4, h5, h6⟩
      exact ⟨⟨⟨by omega, by omega⟩, h5⟩, by rw [w64 (by omega) (by omega)]; omega⟩
theorem c84 {T a o : Int} {w : World} (hT : T ≤ 1099511627776) : CallW Try.prog 84 #[.int .i64 T, .agg #[.int .i64 a, .int .i64 o]] w (fun v w' => v = .bool (blkOk T a o) ∧ Ext w w') := by
  refine go84 ?_
  unfold W84
  refine alloc_step (fun w1 e hb n1 => ?_)
  refine ⟨_, hb.cell 1, join_or_ex _ (hb.cell 1) (join_or_ex _ (hb.cell 0) (join_or_ex _ (hb.cell 0) ?_))⟩
  refine BIf.of (fun h => ⟨?_, e⟩) (fun h => ?_)
  · simp only [Bool.or_eq_true, decide_eq_true_eq] at h
    unfold blkOk
    rw [decide_eq_false (by omega)]
  · simp only [Bool.or_eq_false_iff, decide_eq_false_iff_not] at h
    have hp := pw_rng (o := o) (by omega)
    refine ⟨_, hb.cell 1, by omega, _, hb.cell 0, ?_⟩
    rw [shl_pw (by omega) (by omega)]
    refine ⟨by omega, join_and_ex _ (hb.cell 0) ⟨?_, e⟩⟩
    congr 1
    apply Bool.eq_iff_iff.2
    rw [Int.tmod_eq_emod_of_nonneg (by omega), w64 (by omega) (by omega)]
    unfold blkOk
    simp only [Bool.and_eq_true, decide_eq_true_eq, beq_iff_eq]
    constructor
    · rintro ⟨h3, h4⟩
      exact ⟨by omega, by omega, by omega, by omega, h3, h4⟩
    · rintro ⟨h1, h2, h3, h4, h5, h6⟩
      exact ⟨h5, h6⟩
/-! ## Frames that can be -/
def BlkAfter (c b : DBlock) : Prop := c.At + pw c.Order ≤ b.At ∧ ¬ (c.Order = b.Order ∧ b.Order < 10 ∧ c.At + pw c.Order = b.At ∧ c.At % (2 * pw b.Order) = 0)
def BlkP (T : Int) (fr : List DBlock) (i : Nat) (b : DBlock) : Prop := blkOk T b.At b.Order = true ∧ ∀ c, 0 < i → fr[i - 1]? = some c → BlkAfter c b
def FOk (T : Int) (fr : List DBlock) : Prop := 0 ≤ T ∧ T ≤ 1024 ∧ ∀ i b, fr[i]? = some b → BlkP T fr i b
def KB (P : Prop) (w : World) (v : Value) (w' : World) : Prop := ∃ b, v = .bool b ∧ (b = true ↔ P) ∧ Ext w w'
def EndAt (fr : List DBlock) (k : Nat) (e : Int) : Prop := (k = 0 ∧ e = 0) ∨ ∃ c, 0 < k ∧ fr[k - 1]? = some c ∧ e = c.At + pw c.Order
theorem blkOk_out {T a o : Int} (h : blkOk T a o = true) : 0 ≤ o ∧ o ≤ 10 ∧ 0 ≤ a ∧ a < T ∧ a % pw o = 0 ∧ a + pw o ≤ T := of_decide_eq_true h
theorem blk_put2 {w : World} {b : Nat} {x : DBlock} {k : World → Prop} (hb : Blk w b [.int .i64 0, .int .i64 0]) (h : ∀ w2, Only (fun j => j = b) w w2 → Blk w2 b [.int .i64 x.At, .int .i64 x.Order] → w2.heap.size = w.heap.size → k w2) :
    MayN w ⟨b, 0, none⟩ 2 ∧ LetW (Den.puts w ⟨b, 0, none⟩ 0 [.int .i64 x.At, .int .i64 x.Order]) k := put_step hb rfl rfl h
theorem c160 {l : Sl} {T : Int} {fr : List DBlock} {w : World} (h : FrAt w l fr) : CallW Try.prog 160 #[.agg #[.int .i64 T, .slice l.a l.len l.cap]] w (KB (FOk T fr) w) := by
  refine go160 ?_
  unfold W160
  refine alloc_step (fun w1 e hb n1 => ?_)
  have h1 := h.ext e
  have hl := h.len
  have hfew := h.few
  refine ⟨_, hb.cell 0, join_or_ex _ (hb.cell 0) ?_⟩
  refine BIf.of (fun hbad => ⟨false, rfl, ⟨(fun h => nomatch h), fun hf => ?_⟩, e⟩) (fun hgood => ?_)
  · simp only [Bool.or_eq_true, decide_eq_true_eq] at hbad
    have := hf.1; have := hf.2.1; omega
  simp only [Bool.or_eq_false_iff, decide_eq_false_iff_not] at hgood
  refine LoopW.m2 (fun (en i : Int) w' => ∃ k : Nat, i = k ∧ k ≤ fr.length ∧ (∀ j b, j < k → fr[j]? = some b → BlkP T fr j b) ∧ EndAt fr k en ∧ Ext w1 w') (fun _ (i : Int) _ => ((fr.length : Int) - i).toNat) ⟨0, rfl, by omega, fun j b hj => absurd hj (Nat.not_lt_zero _), .inl ⟨rfl, rfl⟩, Only.refl _ _⟩ ?_
  rintro (en : Int) (i : Int) w2 ⟨k, rfl, hk, hall, hend, e2⟩ J hJ
  have hb2 := hb.ext e2
  have h2 := h1.ext e2
  have z2 := e2.size
  refine ⟨l, hb2.cell 1, ?_⟩
  rw [hl]
  refine BIf.dec (fun hlt => ?_) (fun hge => ?_)
  · obtain ⟨x, hx⟩ : ∃ x, fr[k]? = some x := ⟨_, List.getElem?_eq_getElem (by omega)⟩
    obtain ⟨p, hp, hc0, hc1⟩ := h2.get hx
    have no : ∀ w', Ext w1 w' → ¬ BlkP T fr k x → KB (FOk T fr) w (.bool false) w' := fun w' e' hn => ⟨false, rfl, ⟨(fun h => nomatch h), fun hf => absurd (hf.2.2 k x hx) hn⟩, Only.trans e e'⟩
    refine ⟨l, hb2.cell 1, by omega, by omega, p, hp, _, hc0, _, hc1, alloc_step (fun w3 e3 hz n3 => blk_put2 hz (fun w4 o4 hz n4 => ?_))⟩
    have e24 : Ext w2 w4 := Ext.own e3 o4 (fun k hk => by omega)
    have hb4 := hb2.ext e24
    refine ⟨_, hb4.cell 0, _, hz.cell 0, _, hz.cell 1, (c145 (by omega)).mono ?_⟩
    rintro _ w5 ⟨rfl, e5⟩
    have hz5 := hz.ext e5
    have e25 := Only.trans e24 e5
    refine ⟨_, rfl, join_or_ex _ (hz5.cell 0) ?_⟩
    refine BIf.of (fun hbad => no _ (Only.trans e2 e25) (fun hP => ?_)) (fun hok => ?_)
    · simp only [Bool.or_eq_true, Bool.not_eq_true', decide_eq_true_eq] at hbad
      rcases hbad with hbad | hbad
      · rw [hP.1] at hbad; cases hbad
      · rcases hend with ⟨_, rfl⟩ | ⟨c, hk0, hc, rfl⟩
        · have := (blkOk_out hP.1).2.2.1; omega
        · have := (hP.2 c hk0 hc).1; omega
    simp only [Bool.or_eq_false_iff, Bool.not_eq_false', decide_eq_false_iff_not] at hok
    obtain ⟨hok, hend2⟩ := hok
    have hbo := blkOk_out hok
    have hpw := pw_rng (o := x.Order) (by omega)
    refine ⟨_, hz5.cell 1, (c176 hbo.1 (by omega)).mono ?_⟩
    rintro _ w5 ⟨rfl, rfl⟩
    refine ⟨_, rfl, ?_⟩
    refine JoinW.cut1 (fun (b : Bool) w' => (b = true ↔ ∃ c, 0 < k ∧ fr[k - 1]? = some c ∧ c.Order = x.Order ∧ x.Order < 10 ∧ en = x.At ∧ c.At % (2 * pw x.Order) = 0) ∧ Ext w5 w') ?_ ?_
    · refine BIf.dec (fun hk0 => ?_) (fun hk0 => ⟨⟨(fun h => nomatch h), fun ⟨c, h, _⟩ => by omega⟩, ext_drew w5⟩)
      have ed := ext_drew w5
      generalize w5.drew = w6 at *
      have hb6 := (hb4.ext e5).ext ed
      have hz6 := hz5.ext ed
      obtain ⟨c, hc⟩ : ∃ c, fr[k - 1]? = some c := ⟨_, List.getElem?_eq_getElem (by omega)⟩
      have hidx : IntKind.i64.wrap ((k : Int) - 1) = ((k - 1 : Nat) : Int) := by rw [w64 (by omega) (by omega)]; omega
      rw [hidx, Int.toNat_natCast]
      obtain ⟨q, hq, hd0, hd1⟩ := (h2.ext (Only.trans e25 ed)).get hc
      have uq : ∀ c', fr[k - 1]? = some c' → c' = c := fun c' h => by rw [hc] at h; injection h with h; exact h.symm
      refine ⟨l, hb6.cell 1, by omega, by omega, q, hq, _, hd1, _, hz6.cell 1, ?_⟩
      refine BIf.eq (fun h3 => ⟨_, hz6.cell 1, BIf.dec (fun h4 => ⟨_, hz6.cell 0, BIf.eq (fun h5 => ?_) (fun h5 => ?_)⟩) (fun h4 => ?_)⟩) (fun h3 => ?_)
      · refine ⟨l, hb6.cell 1, by omega, by omega, q, hq, _, hd0, ?_⟩
        have hcP := (hall (k - 1) c (by omega) hc).1
        have hcb := blkOk_out hcP
        rw [w64 (by omega) (by omega)]
        refine ⟨by omega, ⟨?_, ed⟩⟩
        rw [Int.tmod_eq_emod_of_nonneg hcb.2.2.1, beq_iff_eq]
        exact ⟨fun h6 => ⟨c, by omega, hc, h3, h4, h5.symm, h6⟩, fun ⟨c', _, hc', _, _, _, h6⟩ => by rw [uq c' hc'] at h6; exact h6⟩
      · exact ⟨⟨(fun h => nomatch h), fun ⟨c', _, hc', _, _, h6, _⟩ => absurd h6.symm h5⟩, ed⟩
      · exact ⟨⟨(fun h => nomatch h), fun ⟨c', _, hc', _, h6, _, _⟩ => absurd h6 h4⟩, ed⟩
      · exact ⟨⟨(fun h => nomatch h), fun ⟨c', _, hc', h6, _, _, _⟩ => absurd (by rw [← uq c' hc']; exact h6) h3⟩, ed⟩
    rintro (b : Bool) w6 ⟨hiff, e6⟩
    have e26 := Only.trans e25 e6
    refine BIf.of (fun hbt => no _ (Only.trans e2 e26) (fun hP => ?_)) (fun hbf => ?_)
    · obtain ⟨c, hk0, hc, g1, g2, g3, g4⟩ := hiff.1 hbt
      rcases hend with ⟨hz, _⟩ | ⟨c', _, hc', rfl⟩
      · omega
      · rw [hc] at hc'; injection hc' with hc'; subst hc'
        exact (hP.2 c hk0 hc).2 ⟨g1, g2, g3, g4⟩
    · have hP : BlkP T fr k x := by
        refine ⟨hok, fun c hk0 hc => ?_⟩
        rcases hend with ⟨hz, _⟩ | ⟨c', _, hc', rfl⟩
        · omega
        · rw [hc] at hc'; injection hc' with hc'; subst hc'
          refine ⟨by omega, fun ⟨g1, g2, g3, g4⟩ => ?_⟩
          rw [hiff.2 ⟨c, hk0, hc, g1, g2, g3, g4⟩] at hbf; cases hbf
      refine ⟨_, (hz5.ext e6).cell 0, ?_⟩
      rw [w64 (by omega) (by omega), w64 (by omega) (by omega)]
      refine hJ _ _ _ ⟨k + 1, by omega, by omega, fun j b hj hb => ?_, .inr ⟨x, by omega, hx, rfl⟩, Only.trans e2 e26⟩ (by omega)
      by_cases hjk : j = k
      · subst hjk; rw [hx] at hb; cases hb; exact hP
      · exact hall j b (by omega) hb
  · exact ⟨true, rfl, ⟨fun _ => ⟨by omega, by omega, fun j b hb => hall j b (by have := (List.getElem?_eq_some_iff.1 hb).1; omega) hb⟩, fun _ => rfl⟩, Only.trans e e2⟩
theorem c134 {l : Sl} {T : Int} {fr : List DBlock} {w : World} (h : FrAt w l fr) : CallW Try.prog 134 #[.agg #[.int .i64 T, .slice l.a l.len l.cap]] w (KB (FOk T fr) w) := by
  refine go134 ?_
  unfold W134
  refine alloc_step (fun w1 e hb n1 => ?_)
  have h1 := h.ext e
  have hl := h.len
  have hfew := h.few
  refine ⟨_, hb.cell 0, join_or_ex _ (hb.cell 0) ?_⟩
  refine BIf.of (fun hbad => ⟨false, rfl, ⟨(fun h => nomatch h), fun hf => ?_⟩, e⟩) (fun hgood => ?_)
  · simp only [Bool.or_eq_true, decide_eq_true_eq] at hbad
    have := hf.1; have := hf.2.1; omega
  simp only [Bool.or_eq_false_iff, decide_eq_false_iff_not] at hgood
  refine ⟨l, hb.cell 1, ?_⟩
  rw [hl]
  refine LoopW.m2 (fun (en i : Int) w' => ∃ k : Nat, i = k ∧ k ≤ fr.length ∧ (∀ j b, j < k → fr[j]? = some b → BlkP T fr j b) ∧ EndAt fr k en ∧ Ext w1 w') (fun _ (i : Int) _ => ((fr.length : Int) - i).toNat) ⟨0, rfl, by omega, fun j b hj => absurd hj (Nat.not_lt_zero _), .inl ⟨rfl, rfl⟩, Only.refl _ _⟩ ?_
  rintro (en : Int) (i : Int) w2 ⟨k, rfl, hk, hall, hend, e2⟩ J hJ
  have hb2 := hb.ext e2
  have h2 := h1.ext e2
  have z2 := e2.size
  refine BIf.dec (fun hlt => ?_) (fun hge => ?_)
  · obtain ⟨x, hx⟩ : ∃ x, fr[k]? = some x := ⟨_, List.getElem?_eq_getElem (by omega)⟩
    obtain ⟨p, hp, hc0, hc1⟩ := h2.get hx
    have no : ∀ w', Ext w1 w' → ¬ BlkP T fr k x → KB (FOk T fr) w (.bool false) w' := fun w' e' hn => ⟨false, rfl, ⟨(fun h => nomatch h), fun hf => absurd (hf.2.2 k x hx) hn⟩, Only.trans e e'⟩
    refine ⟨by omega, by omega, p, hp, _, hc0, _, hc1, alloc_step (fun w3 e3 hz n3 => blk_put2 hz (fun w4 o4 hz n4 => ?_))⟩
    have e24 : Ext w2 w4 := Ext.own e3 o4 (fun k hk => by omega)
    have hb4 := hb2.ext e24
    refine ⟨_, hb4.cell 0, _, hz.cell 0, _, hz.cell 1, (c84 (by omega)).mono ?_⟩
    rintro _ w5 ⟨rfl, e5⟩
    have hz5 := hz.ext e5
    have e25 := Only.trans e24 e5
    refine ⟨_, rfl, join_or_ex _ (hz5.cell 0) ?_⟩
    refine BIf.of (fun hbad => no _ (Only.trans e2 e25) (fun hP => ?_)) (fun hok => ?_)
    · simp only [Bool.or_eq_true, Bool.not_eq_true', decide_eq_true_eq] at hbad
      rcases hbad with hbad | hbad
      · rw [hP.1] at hbad; cases hbad
      · rcases hend with ⟨_, rfl⟩ | ⟨c, hk0, hc, rfl⟩
        · have := (blkOk_out hP.1).2.2.1; omega
        · have := (hP.2 c hk0 hc).1; omega
    simp only [Bool.or_eq_false_iff, Bool.not_eq_false', decide_eq_false_iff_not] at hok
    obtain ⟨hok, hend2⟩ := hok
    have hbo := blkOk_out hok
    have hpw := pw_rng (o := x.Order) (by omega)
    have z25 := e25.size
    refine ⟨_, hz5.cell 1, by omega, _, hz5.cell 0, ?_⟩
    rw [shl_pw hbo.1 (by omega)]
    have done : ∀ w', Ext w1 w' → (∀ c, 0 < k → fr[k - 1]? = some c → ¬ (c.Order = x.Order ∧ x.Order < 10 ∧ c.At = x.At - pw x.Order ∧ c.At % (2 * pw x.Order) = 0)) → (J : Int → Int → World → Prop) (IntKind.wrap .i64 (x.At + pw x.Order)) (IntKind.wrap .i64 ((k : Int) + 1)) w' := by
      intro w' e' hno
      have hP : BlkP T fr k x := by
        refine ⟨hok, fun c hk0 hc => ?_⟩
        rcases hend with ⟨hz, _⟩ | ⟨c', _, hc', rfl⟩
        · omega
        · rw [hc] at hc'; injection hc' with hc'; subst hc'
          refine ⟨by omega, fun ⟨g1, g2, g3, g4⟩ => hno c hk0 hc ⟨g1, g2, by rw [g1] at g3; omega, g4⟩⟩
      rw [w64 (by omega) (by omega), w64 (by omega) (by omega)]
      refine hJ _ _ _ ⟨k + 1, by omega, by omega, fun j b hj hb => ?_, .inr ⟨x, by omega, hx, rfl⟩, e'⟩ (by omega)
      by_cases hjk : j = k
      · subst hjk; rw [hx] at hb; cases hb; exact hP
      · exact hall j b (by omega) hb
    refine BIf.dec (fun hk0 => ?_) (fun hk0 => done _ (Only.trans e2 e25) (fun c h => by omega))
    obtain ⟨c, hc⟩ : ∃ c, fr[k - 1]? = some c := ⟨_, List.getElem?_eq_getElem (by omega)⟩
    have hidx : IntKind.i64.wrap ((k : Int) - 1) = ((k - 1 : Nat) : Int) := by rw [w64 (by omega) (by omega)]; omega
    obtain ⟨q, hq, hd0, hd1⟩ := (h2.ext e25).get hc
    have uq : ∀ c', fr[k - 1]? = some c' → c' = c := fun c' h => by rw [hc] at h; injection h with h; exact h.symm
    refine ⟨l, (hb4.ext e5).cell 1, ?_⟩
    rw [hidx, Int.toNat_natCast]
    refine ⟨by omega, by omega, q, hq, _, hd0, _, hd1, alloc_step (fun w6 e6 hy n6 => blk_put2 hy (fun w7 o7 hy n7 => ?_))⟩
    have e57 : Ext w5 w7 := Ext.own e6 o7 (fun k hk => by omega)
    have hz7 := hz5.ext e57
    have e27 := Only.trans e25 e57
    refine ⟨_, hy.cell 1, _, hz7.cell 1, join_and_ex _ (hz7.cell 1) ?_⟩
    refine JoinW.cut1 (fun (b : Bool) w' => b = ((c.Order == x.Order && decide (x.Order < 10)) && decide (c.At = x.At - pw x.Order)) ∧ w' = w7) ?_ ?_
    · refine BIf.of (fun h3 => ⟨_, hy.cell 0, _, hz7.cell 0, ?_, rfl⟩) (fun h3 => ⟨by rw [h3]; rfl, rfl⟩)
      rw [h3, w64 (by omega) (by omega)]
      rfl
    rintro (b : Bool) w7 ⟨rfl, rfl⟩
    have hcP := (hall (k - 1) c (by omega) hc).1
    have hcb := blkOk_out hcP
    refine JoinW.cut1 (fun (b : Bool) w' => b = (((c.Order == x.Order && decide (x.Order < 10)) && decide (c.At = x.At - pw x.Order)) && decide (c.At % (2 * pw x.Order) = 0)) ∧ w' = w7) ?_ ?_
    · refine BIf.of (fun h3 => ⟨_, hy.cell 0, ?_⟩) (fun h3 => ⟨by rw [h3]; rfl, rfl⟩)
      rw [w64 (by omega) (by omega), h3, Int.tmod_eq_emod_of_nonneg hcb.2.2.1]
      exact ⟨by omega, rfl, rfl⟩
    rintro (b : Bool) w7 ⟨rfl, rfl⟩
    refine BIf.of (fun hbt => no _ (Only.trans e2 e27) (fun hP => ?_)) (fun hbf => done _ (Only.trans e2 e27) (fun c' h0 hc' => ?_))
    · simp only [Bool.and_eq_true, decide_eq_true_eq, beq_iff_eq] at hbt
      obtain ⟨⟨⟨g1, g2⟩, g3⟩, g4⟩ := hbt
      exact (hP.2 c (by omega) hc).2 ⟨g1, g2, by rw [g1]; omega, g4⟩
    · rw [uq c' hc']
      rintro ⟨g1, g2, g3, g4⟩
      rw [g1, decide_eq_true g2, decide_eq_true g3, decide_eq_true g4] at hbf
      simp at hbf
  · exact ⟨true, rfl, ⟨fun _ => ⟨by omega, by omega, fun j b hb => hall j b (by have := (List.getElem?_eq_some_iff.1 hb).1; omega) hb⟩, fun _ => rfl⟩, Only.trans e e2⟩
end Go.Proofs.Ytkgoanjemhbjgaa
