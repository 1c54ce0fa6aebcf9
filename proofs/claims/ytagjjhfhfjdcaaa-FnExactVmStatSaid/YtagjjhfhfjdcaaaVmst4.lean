/- Part 4 of 5: plain readings of code, rules for them, and a proof over them, joined by a program. Conditions: none. -/
import Derived.Test.YtagjjhfhfjdcaaaVmst3
import Derived.ChangeKeysEq
/- The law's own functions over trees: copies, sizes, comparisons, marks; printed by a program. Conditions: none. -/
set_option linter.unusedVariables false
set_option linter.unusedSimpArgs false
set_option maxRecDepth 4000
namespace Go.Proofs.Ytagjjhfhfjdcaaa
open Go Go.Den

theorem has_VPage {d : Dat} (h : Has TyVPage d) : ∃ x_0 : Int, ∃ x_1 : Int, ∃ x_2 : Int, ∃ x_3 : Bool, ∃ l_4 : List Dat, d = .st [.int .i64 x_0, .int .i64 x_1, .int .i64 x_2, .bool x_3, .sl 1 l_4] ∧ (∀ e, e ∈ l_4 → Has (.int .u8) e) := by
  obtain ⟨_, rfl, g⟩ := has_st h
  obtain ⟨_, _, rfl, h_0, g⟩ := hasF_cons g
  obtain ⟨_, _, rfl, h_1, g⟩ := hasF_cons g
  obtain ⟨_, _, rfl, h_2, g⟩ := hasF_cons g
  obtain ⟨_, _, rfl, h_3, g⟩ := hasF_cons g
  obtain ⟨_, _, rfl, h_4, g⟩ := hasF_cons g
  obtain rfl := hasF_nil g
  obtain ⟨x_0, rfl⟩ := has_int h_0
  obtain ⟨x_1, rfl⟩ := has_int h_1
  obtain ⟨x_2, rfl⟩ := has_int h_2
  obtain ⟨x_3, rfl⟩ := has_bool h_3
  obtain ⟨l_4, rfl, t_4⟩ := has_sl h_4
  exact ⟨x_0, x_1, x_2, x_3, l_4, rfl, t_4⟩
theorem cells_VPage {w : World} {x_0 : Int} {x_1 : Int} {x_2 : Int} {x_3 : Bool} {l_4 : List Dat} {cs : List Value} (h : IsD w (.st [.int .i64 x_0, .int .i64 x_1, .int .i64 x_2, .bool x_3, .sl 1 l_4]) cs) : ∃ s_4 : Sl, cs = [.int .i64 x_0, .int .i64 x_1, .int .i64 x_2, .bool x_3, .slice s_4.a s_4.len s_4.cap] ∧ ((Lit.int .i64 x_0).wf = true) ∧ ((Lit.int .i64 x_1).wf = true) ∧ ((Lit.int .i64 x_2).wf = true) ∧ (IsD w (.sl 1 l_4) [.slice s_4.a s_4.len s_4.cap]) := by
  have q := isD_st h
  obtain ⟨_, _, rfl, i_0, q⟩ := isF_cons q
  obtain ⟨_, _, rfl, i_1, q⟩ := isF_cons q
  obtain ⟨_, _, rfl, i_2, q⟩ := isF_cons q
  obtain ⟨_, _, rfl, i_3, q⟩ := isF_cons q
  obtain ⟨_, _, rfl, i_4, q⟩ := isF_cons q
  obtain rfl := isF_nil q
  obtain ⟨rfl, ws_0⟩ := isD_int i_0
  obtain ⟨rfl, ws_1⟩ := isD_int i_1
  obtain ⟨rfl, ws_2⟩ := isD_int i_2
  obtain rfl := isD_bool i_3
  obtain ⟨s_4, rfl⟩ := isD_sl_s i_4
  have is_4 := i_4
  exact ⟨s_4, rfl, ws_0, ws_1, ws_2, is_4⟩
theorem has_Region {d : Dat} (h : Has TyRegion d) : ∃ x_0 : Int, ∃ x_1 : Int, ∃ x_2 : Int, ∃ x_3 : Int, ∃ l_4 : List Dat, ∃ l_5 : List Dat, d = .st [.int .i64 x_0, .int .i64 x_1, .int .i64 x_2, .int .i64 x_3, .sl 1 l_4, .sl 1 l_5] ∧ (∀ e, e ∈ l_4 → Has (.int .u8) e) ∧ (∀ e, e ∈ l_5 → Has (.int .i64) e) := by
  obtain ⟨_, rfl, g⟩ := has_st h
  obtain ⟨_, _, rfl, h_0, g⟩ := hasF_cons g
  obtain ⟨_, _, rfl, h_1, g⟩ := hasF_cons g
  obtain ⟨_, _, rfl, h_2, g⟩ := hasF_cons g
  obtain ⟨_, _, rfl, h_3, g⟩ := hasF_cons g
  obtain ⟨_, _, rfl, h_4, g⟩ := hasF_cons g
  obtain ⟨_, _, rfl, h_5, g⟩ := hasF_cons g
  obtain rfl := hasF_nil g
  obtain ⟨x_0, rfl⟩ := has_int h_0
  obtain ⟨x_1, rfl⟩ := has_int h_1
  obtain ⟨x_2, rfl⟩ := has_int h_2
  obtain ⟨x_3, rfl⟩ := has_int h_3
  obtain ⟨l_4, rfl, t_4⟩ := has_sl h_4
  obtain ⟨l_5, rfl, t_5⟩ := has_sl h_5
  exact ⟨x_0, x_1, x_2, x_3, l_4, l_5, rfl, t_4, t_5⟩
theorem cells_Region {w : World} {x_0 : Int} {x_1 : Int} {x_2 : Int} {x_3 : Int} {l_4 : List Dat} {l_5 : List Dat} {cs : List Value} (h : IsD w (.st [.int .i64 x_0, .int .i64 x_1, .int .i64 x_2, .int .i64 x_3, .sl 1 l_4, .sl 1 l_5]) cs) : ∃ s_4 : Sl, ∃ s_5 : Sl, cs = [.int .i64 x_0, .int .i64 x_1, .int .i64 x_2, .int .i64 x_3, .slice s_4.a s_4.len s_4.cap, .slice s_5.a s_5.len s_5.cap] ∧ ((Lit.int .i64 x_0).wf = true) ∧ ((Lit.int .i64 x_1).wf = true) ∧ ((Lit.int .i64 x_2).wf = true) ∧ ((Lit.int .i64 x_3).wf = true) ∧ (IsD w (.sl 1 l_4) [.slice s_4.a s_4.len s_4.cap]) ∧ (IsD w (.sl 1 l_5) [.slice s_5.a s_5.len s_5.cap]) := by
  have q := isD_st h
  obtain ⟨_, _, rfl, i_0, q⟩ := isF_cons q
  obtain ⟨_, _, rfl, i_1, q⟩ := isF_cons q
  obtain ⟨_, _, rfl, i_2, q⟩ := isF_cons q
  obtain ⟨_, _, rfl, i_3, q⟩ := isF_cons q
  obtain ⟨_, _, rfl, i_4, q⟩ := isF_cons q
  obtain ⟨_, _, rfl, i_5, q⟩ := isF_cons q
  obtain rfl := isF_nil q
  obtain ⟨rfl, ws_0⟩ := isD_int i_0
  obtain ⟨rfl, ws_1⟩ := isD_int i_1
  obtain ⟨rfl, ws_2⟩ := isD_int i_2
  obtain ⟨rfl, ws_3⟩ := isD_int i_3
  obtain ⟨s_4, rfl⟩ := isD_sl_s i_4
  have is_4 := i_4
  obtain ⟨s_5, rfl⟩ := isD_sl_s i_5
  have is_5 := i_5
  exact ⟨s_4, s_5, rfl, ws_0, ws_1, ws_2, ws_3, is_4, is_5⟩
theorem has_Space {d : Dat} (h : Has TySpace d) : ∃ x_0 : Int, ∃ l_1 : List Dat, d = .st [.int .i64 x_0, .sl 6 l_1] ∧ (∀ e, e ∈ l_1 → Has TyRegion e) := by
  obtain ⟨_, rfl, g⟩ := has_st h
  obtain ⟨_, _, rfl, h_0, g⟩ := hasF_cons g
  obtain ⟨_, _, rfl, h_1, g⟩ := hasF_cons g
  obtain rfl := hasF_nil g
  obtain ⟨x_0, rfl⟩ := has_int h_0
  obtain ⟨l_1, rfl, t_1⟩ := has_sl h_1
  exact ⟨x_0, l_1, rfl, t_1⟩
theorem cells_Space {w : World} {x_0 : Int} {l_1 : List Dat} {cs : List Value} (h : IsD w (.st [.int .i64 x_0, .sl 6 l_1]) cs) : ∃ s_1 : Sl, cs = [.int .i64 x_0, .slice s_1.a s_1.len s_1.cap] ∧ ((Lit.int .i64 x_0).wf = true) ∧ (IsD w (.sl 6 l_1) [.slice s_1.a s_1.len s_1.cap]) := by
  have q := isD_st h
  obtain ⟨_, _, rfl, i_0, q⟩ := isF_cons q
  obtain ⟨_, _, rfl, i_1, q⟩ := isF_cons q
  obtain rfl := isF_nil q
  obtain ⟨rfl, ws_0⟩ := isD_int i_0
  obtain ⟨s_1, rfl⟩ := isD_sl_s i_1
  have is_1 := i_1
  exact ⟨s_1, rfl, ws_0, is_1⟩
theorem has_Obj {d : Dat} (h : Has TyObj d) : ∃ x_0 : Int, ∃ x_1 : Bool, ∃ l_2 : List Dat, d = .st [.int .i64 x_0, .bool x_1, .sl 1 l_2] ∧ (∀ e, e ∈ l_2 → Has (.int .i64) e) := by
  obtain ⟨_, rfl, g⟩ := has_st h
  obtain ⟨_, _, rfl, h_0, g⟩ := hasF_cons g
  obtain ⟨_, _, rfl, h_1, g⟩ := hasF_cons g
  obtain ⟨_, _, rfl, h_2, g⟩ := hasF_cons g
  obtain rfl := hasF_nil g
  obtain ⟨x_0, rfl⟩ := has_int h_0
  obtain ⟨x_1, rfl⟩ := has_bool h_1
  obtain ⟨l_2, rfl, t_2⟩ := has_sl h_2
  exact ⟨x_0, x_1, l_2, rfl, t_2⟩
theorem cells_Obj {w : World} {x_0 : Int} {x_1 : Bool} {l_2 : List Dat} {cs : List Value} (h : IsD w (.st [.int .i64 x_0, .bool x_1, .sl 1 l_2]) cs) : ∃ s_2 : Sl, cs = [.int .i64 x_0, .bool x_1, .slice s_2.a s_2.len s_2.cap] ∧ ((Lit.int .i64 x_0).wf = true) ∧ (IsD w (.sl 1 l_2) [.slice s_2.a s_2.len s_2.cap]) := by
  have q := isD_st h
  obtain ⟨_, _, rfl, i_0, q⟩ := isF_cons q
  obtain ⟨_, _, rfl, i_1, q⟩ := isF_cons q
  obtain ⟨_, _, rfl, i_2, q⟩ := isF_cons q
  obtain rfl := isF_nil q
  obtain ⟨rfl, ws_0⟩ := isD_int i_0
  obtain rfl := isD_bool i_1
  obtain ⟨s_2, rfl⟩ := isD_sl_s i_2
  have is_2 := i_2
  exact ⟨s_2, rfl, ws_0, is_2⟩
theorem has_Vm {d : Dat} (h : Has TyVm d) : ∃ x_0 : Int, ∃ x_1 : Int, ∃ x_2 : Int, ∃ x_3 : Int, ∃ x_4 : Int, ∃ x_5 : Int, ∃ x_6 : Int, ∃ l_7 : List Dat, ∃ l_8 : List Dat, ∃ l_9 : List Dat, d = .st [.int .i64 x_0, .int .i64 x_1, .int .i64 x_2, .int .i64 x_3, .int .i64 x_4, .int .i64 x_5, .int .i64 x_6, .sl 5 l_7, .sl 2 l_8, .sl 3 l_9] ∧ (∀ e, e ∈ l_7 → Has TyVPage e) ∧ (∀ e, e ∈ l_8 → Has TySpace e) ∧ (∀ e, e ∈ l_9 → Has TyObj e) := by
  obtain ⟨_, rfl, g⟩ := has_st h
  obtain ⟨_, _, rfl, h_0, g⟩ := hasF_cons g
  obtain ⟨_, _, rfl, h_1, g⟩ := hasF_cons g
  obtain ⟨_, _, rfl, h_2, g⟩ := hasF_cons g
  obtain ⟨_, _, rfl, h_3, g⟩ := hasF_cons g
  obtain ⟨_, _, rfl, h_4, g⟩ := hasF_cons g
  obtain ⟨_, _, rfl, h_5, g⟩ := hasF_cons g
  obtain ⟨_, _, rfl, h_6, g⟩ := hasF_cons g
  obtain ⟨_, _, rfl, h_7, g⟩ := hasF_cons g
  obtain ⟨_, _, rfl, h_8, g⟩ := hasF_cons g
  obtain ⟨_, _, rfl, h_9, g⟩ := hasF_cons g
  obtain rfl := hasF_nil g
  obtain ⟨x_0, rfl⟩ := has_int h_0
  obtain ⟨x_1, rfl⟩ := has_int h_1
  obtain ⟨x_2, rfl⟩ := has_int h_2
  obtain ⟨x_3, rfl⟩ := has_int h_3
  obtain ⟨x_4, rfl⟩ := has_int h_4
  obtain ⟨x_5, rfl⟩ := has_int h_5
  obtain ⟨x_6, rfl⟩ := has_int h_6
  obtain ⟨l_7, rfl, t_7⟩ := has_sl h_7
  obtain ⟨l_8, rfl, t_8⟩ := has_sl h_8
  obtain ⟨l_9, rfl, t_9⟩ := has_sl h_9
  exact ⟨x_0, x_1, x_2, x_3, x_4, x_5, x_6, l_7, l_8, l_9, rfl, t_7, t_8, t_9⟩
theorem cells_Vm {w : World} {x_0 : Int} {x_1 : Int} {x_2 : Int} {x_3 : Int} {x_4 : Int} {x_5 : Int} {x_6 : Int} {l_7 : List Dat} {l_8 : List Dat} {l_9 : List Dat} {cs : List Value} (h : IsD w (.st [.int .i64 x_0, .int .i64 x_1, .int .i64 x_2, .int .i64 x_3, .int .i64 x_4, .int .i64 x_5, .int .i64 x_6, .sl 5 l_7, .sl 2 l_8, .sl 3 l_9]) cs) : ∃ s_7 : Sl, ∃ s_8 : Sl, ∃ s_9 : Sl, cs = [.int .i64 x_0, .int .i64 x_1, .int .i64 x_2, .int .i64 x_3, .int .i64 x_4, .int .i64 x_5, .int .i64 x_6, .slice s_7.a s_7.len s_7.cap, .slice s_8.a s_8.len s_8.cap, .slice s_9.a s_9.len s_9.cap] ∧ ((Lit.int .i64 x_0).wf = true) ∧ ((Lit.int .i64 x_1).wf = true) ∧ ((Lit.int .i64 x_2).wf = true) ∧ ((Lit.int .i64 x_3).wf = true) ∧ ((Lit.int .i64 x_4).wf = true) ∧ ((Lit.int .i64 x_5).wf = true) ∧ ((Lit.int .i64 x_6).wf = true) ∧ (IsD w (.sl 5 l_7) [.slice s_7.a s_7.len s_7.cap]) ∧ (IsD w (.sl 2 l_8) [.slice s_8.a s_8.len s_8.cap]) ∧ (IsD w (.sl 3 l_9) [.slice s_9.a s_9.len s_9.cap]) := by
  have q := isD_st h
  obtain ⟨_, _, rfl, i_0, q⟩ := isF_cons q
  obtain ⟨_, _, rfl, i_1, q⟩ := isF_cons q
  obtain ⟨_, _, rfl, i_2, q⟩ := isF_cons q
  obtain ⟨_, _, rfl, i_3, q⟩ := isF_cons q
  obtain ⟨_, _, rfl, i_4, q⟩ := isF_cons q
  obtain ⟨_, _, rfl, i_5, q⟩ := isF_cons q
  obtain ⟨_, _, rfl, i_6, q⟩ := isF_cons q
  obtain ⟨_, _, rfl, i_7, q⟩ := isF_cons q
  obtain ⟨_, _, rfl, i_8, q⟩ := isF_cons q
  obtain ⟨_, _, rfl, i_9, q⟩ := isF_cons q
  obtain rfl := isF_nil q
  obtain ⟨rfl, ws_0⟩ := isD_int i_0
  obtain ⟨rfl, ws_1⟩ := isD_int i_1
  obtain ⟨rfl, ws_2⟩ := isD_int i_2
  obtain ⟨rfl, ws_3⟩ := isD_int i_3
  obtain ⟨rfl, ws_4⟩ := isD_int i_4
  obtain ⟨rfl, ws_5⟩ := isD_int i_5
  obtain ⟨rfl, ws_6⟩ := isD_int i_6
  obtain ⟨s_7, rfl⟩ := isD_sl_s i_7
  have is_7 := i_7
  obtain ⟨s_8, rfl⟩ := isD_sl_s i_8
  have is_8 := i_8
  obtain ⟨s_9, rfl⟩ := isD_sl_s i_9
  have is_9 := i_9
  exact ⟨s_7, s_8, s_9, rfl, ws_0, ws_1, ws_2, ws_3, ws_4, ws_5, ws_6, is_7, is_8, is_9⟩
theorem has_VmCount {d : Dat} (h : Has TyVmCount d) : ∃ x_0 : Int, ∃ x_1 : Int, ∃ x_2 : Int, ∃ x_3 : Int, d = .st [.int .i64 x_0, .int .i64 x_1, .int .i64 x_2, .int .i64 x_3] := by
  obtain ⟨_, rfl, g⟩ := has_st h
  obtain ⟨_, _, rfl, h_0, g⟩ := hasF_cons g
  obtain ⟨_, _, rfl, h_1, g⟩ := hasF_cons g
  obtain ⟨_, _, rfl, h_2, g⟩ := hasF_cons g
  obtain ⟨_, _, rfl, h_3, g⟩ := hasF_cons g
  obtain rfl := hasF_nil g
  obtain ⟨x_0, rfl⟩ := has_int h_0
  obtain ⟨x_1, rfl⟩ := has_int h_1
  obtain ⟨x_2, rfl⟩ := has_int h_2
  obtain ⟨x_3, rfl⟩ := has_int h_3
  exact ⟨x_0, x_1, x_2, x_3, rfl⟩
theorem cells_VmCount {w : World} {x_0 : Int} {x_1 : Int} {x_2 : Int} {x_3 : Int} {cs : List Value} (h : IsD w (.st [.int .i64 x_0, .int .i64 x_1, .int .i64 x_2, .int .i64 x_3]) cs) : cs = [.int .i64 x_0, .int .i64 x_1, .int .i64 x_2, .int .i64 x_3] ∧ ((Lit.int .i64 x_0).wf = true) ∧ ((Lit.int .i64 x_1).wf = true) ∧ ((Lit.int .i64 x_2).wf = true) ∧ ((Lit.int .i64 x_3).wf = true) := by
  have q := isD_st h
  obtain ⟨_, _, rfl, i_0, q⟩ := isF_cons q
  obtain ⟨_, _, rfl, i_1, q⟩ := isF_cons q
  obtain ⟨_, _, rfl, i_2, q⟩ := isF_cons q
  obtain ⟨_, _, rfl, i_3, q⟩ := isF_cons q
  obtain rfl := isF_nil q
  obtain ⟨rfl, ws_0⟩ := isD_int i_0
  obtain ⟨rfl, ws_1⟩ := isD_int i_1
  obtain ⟨rfl, ws_2⟩ := isD_int i_2
  obtain ⟨rfl, ws_3⟩ := isD_int i_3
  exact ⟨rfl, ws_0, ws_1, ws_2, ws_3⟩
/- szByteS -/
theorem c49 {l : List Dat} {a0 : Sl} {left : Int} {w : World} (ht : ∀ e, e ∈ l → Has (.int .u8) e) (h : IsD w (.sl 1 l) [.slice a0.a a0.len a0.cap]) (h0 : 0 ≤ left) (hl : left ≤ 4611686018427387904) : CallW Try.prog 49 #[.slice a0.a a0.len a0.cap, .int .i64 left] w (fun v w' => SzPost (Dat.sl 1 l).sz left v ∧ Ext w w') := by
  refine go49 ?_
  unfold W49
  obtain ⟨hlen, hmax, hel⟩ := isD_sl h
  have hmx : maxLen = 9223372036854775807 := rfl
  rw [hlen, w64 (by omega) (by omega)]
  have hz : Dat.szs l = 0 := by
    refine szs_zero (fun d hd => ?_)
    have ht0 := ht d hd
    obtain ⟨x, rfl⟩ := has_int ht0
    rfl
  refine BIf.dec (fun hn => ⟨⟨_, rfl, .inr ⟨by omega, by simp only [Dat.sz]; omega⟩⟩, Only.refl _ _⟩) (fun hp => ⟨⟨_, rfl, .inl ⟨by simp only [Dat.sz]; omega, by omega⟩⟩, Only.refl _ _⟩)

/- szVPage -/
theorem c35 {d : Dat} {cs : List Value} {left : Int} {w : World} (ht : Has TyVPage d) (h : IsD w d cs) (h0 : 0 ≤ left) (hl : left ≤ 4611686018427387904) : CallW Try.prog 35 #[.agg ⟨cs⟩, .int .i64 left] w (fun v w' => SzPost d.sz left v ∧ Ext w w') := by
  obtain ⟨x_0, x_1, x_2, x_3, l_4, rfl, t_4⟩ := has_VPage ht
  obtain ⟨s_4, rfl, ws_0, ws_1, ws_2, is_4⟩ := cells_VPage h
  show CallW Try.prog 35 #[.agg #[.int .i64 x_0, .int .i64 x_1, .int .i64 x_2, .bool x_3, .slice s_4.a s_4.len s_4.cap], .int .i64 left] w _
  refine go35 ?_
  unfold W35
  refine alloc_step (fun w1 e ha n1 => ?_)
  have hmx : maxLen = 9223372036854775807 := rfl
  have hx : (0 : Int) ≤ left ∧ left ≤ left := ⟨h0, Int.le_refl _⟩
  have hd := Int.sub_zero left
  refine ⟨s_4, ha.cell 4, (c49 t_4 (IsD.ext e _ _ is_4) (by omega) (by omega)).mono ?_⟩
  rintro _ w2 ⟨⟨r2, rfl, hr2⟩, e2⟩
  have ha := ha.ext e2
  have e := Only.trans e e2
  refine ⟨r2, rfl, BIf.dec (fun hn => ⟨⟨_, rfl, .inr ⟨by omega, by simp only [Dat.sz, Dat.szs] at *; omega⟩⟩, e⟩) (fun hp2 => ?_)⟩
  exact ⟨⟨_, rfl, .inl ⟨by simp only [Dat.sz, Dat.szs] at *; omega, by omega⟩⟩, e⟩

/- szVPageS -/
theorem c13 {l : List Dat} {a0 : Sl} {left : Int} {w : World} (ht : ∀ e, e ∈ l → Has TyVPage e) (h : IsD w (.sl 5 l) [.slice a0.a a0.len a0.cap]) (h0 : 0 ≤ left) (hl : left ≤ 4611686018427387904) : CallW Try.prog 13 #[.slice a0.a a0.len a0.cap, .int .i64 left] w (fun v w' => SzPost (Dat.sl 5 l).sz left v ∧ Ext w w') := by
  refine go13 ?_
  unfold W13
  obtain ⟨hlen, hmax, hel⟩ := isD_sl h
  have hmx : maxLen = 9223372036854775807 := rfl
  rw [hlen, w64 (by omega) (by omega)]
  refine BIf.dec (fun hn => ⟨⟨_, rfl, .inr ⟨by omega, by simp only [Dat.sz]; omega⟩⟩, Only.refl _ _⟩) (fun hp => ?_)
  refine LoopW.m2 (fun (x i : Int) w' => ∃ k : Nat, i = k ∧ k ≤ l.length ∧ Ext w w' ∧ x = left - l.length - Dat.szs (l.take k) ∧ 0 ≤ x) (fun _ (i : Int) _ => (l.length - i).toNat) ⟨0, rfl, by omega, Only.refl _ _, by simp [Dat.szs], by omega⟩ ?_
  rintro (x : Int) (i : Int) w4 ⟨k, rfl, hk, e4, hx, hx0⟩ J hJ
  refine BIf.dec (fun hlt => ?_) (fun hge => ?_)
  · obtain ⟨d, hd⟩ : ∃ d, l[k]? = some d := ⟨_, List.getElem?_eq_getElem (by omega)⟩
    have hsz := szs_get hd
    have hst := szs_take hd
    obtain ⟨p, es, hp, he, hc, his⟩ := isD_at (IsD.ext e4 _ _ h) hd
    have ht0 := ht d (mem_get hd)
    have ht1 := ht0
    obtain ⟨x_0, x_1, x_2, x_3, l_4, rfl, t_4⟩ := has_VPage ht1
    have his0 := his
    obtain ⟨s_4, rfl, ws_0, ws_1, ws_2, is_4⟩ := cells_VPage his
    refine ⟨by omega, by omega, p, hp, _, hc 0 _ rfl, _, hc 1 _ rfl, _, hc 2 _ rfl, _, hc 3 _ rfl, s_4, hc 4 _ rfl, (c35 (cs := [.int .i64 x_0, .int .i64 x_1, .int .i64 x_2, .bool x_3, .slice s_4.a s_4.len s_4.cap]) ht0 his0 hx0 (by omega)).mono ?_⟩
    rintro _ w9 ⟨⟨r, rfl, hr⟩, e9⟩
    refine ⟨r, rfl, BIf.dec (fun hn => ⟨⟨_, rfl, .inr ⟨by omega, by simp only [Dat.sz] at *; omega⟩⟩, Only.trans e4 e9⟩) (fun hp => ?_)⟩
    rw [w64 (by omega) (by omega)]
    refine hJ _ _ _ ⟨k + 1, by omega, by omega, Only.trans e4 e9, by rw [hst]; omega, by omega⟩ (by omega)
  · rw [List.take_of_length_le (by omega)] at hx
    exact ⟨⟨_, rfl, .inl ⟨by simp only [Dat.sz]; omega, hx0⟩⟩, e4⟩

/- szInt64S -/
theorem c51 {l : List Dat} {a0 : Sl} {left : Int} {w : World} (ht : ∀ e, e ∈ l → Has (.int .i64) e) (h : IsD w (.sl 1 l) [.slice a0.a a0.len a0.cap]) (h0 : 0 ≤ left) (hl : left ≤ 4611686018427387904) : CallW Try.prog 51 #[.slice a0.a a0.len a0.cap, .int .i64 left] w (fun v w' => SzPost (Dat.sl 1 l).sz left v ∧ Ext w w') := by
  refine go51 ?_
  unfold W51
  obtain ⟨hlen, hmax, hel⟩ := isD_sl h
  have hmx : maxLen = 9223372036854775807 := rfl
  rw [hlen, w64 (by omega) (by omega)]
  have hz : Dat.szs l = 0 := by
    refine szs_zero (fun d hd => ?_)
    have ht0 := ht d hd
    obtain ⟨x, rfl⟩ := has_int ht0
    rfl
  refine BIf.dec (fun hn => ⟨⟨_, rfl, .inr ⟨by omega, by simp only [Dat.sz]; omega⟩⟩, Only.refl _ _⟩) (fun hp => ⟨⟨_, rfl, .inl ⟨by simp only [Dat.sz]; omega, by omega⟩⟩, Only.refl _ _⟩)

/- szRegion -/
theorem c59 {d : Dat} {cs : List Value} {left : Int} {w : World} (ht : Has TyRegion d) (h : IsD w d cs) (h0 : 0 ≤ left) (hl : left ≤ 4611686018427387904) : CallW Try.prog 59 #[.agg ⟨cs⟩, .int .i64 left] w (fun v w' => SzPost d.sz left v ∧ Ext w w') := by
  obtain ⟨x_0, x_1, x_2, x_3, l_4, l_5, rfl, t_4, t_5⟩ := has_Region ht
  obtain ⟨s_4, s_5, rfl, ws_0, ws_1, ws_2, ws_3, is_4, is_5⟩ := cells_Region h
  show CallW Try.prog 59 #[.agg #[.int .i64 x_0, .int .i64 x_1, .int .i64 x_2, .int .i64 x_3, .slice s_4.a s_4.len s_4.cap, .slice s_5.a s_5.len s_5.cap], .int .i64 left] w _
  refine go59 ?_
  unfold W59
  refine alloc_step (fun w1 e ha n1 => ?_)
  have hmx : maxLen = 9223372036854775807 := rfl
  have hx : (0 : Int) ≤ left ∧ left ≤ left := ⟨h0, Int.le_refl _⟩
  have hd := Int.sub_zero left
  refine ⟨s_4, ha.cell 4, (c49 t_4 (IsD.ext e _ _ is_4) (by omega) (by omega)).mono ?_⟩
  rintro _ w2 ⟨⟨r2, rfl, hr2⟩, e2⟩
  have ha := ha.ext e2
  have e := Only.trans e e2
  refine ⟨r2, rfl, BIf.dec (fun hn => ⟨⟨_, rfl, .inr ⟨by omega, by simp only [Dat.sz, Dat.szs] at *; omega⟩⟩, e⟩) (fun hp2 => ?_)⟩
  refine ⟨s_5, ha.cell 5, (c51 t_5 (IsD.ext e _ _ is_5) (by omega) (by omega)).mono ?_⟩
  rintro _ w3 ⟨⟨r3, rfl, hr3⟩, e3⟩
  have ha := ha.ext e3
  have e := Only.trans e e3
  refine ⟨r3, rfl, BIf.dec (fun hn => ⟨⟨_, rfl, .inr ⟨by omega, by simp only [Dat.sz, Dat.szs] at *; omega⟩⟩, e⟩) (fun hp3 => ?_)⟩
  exact ⟨⟨_, rfl, .inl ⟨by simp only [Dat.sz, Dat.szs] at *; omega, by omega⟩⟩, e⟩

/- szRegionS -/
theorem c50 {l : List Dat} {a0 : Sl} {left : Int} {w : World} (ht : ∀ e, e ∈ l → Has TyRegion e) (h : IsD w (.sl 6 l) [.slice a0.a a0.len a0.cap]) (h0 : 0 ≤ left) (hl : left ≤ 4611686018427387904) : CallW Try.prog 50 #[.slice a0.a a0.len a0.cap, .int .i64 left] w (fun v w' => SzPost (Dat.sl 6 l).sz left v ∧ Ext w w') := by
  refine go50 ?_
  unfold W50
  obtain ⟨hlen, hmax, hel⟩ := isD_sl h
  have hmx : maxLen = 9223372036854775807 := rfl
  rw [hlen, w64 (by omega) (by omega)]
  refine BIf.dec (fun hn => ⟨⟨_, rfl, .inr ⟨by omega, by simp only [Dat.sz]; omega⟩⟩, Only.refl _ _⟩) (fun hp => ?_)
  refine LoopW.m2 (fun (x i : Int) w' => ∃ k : Nat, i = k ∧ k ≤ l.length ∧ Ext w w' ∧ x = left - l.length - Dat.szs (l.take k) ∧ 0 ≤ x) (fun _ (i : Int) _ => (l.length - i).toNat) ⟨0, rfl, by omega, Only.refl _ _, by simp [Dat.szs], by omega⟩ ?_
  rintro (x : Int) (i : Int) w4 ⟨k, rfl, hk, e4, hx, hx0⟩ J hJ
  refine BIf.dec (fun hlt => ?_) (fun hge => ?_)
  · obtain ⟨d, hd⟩ : ∃ d, l[k]? = some d := ⟨_, List.getElem?_eq_getElem (by omega)⟩
    have hsz := szs_get hd
    have hst := szs_take hd
    obtain ⟨p, es, hp, he, hc, his⟩ := isD_at (IsD.ext e4 _ _ h) hd
    have ht0 := ht d (mem_get hd)
    have ht1 := ht0
    obtain ⟨x_0, x_1, x_2, x_3, l_4, l_5, rfl, t_4, t_5⟩ := has_Region ht1
    have his0 := his
    obtain ⟨s_4, s_5, rfl, ws_0, ws_1, ws_2, ws_3, is_4, is_5⟩ := cells_Region his
    refine ⟨by omega, by omega, p, hp, _, hc 0 _ rfl, _, hc 1 _ rfl, _, hc 2 _ rfl, _, hc 3 _ rfl, s_4, hc 4 _ rfl, s_5, hc 5 _ rfl, (c59 (cs := [.int .i64 x_0, .int .i64 x_1, .int .i64 x_2, .int .i64 x_3, .slice s_4.a s_4.len s_4.cap, .slice s_5.a s_5.len s_5.cap]) ht0 his0 hx0 (by omega)).mono ?_⟩
    rintro _ w9 ⟨⟨r, rfl, hr⟩, e9⟩
    refine ⟨r, rfl, BIf.dec (fun hn => ⟨⟨_, rfl, .inr ⟨by omega, by simp only [Dat.sz] at *; omega⟩⟩, Only.trans e4 e9⟩) (fun hp => ?_)⟩
    rw [w64 (by omega) (by omega)]
    refine hJ _ _ _ ⟨k + 1, by omega, by omega, Only.trans e4 e9, by rw [hst]; omega, by omega⟩ (by omega)
  · rw [List.take_of_length_le (by omega)] at hx
    exact ⟨⟨_, rfl, .inl ⟨by simp only [Dat.sz]; omega, hx0⟩⟩, e4⟩

/- szSpace -/
theorem c36 {d : Dat} {cs : List Value} {left : Int} {w : World} (ht : Has TySpace d) (h : IsD w d cs) (h0 : 0 ≤ left) (hl : left ≤ 4611686018427387904) : CallW Try.prog 36 #[.agg ⟨cs⟩, .int .i64 left] w (fun v w' => SzPost d.sz left v ∧ Ext w w') := by
  obtain ⟨x_0, l_1, rfl, t_1⟩ := has_Space ht
  obtain ⟨s_1, rfl, ws_0, is_1⟩ := cells_Space h
  show CallW Try.prog 36 #[.agg #[.int .i64 x_0, .slice s_1.a s_1.len s_1.cap], .int .i64 left] w _
  refine go36 ?_
  unfold W36
  refine alloc_step (fun w1 e ha n1 => ?_)
  have hmx : maxLen = 9223372036854775807 := rfl
  have hx : (0 : Int) ≤ left ∧ left ≤ left := ⟨h0, Int.le_refl _⟩
  have hd := Int.sub_zero left
  refine ⟨s_1, ha.cell 1, (c50 t_1 (IsD.ext e _ _ is_1) (by omega) (by omega)).mono ?_⟩
  rintro _ w2 ⟨⟨r2, rfl, hr2⟩, e2⟩
  have ha := ha.ext e2
  have e := Only.trans e e2
  refine ⟨r2, rfl, BIf.dec (fun hn => ⟨⟨_, rfl, .inr ⟨by omega, by simp only [Dat.sz, Dat.szs] at *; omega⟩⟩, e⟩) (fun hp2 => ?_)⟩
  exact ⟨⟨_, rfl, .inl ⟨by simp only [Dat.sz, Dat.szs] at *; omega, by omega⟩⟩, e⟩

/- szSpaceS -/
theorem c14 {l : List Dat} {a0 : Sl} {left : Int} {w : World} (ht : ∀ e, e ∈ l → Has TySpace e) (h : IsD w (.sl 2 l) [.slice a0.a a0.len a0.cap]) (h0 : 0 ≤ left) (hl : left ≤ 4611686018427387904) : CallW Try.prog 14 #[.slice a0.a a0.len a0.cap, .int .i64 left] w (fun v w' => SzPost (Dat.sl 2 l).sz left v ∧ Ext w w') := by
  refine go14 ?_
  unfold W14
  obtain ⟨hlen, hmax, hel⟩ := isD_sl h
  have hmx : maxLen = 9223372036854775807 := rfl
  rw [hlen, w64 (by omega) (by omega)]
  refine BIf.dec (fun hn => ⟨⟨_, rfl, .inr ⟨by omega, by simp only [Dat.sz]; omega⟩⟩, Only.refl _ _⟩) (fun hp => ?_)
  refine LoopW.m2 (fun (x i : Int) w' => ∃ k : Nat, i = k ∧ k ≤ l.length ∧ Ext w w' ∧ x = left - l.length - Dat.szs (l.take k) ∧ 0 ≤ x) (fun _ (i : Int) _ => (l.length - i).toNat) ⟨0, rfl, by omega, Only.refl _ _, by simp [Dat.szs], by omega⟩ ?_
  rintro (x : Int) (i : Int) w4 ⟨k, rfl, hk, e4, hx, hx0⟩ J hJ
  refine BIf.dec (fun hlt => ?_) (fun hge => ?_)
  · obtain ⟨d, hd⟩ : ∃ d, l[k]? = some d := ⟨_, List.getElem?_eq_getElem (by omega)⟩
    have hsz := szs_get hd
    have hst := szs_take hd
    obtain ⟨p, es, hp, he, hc, his⟩ := isD_at (IsD.ext e4 _ _ h) hd
    have ht0 := ht d (mem_get hd)
    have ht1 := ht0
    obtain ⟨x_0, l_1, rfl, t_1⟩ := has_Space ht1
    have his0 := his
    obtain ⟨s_1, rfl, ws_0, is_1⟩ := cells_Space his
    refine ⟨by omega, by omega, p, hp, _, hc 0 _ rfl, s_1, hc 1 _ rfl, (c36 (cs := [.int .i64 x_0, .slice s_1.a s_1.len s_1.cap]) ht0 his0 hx0 (by omega)).mono ?_⟩
    rintro _ w9 ⟨⟨r, rfl, hr⟩, e9⟩
    refine ⟨r, rfl, BIf.dec (fun hn => ⟨⟨_, rfl, .inr ⟨by omega, by simp only [Dat.sz] at *; omega⟩⟩, Only.trans e4 e9⟩) (fun hp => ?_)⟩
    rw [w64 (by omega) (by omega)]
    refine hJ _ _ _ ⟨k + 1, by omega, by omega, Only.trans e4 e9, by rw [hst]; omega, by omega⟩ (by omega)
  · rw [List.take_of_length_le (by omega)] at hx
    exact ⟨⟨_, rfl, .inl ⟨by simp only [Dat.sz]; omega, hx0⟩⟩, e4⟩

/- szObj -/
theorem c37 {d : Dat} {cs : List Value} {left : Int} {w : World} (ht : Has TyObj d) (h : IsD w d cs) (h0 : 0 ≤ left) (hl : left ≤ 4611686018427387904) : CallW Try.prog 37 #[.agg ⟨cs⟩, .int .i64 left] w (fun v w' => SzPost d.sz left v ∧ Ext w w') := by
  obtain ⟨x_0, x_1, l_2, rfl, t_2⟩ := has_Obj ht
  obtain ⟨s_2, rfl, ws_0, is_2⟩ := cells_Obj h
  show CallW Try.prog 37 #[.agg #[.int .i64 x_0, .bool x_1, .slice s_2.a s_2.len s_2.cap], .int .i64 left] w _
  refine go37 ?_
  unfold W37
  refine alloc_step (fun w1 e ha n1 => ?_)
  have hmx : maxLen = 9223372036854775807 := rfl
  have hx : (0 : Int) ≤ left ∧ left ≤ left := ⟨h0, Int.le_refl _⟩
  have hd := Int.sub_zero left
  refine ⟨s_2, ha.cell 2, (c51 t_2 (IsD.ext e _ _ is_2) (by omega) (by omega)).mono ?_⟩
  rintro _ w2 ⟨⟨r2, rfl, hr2⟩, e2⟩
  have ha := ha.ext e2
  have e := Only.trans e e2
  refine ⟨r2, rfl, BIf.dec (fun hn => ⟨⟨_, rfl, .inr ⟨by omega, by simp only [Dat.sz, Dat.szs] at *; omega⟩⟩, e⟩) (fun hp2 => ?_)⟩
  exact ⟨⟨_, rfl, .inl ⟨by simp only [Dat.sz, Dat.szs] at *; omega, by omega⟩⟩, e⟩

/- szObjS -/
theorem c15 {l : List Dat} {a0 : Sl} {left : Int} {w : World} (ht : ∀ e, e ∈ l → Has TyObj e) (h : IsD w (.sl 3 l) [.slice a0.a a0.len a0.cap]) (h0 : 0 ≤ left) (hl : left ≤ 4611686018427387904) : CallW Try.prog 15 #[.slice a0.a a0.len a0.cap, .int .i64 left] w (fun v w' => SzPost (Dat.sl 3 l).sz left v ∧ Ext w w') := by
  refine go15 ?_
  unfold W15
  obtain ⟨hlen, hmax, hel⟩ := isD_sl h
  have hmx : maxLen = 9223372036854775807 := rfl
  rw [hlen, w64 (by omega) (by omega)]
  refine BIf.dec (fun hn => ⟨⟨_, rfl, .inr ⟨by omega, by simp only [Dat.sz]; omega⟩⟩, Only.refl _ _⟩) (fun hp => ?_)
  refine LoopW.m2 (fun (x i : Int) w' => ∃ k : Nat, i = k ∧ k ≤ l.length ∧ Ext w w' ∧ x = left - l.length - Dat.szs (l.take k) ∧ 0 ≤ x) (fun _ (i : Int) _ => (l.length - i).toNat) ⟨0, rfl, by omega, Only.refl _ _, by simp [Dat.szs], by omega⟩ ?_
  rintro (x : Int) (i : Int) w4 ⟨k, rfl, hk, e4, hx, hx0⟩ J hJ
  refine BIf.dec (fun hlt => ?_) (fun hge => ?_)
  · obtain ⟨d, hd⟩ : ∃ d, l[k]? = some d := ⟨_, List.getElem?_eq_getElem (by omega)⟩
    have hsz := szs_get hd
    have hst := szs_take hd
    obtain ⟨p, es, hp, he, hc, his⟩ := isD_at (IsD.ext e4 _ _ h) hd
    have ht0 := ht d (mem_get hd)
    have ht1 := ht0
    obtain ⟨x_0, x_1, l_2, rfl, t_2⟩ := has_Obj ht1
    have his0 := his
    obtain ⟨s_2, rfl, ws_0, is_2⟩ := cells_Obj his
    refine ⟨by omega, by omega, p, hp, _, hc 0 _ rfl, _, hc 1 _ rfl, s_2, hc 2 _ rfl, (c37 (cs := [.int .i64 x_0, .bool x_1, .slice s_2.a s_2.len s_2.cap]) ht0 his0 hx0 (by omega)).mono ?_⟩
    rintro _ w9 ⟨⟨r, rfl, hr⟩, e9⟩
    refine ⟨r, rfl, BIf.dec (fun hn => ⟨⟨_, rfl, .inr ⟨by omega, by simp only [Dat.sz] at *; omega⟩⟩, Only.trans e4 e9⟩) (fun hp => ?_)⟩
    rw [w64 (by omega) (by omega)]
    refine hJ _ _ _ ⟨k + 1, by omega, by omega, Only.trans e4 e9, by rw [hst]; omega, by omega⟩ (by omega)
  · rw [List.take_of_length_le (by omega)] at hx
    exact ⟨⟨_, rfl, .inl ⟨by simp only [Dat.sz]; omega, hx0⟩⟩, e4⟩

/- szVm -/
theorem c5 {d : Dat} {cs : List Value} {left : Int} {w : World} (ht : Has TyVm d) (h : IsD w d cs) (h0 : 0 ≤ left) (hl : left ≤ 4611686018427387904) : CallW Try.prog 5 #[.agg ⟨cs⟩, .int .i64 left] w (fun v w' => SzPost d.sz left v ∧ Ext w w') := by
  obtain ⟨x_0, x_1, x_2, x_3, x_4, x_5, x_6, l_7, l_8, l_9, rfl, t_7, t_8, t_9⟩ := has_Vm ht
  obtain ⟨s_7, s_8, s_9, rfl, ws_0, ws_1, ws_2, ws_3, ws_4, ws_5, ws_6, is_7, is_8, is_9⟩ := cells_Vm h
  show CallW Try.prog 5 #[.agg #[.int .i64 x_0, .int .i64 x_1, .int .i64 x_2, .int .i64 x_3, .int .i64 x_4, .int .i64 x_5, .int .i64 x_6, .slice s_7.a s_7.len s_7.cap, .slice s_8.a s_8.len s_8.cap, .slice s_9.a s_9.len s_9.cap], .int .i64 left] w _
  refine go5 ?_
  unfold W5
  refine alloc_step (fun w1 e ha n1 => ?_)
  have hmx : maxLen = 9223372036854775807 := rfl
  have hx : (0 : Int) ≤ left ∧ left ≤ left := ⟨h0, Int.le_refl _⟩
  have hd := Int.sub_zero left
  refine ⟨s_7, ha.cell 7, (c13 t_7 (IsD.ext e _ _ is_7) (by omega) (by omega)).mono ?_⟩
  rintro _ w2 ⟨⟨r2, rfl, hr2⟩, e2⟩
  have ha := ha.ext e2
  have e := Only.trans e e2
  refine ⟨r2, rfl, BIf.dec (fun hn => ⟨⟨_, rfl, .inr ⟨by omega, by simp only [Dat.sz, Dat.szs] at *; omega⟩⟩, e⟩) (fun hp2 => ?_)⟩
  refine ⟨s_8, ha.cell 8, (c14 t_8 (IsD.ext e _ _ is_8) (by omega) (by omega)).mono ?_⟩
  rintro _ w3 ⟨⟨r3, rfl, hr3⟩, e3⟩
  have ha := ha.ext e3
  have e := Only.trans e e3
  refine ⟨r3, rfl, BIf.dec (fun hn => ⟨⟨_, rfl, .inr ⟨by omega, by simp only [Dat.sz, Dat.szs] at *; omega⟩⟩, e⟩) (fun hp3 => ?_)⟩
  refine ⟨s_9, ha.cell 9, (c15 t_9 (IsD.ext e _ _ is_9) (by omega) (by omega)).mono ?_⟩
  rintro _ w4 ⟨⟨r4, rfl, hr4⟩, e4⟩
  have ha := ha.ext e4
  have e := Only.trans e e4
  refine ⟨r4, rfl, BIf.dec (fun hn => ⟨⟨_, rfl, .inr ⟨by omega, by simp only [Dat.sz, Dat.szs] at *; omega⟩⟩, e⟩) (fun hp4 => ?_)⟩
  exact ⟨⟨_, rfl, .inl ⟨by simp only [Dat.sz, Dat.szs] at *; omega, by omega⟩⟩, e⟩

/- toByteS -/
theorem c53 {l : List Dat} {a0 : Sl} {w : World} (ht : ∀ e, e ∈ l → Has (.int .u8) e) (h : IsD w (.sl 1 l) [.slice a0.a a0.len a0.cap]) (hs : (Dat.sl 1 l).sz ≤ 4194304) : CallW Try.prog 53 #[.slice a0.a a0.len a0.cap] w (fun v w' => ∃ s : Sl, v = .slice s.a s.len s.cap ∧ Fr w.heap.size w'.heap.size w' (.sl 1 l) [.slice s.a s.len s.cap] ∧ Ext w w') := by
  refine go53 ?_
  unfold W53
  obtain ⟨hlen, hmax, hel⟩ := isD_sl h
  simp only [Dat.sz] at hs
  rw [hlen]; simp only [Int.toNat_natCast]
  refine ⟨by omega, by omega, by omega, by omega, LetW_iff.2 ?_⟩
  have hs0 := ToInv.start (w := w) (z := 1) (zero := ti5.zero) (e := 5) l rfl
  generalize w.alloc (.cells ⟨zerosOf ti5.zero l.length⟩ 5) = w1 at *
  refine LoopW.m1 (fun (i : Int) w' => ∃ (k : Nat) (bs : List Nat) (vs : List Value), i = k ∧ ToInv w w' w.heap.size 1 l k bs vs) (fun (i : Int) _ => (l.length - i).toNat) ⟨0, [], _, rfl, hs0⟩ ?_
  rintro (i : Int) w4 ⟨k, bs, vs, rfl, hi⟩ J hJ
  refine BIf.dec (fun hlt => ?_) (fun hge => ?_)
  · obtain ⟨d, hd⟩ : ∃ d, l[k]? = some d := ⟨_, List.getElem?_eq_getElem (by omega)⟩
    have hsz := szs_get hd
    obtain ⟨p, es, hp, he, hc, his⟩ := isD_at (IsD.ext hi.ext _ _ h) hd
    have ht0 := ht d (mem_get hd)
    obtain ⟨x, rfl⟩ := has_int ht0
    obtain ⟨rfl, ws⟩ := isD_int his
    obtain ⟨b1, ho, hn, hb⟩ := fr_int (lo := w4.heap.size) (hi := w4.heap.size) (w := w4) ws
    obtain ⟨hm, hi2⟩ := hi.step hd (Only.refl _ _) ho hn (fun c hc => (hb c hc).1) rfl
    rw [puts_one] at hi2
    refine ⟨by omega, by omega, p, hp, _, hc 0 _ rfl, by omega, by omega, _, rfl, mayN_one hm, LetW_iff.2 ?_⟩
    rw [w64 (by omega) (by omega)]
    exact hJ _ _ ⟨k + 1, _, _, by omega, hi2⟩ (by omega)
  · exact ⟨⟨some ⟨w.heap.size, 0, none⟩, l.length, l.length⟩, rfl, (hi.done (by omega) hmax).fr, hi.ext⟩

/- toVPage -/
theorem c42 {d : Dat} {cs : List Value} {w : World} (ht : Has TyVPage d) (h : IsD w d cs) (hs : d.sz ≤ 4194304) : CallW Try.prog 42 #[.agg ⟨cs⟩] w (fun v w' => ∃ cs', v = .agg ⟨cs'⟩ ∧ Fr w.heap.size w'.heap.size w' d cs' ∧ Ext w w') := by
  obtain ⟨x_0, x_1, x_2, x_3, l_4, rfl, t_4⟩ := has_VPage ht
  obtain ⟨s_4, rfl, ws_0, ws_1, ws_2, is_4⟩ := cells_VPage h
  show CallW Try.prog 42 #[.agg #[.int .i64 x_0, .int .i64 x_1, .int .i64 x_2, .bool x_3, .slice s_4.a s_4.len s_4.cap]] w _
  refine go42 ?_
  unfold W42
  refine alloc_step (fun w1 e1 ha n1 => ?_)
  refine alloc_step (fun w2 e2 hc n2 => ?_)
  have ha := ha.ext e2
  refine alloc_step (fun w3 e3 hb n3 => ?_)
  have ha := ha.ext e3
  have hc := hc.ext e3
  have e := Only.trans e1 (Only.trans e2 e3)
  refine ⟨_, ha.cell 0, ?_⟩
  refine set_step hb (by simp) (fun w4 o4 hb n4 => ?_)
  have ha := ha.only o4 (by omega)
  have hc := hc.only o4 (by omega)
  have e := Ext.own e o4 (fun k hk => by omega)
  refine ⟨_, ha.cell 1, ?_⟩
  refine set_step hb (by simp) (fun w5 o5 hb n5 => ?_)
  have ha := ha.only o5 (by omega)
  have hc := hc.only o5 (by omega)
  have e := Ext.own e o5 (fun k hk => by omega)
  refine ⟨_, ha.cell 2, ?_⟩
  refine set_step hb (by simp) (fun w6 o6 hb n6 => ?_)
  have ha := ha.only o6 (by omega)
  have hc := hc.only o6 (by omega)
  have e := Ext.own e o6 (fun k hk => by omega)
  refine ⟨_, ha.cell 3, ?_⟩
  refine set_step hb (by simp) (fun w7 o7 hb n7 => ?_)
  have ha := ha.only o7 (by omega)
  have hc := hc.only o7 (by omega)
  have e := Ext.own e o7 (fun k hk => by omega)
  refine ⟨s_4, ha.cell 4, ?_⟩
  refine (c53 t_4 (IsD.ext e _ _ is_4) (by simp only [Dat.sz, Dat.szs] at hs ⊢; omega)).mono ?_
  rintro _ w8 ⟨r_4, rfl, f_4, e8⟩
  refine ⟨r_4, rfl, ?_⟩
  have ha := ha.ext e8
  have hb := hb.ext e8
  have hc := hc.ext e8
  have e := Only.trans e e8
  have z8 := e8.size
  refine set_step hb (by simp) (fun w9 o9 hb n9 => ?_)
  have ha := ha.only o9 (by omega)
  have hc := hc.only o9 (by omega)
  have e := Ext.own e o9 (fun k hk => by omega)
  have f_4 := f_4.only o9 (fun k _ _ => by omega)
  refine ⟨_, hb.cell 0, _, hb.cell 1, _, hb.cell 2, _, hb.cell 3, r_4, hb.cell 4, ?_⟩
  refine put_step hc rfl rfl (fun w10 o10 hc n10 => ?_)
  have e := Ext.own e o10 (fun k hk => by omega)
  have f_4 := f_4.only o10 (fun k _ _ => by omega)
  refine ⟨_, hc.cell 0, _, hc.cell 1, _, hc.cell 2, _, hc.cell 3, r_4, hc.cell 4, ?_⟩
  exact ⟨[.int .i64 x_0, .int .i64 x_1, .int .i64 x_2, .bool x_3, .slice r_4.a r_4.len r_4.cap], rfl, frF_st (frF_cons (m := w.heap.size) (fr_int ws_0) (frF_cons (m := w.heap.size) (fr_int ws_1) (frF_cons (m := w.heap.size) (fr_int ws_2) (frF_cons (m := w.heap.size) (fr_bool) (frF_cons (m := w8.heap.size) (f_4.mono (by omega) (Nat.le_refl _)) (frF_nil) (by omega) (by omega)) (by omega) (by omega)) (by omega) (by omega)) (by omega) (by omega)) (by omega) (by omega)), e⟩

/- toVPageS -/
theorem c21 {l : List Dat} {a0 : Sl} {w : World} (ht : ∀ e, e ∈ l → Has TyVPage e) (h : IsD w (.sl 5 l) [.slice a0.a a0.len a0.cap]) (hs : (Dat.sl 5 l).sz ≤ 4194304) : CallW Try.prog 21 #[.slice a0.a a0.len a0.cap] w (fun v w' => ∃ s : Sl, v = .slice s.a s.len s.cap ∧ Fr w.heap.size w'.heap.size w' (.sl 5 l) [.slice s.a s.len s.cap] ∧ Ext w w') := by
  refine go21 ?_
  unfold W21
  obtain ⟨hlen, hmax, hel⟩ := isD_sl h
  simp only [Dat.sz] at hs
  rw [hlen]; simp only [Int.toNat_natCast]
  refine ⟨by omega, by omega, by omega, by omega, LetW_iff.2 ?_⟩
  have hs0 := ToInv.start (w := w) (z := 5) (zero := ti53.zero) (e := 53) l rfl
  generalize w.alloc (.cells ⟨zerosOf ti53.zero l.length⟩ 53) = w1 at *
  refine LoopW.m1 (fun (i : Int) w' => ∃ (k : Nat) (bs : List Nat) (vs : List Value), i = k ∧ ToInv w w' w.heap.size 5 l k bs vs) (fun (i : Int) _ => (l.length - i).toNat) ⟨0, [], _, rfl, hs0⟩ ?_
  rintro (i : Int) w4 ⟨k, bs, vs, rfl, hi⟩ J hJ
  refine BIf.dec (fun hlt => ?_) (fun hge => ?_)
  · obtain ⟨d, hd⟩ : ∃ d, l[k]? = some d := ⟨_, List.getElem?_eq_getElem (by omega)⟩
    have hsz := szs_get hd
    obtain ⟨p, es, hp, he, hc, his⟩ := isD_at (IsD.ext hi.ext _ _ h) hd
    have ht0 := ht d (mem_get hd)
    obtain ⟨x_0, x_1, x_2, x_3, l_4, rfl, t_4⟩ := has_VPage ht0
    have his0 := his
    obtain ⟨s_4, rfl, ws_0, ws_1, ws_2, is_4⟩ := cells_VPage his
    refine ⟨by omega, by omega, p, hp, _, hc 0 _ rfl, _, hc 1 _ rfl, _, hc 2 _ rfl, _, hc 3 _ rfl, s_4, hc 4 _ rfl, (c42 (cs := [.int .i64 x_0, .int .i64 x_1, .int .i64 x_2, .bool x_3, .slice s_4.a s_4.len s_4.cap]) ht0 his0 (by omega)).mono ?_⟩
    rintro _ w9 ⟨r, rfl, f, e9⟩
    have hr := f.is
    obtain ⟨r_4, rfl, wr_0, wr_1, wr_2, ir_4⟩ := cells_VPage hr
    obtain ⟨b1, ho, hn, hb⟩ := f
    obtain ⟨hm, hi2⟩ := hi.step hd e9 ho hn (fun c hc => (hb c hc).1) rfl
    refine ⟨_, _, _, _, r_4, rfl, by omega, by omega, _, rfl, hm, LetW_iff.2 ?_⟩
    rw [w64 (by omega) (by omega)]
    exact hJ _ _ ⟨k + 1, _, _, by omega, hi2⟩ (by omega)
  · exact ⟨⟨some ⟨w.heap.size, 0, none⟩, l.length, l.length⟩, rfl, (hi.done (by omega) hmax).fr, hi.ext⟩

/- toInt64S -/
theorem c55 {l : List Dat} {a0 : Sl} {w : World} (ht : ∀ e, e ∈ l → Has (.int .i64) e) (h : IsD w (.sl 1 l) [.slice a0.a a0.len a0.cap]) (hs : (Dat.sl 1 l).sz ≤ 4194304) : CallW Try.prog 55 #[.slice a0.a a0.len a0.cap] w (fun v w' => ∃ s : Sl, v = .slice s.a s.len s.cap ∧ Fr w.heap.size w'.heap.size w' (.sl 1 l) [.slice s.a s.len s.cap] ∧ Ext w w') := by
  refine go55 ?_
  unfold W55
  obtain ⟨hlen, hmax, hel⟩ := isD_sl h
  simp only [Dat.sz] at hs
  rw [hlen]; simp only [Int.toNat_natCast]
  refine ⟨by omega, by omega, by omega, by omega, LetW_iff.2 ?_⟩
  have hs0 := ToInv.start (w := w) (z := 1) (zero := ti2.zero) (e := 2) l rfl
  generalize w.alloc (.cells ⟨zerosOf ti2.zero l.length⟩ 2) = w1 at *
  refine LoopW.m1 (fun (i : Int) w' => ∃ (k : Nat) (bs : List Nat) (vs : List Value), i = k ∧ ToInv w w' w.heap.size 1 l k bs vs) (fun (i : Int) _ => (l.length - i).toNat) ⟨0, [], _, rfl, hs0⟩ ?_
  rintro (i : Int) w4 ⟨k, bs, vs, rfl, hi⟩ J hJ
  refine BIf.dec (fun hlt => ?_) (fun hge => ?_)
  · obtain ⟨d, hd⟩ : ∃ d, l[k]? = some d := ⟨_, List.getElem?_eq_getElem (by omega)⟩
    have hsz := szs_get hd
    obtain ⟨p, es, hp, he, hc, his⟩ := isD_at (IsD.ext hi.ext _ _ h) hd
    have ht0 := ht d (mem_get hd)
    obtain ⟨x, rfl⟩ := has_int ht0
    obtain ⟨rfl, ws⟩ := isD_int his
    obtain ⟨b1, ho, hn, hb⟩ := fr_int (lo := w4.heap.size) (hi := w4.heap.size) (w := w4) ws
    obtain ⟨hm, hi2⟩ := hi.step hd (Only.refl _ _) ho hn (fun c hc => (hb c hc).1) rfl
    rw [puts_one] at hi2
    refine ⟨by omega, by omega, p, hp, _, hc 0 _ rfl, by omega, by omega, _, rfl, mayN_one hm, LetW_iff.2 ?_⟩
    rw [w64 (by omega) (by omega)]
    exact hJ _ _ ⟨k + 1, _, _, by omega, hi2⟩ (by omega)
  · exact ⟨⟨some ⟨w.heap.size, 0, none⟩, l.length, l.length⟩, rfl, (hi.done (by omega) hmax).fr, hi.ext⟩

/- toRegion -/
theorem c60 {d : Dat} {cs : List Value} {w : World} (ht : Has TyRegion d) (h : IsD w d cs) (hs : d.sz ≤ 4194304) : CallW Try.prog 60 #[.agg ⟨cs⟩] w (fun v w' => ∃ cs', v = .agg ⟨cs'⟩ ∧ Fr w.heap.size w'.heap.size w' d cs' ∧ Ext w w') := by
  obtain ⟨x_0, x_1, x_2, x_3, l_4, l_5, rfl, t_4, t_5⟩ := has_Region ht
  obtain ⟨s_4, s_5, rfl, ws_0, ws_1, ws_2, ws_3, is_4, is_5⟩ := cells_Region h
  show CallW Try.prog 60 #[.agg #[.int .i64 x_0, .int .i64 x_1, .int .i64 x_2, .int .i64 x_3, .slice s_4.a s_4.len s_4.cap, .slice s_5.a s_5.len s_5.cap]] w _
  refine go60 ?_
  unfold W60
  refine alloc_step (fun w1 e1 ha n1 => ?_)
  refine alloc_step (fun w2 e2 hc n2 => ?_)
  have ha := ha.ext e2
  refine alloc_step (fun w3 e3 hb n3 => ?_)
  have ha := ha.ext e3
  have hc := hc.ext e3
  have e := Only.trans e1 (Only.trans e2 e3)
  refine ⟨_, ha.cell 0, ?_⟩
  refine set_step hb (by simp) (fun w4 o4 hb n4 => ?_)
  have ha := ha.only o4 (by omega)
  have hc := hc.only o4 (by omega)
  have e := Ext.own e o4 (fun k hk => by omega)
  refine ⟨_, ha.cell 1, ?_⟩
  refine set_step hb (by simp) (fun w5 o5 hb n5 => ?_)
  have ha := ha.only o5 (by omega)
  have hc := hc.only o5 (by omega)
  have e := Ext.own e o5 (fun k hk => by omega)
  refine ⟨_, ha.cell 2, ?_⟩
  refine set_step hb (by simp) (fun w6 o6 hb n6 => ?_)
  have ha := ha.only o6 (by omega)
  have hc := hc.only o6 (by omega)
  have e := Ext.own e o6 (fun k hk => by omega)
  refine ⟨_, ha.cell 3, ?_⟩
  refine set_step hb (by simp) (fun w7 o7 hb n7 => ?_)
  have ha := ha.only o7 (by omega)
  have hc := hc.only o7 (by omega)
  have e := Ext.own e o7 (fun k hk => by omega)
  refine ⟨s_4, ha.cell 4, ?_⟩
  refine (c53 t_4 (IsD.ext e _ _ is_4) (by simp only [Dat.sz, Dat.szs] at hs ⊢; omega)).mono ?_
  rintro _ w8 ⟨r_4, rfl, f_4, e8⟩
  refine ⟨r_4, rfl, ?_⟩
  have ha := ha.ext e8
  have hb := hb.ext e8
  have hc := hc.ext e8
  have e := Only.trans e e8
  have z8 := e8.size
  refine set_step hb (by simp) (fun w9 o9 hb n9 => ?_)
  have ha := ha.only o9 (by omega)
  have hc := hc.only o9 (by omega)
  have e := Ext.own e o9 (fun k hk => by omega)
  have f_4 := f_4.only o9 (fun k _ _ => by omega)
  refine ⟨s_5, ha.cell 5, ?_⟩
  refine (c55 t_5 (IsD.ext e _ _ is_5) (by simp only [Dat.sz, Dat.szs] at hs ⊢; omega)).mono ?_
  rintro _ w10 ⟨r_5, rfl, f_5, e10⟩
  refine ⟨r_5, rfl, ?_⟩
  have ha := ha.ext e10
  have hb := hb.ext e10
  have hc := hc.ext e10
  have e := Only.trans e e10
  have z10 := e10.size
  have f_4 := f_4.ext e10
  refine set_step hb (by simp) (fun w11 o11 hb n11 => ?_)
  have ha := ha.only o11 (by omega)
  have hc := hc.only o11 (by omega)
  have e := Ext.own e o11 (fun k hk => by omega)
  have f_4 := f_4.only o11 (fun k _ _ => by omega)
  have f_5 := f_5.only o11 (fun k _ _ => by omega)
  refine ⟨_, hb.cell 0, _, hb.cell 1, _, hb.cell 2, _, hb.cell 3, r_4, hb.cell 4, r_5, hb.cell 5, ?_⟩
  refine put_step hc rfl rfl (fun w12 o12 hc n12 => ?_)
  have e := Ext.own e o12 (fun k hk => by omega)
  have f_4 := f_4.only o12 (fun k _ _ => by omega)
  have f_5 := f_5.only o12 (fun k _ _ => by omega)
  refine ⟨_, hc.cell 0, _, hc.cell 1, _, hc.cell 2, _, hc.cell 3, r_4, hc.cell 4, r_5, hc.cell 5, ?_⟩
  exact ⟨[.int .i64 x_0, .int .i64 x_1, .int .i64 x_2, .int .i64 x_3, .slice r_4.a r_4.len r_4.cap, .slice r_5.a r_5.len r_5.cap], rfl, frF_st (frF_cons (m := w.heap.size) (fr_int ws_0) (frF_cons (m := w.heap.size) (fr_int ws_1) (frF_cons (m := w.heap.size) (fr_int ws_2) (frF_cons (m := w.heap.size) (fr_int ws_3) (frF_cons (m := w8.heap.size) (f_4.mono (by omega) (Nat.le_refl _)) (frF_cons (m := w10.heap.size) (f_5.mono (by omega) (Nat.le_refl _)) (frF_nil) (by omega) (by omega)) (by omega) (by omega)) (by omega) (by omega)) (by omega) (by omega)) (by omega) (by omega)) (by omega) (by omega)), e⟩

/- toRegionS -/
theorem c54 {l : List Dat} {a0 : Sl} {w : World} (ht : ∀ e, e ∈ l → Has TyRegion e) (h : IsD w (.sl 6 l) [.slice a0.a a0.len a0.cap]) (hs : (Dat.sl 6 l).sz ≤ 4194304) : CallW Try.prog 54 #[.slice a0.a a0.len a0.cap] w (fun v w' => ∃ s : Sl, v = .slice s.a s.len s.cap ∧ Fr w.heap.size w'.heap.size w' (.sl 6 l) [.slice s.a s.len s.cap] ∧ Ext w w') := by
  refine go54 ?_
  unfold W54
  obtain ⟨hlen, hmax, hel⟩ := isD_sl h
  simp only [Dat.sz] at hs
  rw [hlen]; simp only [Int.toNat_natCast]
  refine ⟨by omega, by omega, by omega, by omega, LetW_iff.2 ?_⟩
  have hs0 := ToInv.start (w := w) (z := 6) (zero := ti62.zero) (e := 62) l rfl
  generalize w.alloc (.cells ⟨zerosOf ti62.zero l.length⟩ 62) = w1 at *
  refine LoopW.m1 (fun (i : Int) w' => ∃ (k : Nat) (bs : List Nat) (vs : List Value), i = k ∧ ToInv w w' w.heap.size 6 l k bs vs) (fun (i : Int) _ => (l.length - i).toNat) ⟨0, [], _, rfl, hs0⟩ ?_
  rintro (i : Int) w4 ⟨k, bs, vs, rfl, hi⟩ J hJ
  refine BIf.dec (fun hlt => ?_) (fun hge => ?_)
  · obtain ⟨d, hd⟩ : ∃ d, l[k]? = some d := ⟨_, List.getElem?_eq_getElem (by omega)⟩
    have hsz := szs_get hd
    obtain ⟨p, es, hp, he, hc, his⟩ := isD_at (IsD.ext hi.ext _ _ h) hd
    have ht0 := ht d (mem_get hd)
    obtain ⟨x_0, x_1, x_2, x_3, l_4, l_5, rfl, t_4, t_5⟩ := has_Region ht0
    have his0 := his
    obtain ⟨s_4, s_5, rfl, ws_0, ws_1, ws_2, ws_3, is_4, is_5⟩ := cells_Region his
    refine ⟨by omega, by omega, p, hp, _, hc 0 _ rfl, _, hc 1 _ rfl, _, hc 2 _ rfl, _, hc 3 _ rfl, s_4, hc 4 _ rfl, s_5, hc 5 _ rfl, (c60 (cs := [.int .i64 x_0, .int .i64 x_1, .int .i64 x_2, .int .i64 x_3, .slice s_4.a s_4.len s_4.cap, .slice s_5.a s_5.len s_5.cap]) ht0 his0 (by omega)).mono ?_⟩
    rintro _ w9 ⟨r, rfl, f, e9⟩
    have hr := f.is
    obtain ⟨r_4, r_5, rfl, wr_0, wr_1, wr_2, wr_3, ir_4, ir_5⟩ := cells_Region hr
    obtain ⟨b1, ho, hn, hb⟩ := f
    obtain ⟨hm, hi2⟩ := hi.step hd e9 ho hn (fun c hc => (hb c hc).1) rfl
    refine ⟨_, _, _, _, r_4, r_5, rfl, by omega, by omega, _, rfl, hm, LetW_iff.2 ?_⟩
    rw [w64 (by omega) (by omega)]
    exact hJ _ _ ⟨k + 1, _, _, by omega, hi2⟩ (by omega)
  · exact ⟨⟨some ⟨w.heap.size, 0, none⟩, l.length, l.length⟩, rfl, (hi.done (by omega) hmax).fr, hi.ext⟩

/- toSpace -/
theorem c43 {d : Dat} {cs : List Value} {w : World} (ht : Has TySpace d) (h : IsD w d cs) (hs : d.sz ≤ 4194304) : CallW Try.prog 43 #[.agg ⟨cs⟩] w (fun v w' => ∃ cs', v = .agg ⟨cs'⟩ ∧ Fr w.heap.size w'.heap.size w' d cs' ∧ Ext w w') := by
  obtain ⟨x_0, l_1, rfl, t_1⟩ := has_Space ht
  obtain ⟨s_1, rfl, ws_0, is_1⟩ := cells_Space h
  show CallW Try.prog 43 #[.agg #[.int .i64 x_0, .slice s_1.a s_1.len s_1.cap]] w _
  refine go43 ?_
  unfold W43
  refine alloc_step (fun w1 e1 ha n1 => ?_)
  refine alloc_step (fun w2 e2 hc n2 => ?_)
  have ha := ha.ext e2
  refine alloc_step (fun w3 e3 hb n3 => ?_)
  have ha := ha.ext e3
  have hc := hc.ext e3
  have e := Only.trans e1 (Only.trans e2 e3)
  refine ⟨_, ha.cell 0, ?_⟩
  refine set_step hb (by simp) (fun w4 o4 hb n4 => ?_)
  have ha := ha.only o4 (by omega)
  have hc := hc.only o4 (by omega)
  have e := Ext.own e o4 (fun k hk => by omega)
  refine ⟨s_1, ha.cell 1, ?_⟩
  refine (c54 t_1 (IsD.ext e _ _ is_1) (by simp only [Dat.sz, Dat.szs] at hs ⊢; omega)).mono ?_
  rintro _ w5 ⟨r_1, rfl, f_1, e5⟩
  refine ⟨r_1, rfl, ?_⟩
  have ha := ha.ext e5
  have hb := hb.ext e5
  have hc := hc.ext e5
  have e := Only.trans e e5
  have z5 := e5.size
  refine set_step hb (by simp) (fun w6 o6 hb n6 => ?_)
  have ha := ha.only o6 (by omega)
  have hc := hc.only o6 (by omega)
  have e := Ext.own e o6 (fun k hk => by omega)
  have f_1 := f_1.only o6 (fun k _ _ => by omega)
  refine ⟨_, hb.cell 0, r_1, hb.cell 1, ?_⟩
  refine put_step hc rfl rfl (fun w7 o7 hc n7 => ?_)
  have e := Ext.own e o7 (fun k hk => by omega)
  have f_1 := f_1.only o7 (fun k _ _ => by omega)
  refine ⟨_, hc.cell 0, r_1, hc.cell 1, ?_⟩
  exact ⟨[.int .i64 x_0, .slice r_1.a r_1.len r_1.cap], rfl, frF_st (frF_cons (m := w.heap.size) (fr_int ws_0) (frF_cons (m := w5.heap.size) (f_1.mono (by omega) (Nat.le_refl _)) (frF_nil) (by omega) (by omega)) (by omega) (by omega)), e⟩

/- toSpaceS -/
theorem c22 {l : List Dat} {a0 : Sl} {w : World} (ht : ∀ e, e ∈ l → Has TySpace e) (h : IsD w (.sl 2 l) [.slice a0.a a0.len a0.cap]) (hs : (Dat.sl 2 l).sz ≤ 4194304) : CallW Try.prog 22 #[.slice a0.a a0.len a0.cap] w (fun v w' => ∃ s : Sl, v = .slice s.a s.len s.cap ∧ Fr w.heap.size w'.heap.size w' (.sl 2 l) [.slice s.a s.len s.cap] ∧ Ext w w') := by
  refine go22 ?_
  unfold W22
  obtain ⟨hlen, hmax, hel⟩ := isD_sl h
  simp only [Dat.sz] at hs
  rw [hlen]; simp only [Int.toNat_natCast]
  refine ⟨by omega, by omega, by omega, by omega, LetW_iff.2 ?_⟩
  have hs0 := ToInv.start (w := w) (z := 2) (zero := ti60.zero) (e := 60) l rfl
  generalize w.alloc (.cells ⟨zerosOf ti60.zero l.length⟩ 60) = w1 at *
  refine LoopW.m1 (fun (i : Int) w' => ∃ (k : Nat) (bs : List Nat) (vs : List Value), i = k ∧ ToInv w w' w.heap.size 2 l k bs vs) (fun (i : Int) _ => (l.length - i).toNat) ⟨0, [], _, rfl, hs0⟩ ?_
  rintro (i : Int) w4 ⟨k, bs, vs, rfl, hi⟩ J hJ
  refine BIf.dec (fun hlt => ?_) (fun hge => ?_)
  · obtain ⟨d, hd⟩ : ∃ d, l[k]? = some d := ⟨_, List.getElem?_eq_getElem (by omega)⟩
    have hsz := szs_get hd
    obtain ⟨p, es, hp, he, hc, his⟩ := isD_at (IsD.ext hi.ext _ _ h) hd
    have ht0 := ht d (mem_get hd)
    obtain ⟨x_0, l_1, rfl, t_1⟩ := has_Space ht0
    have his0 := his
    obtain ⟨s_1, rfl, ws_0, is_1⟩ := cells_Space his
    refine ⟨by omega, by omega, p, hp, _, hc 0 _ rfl, s_1, hc 1 _ rfl, (c43 (cs := [.int .i64 x_0, .slice s_1.a s_1.len s_1.cap]) ht0 his0 (by omega)).mono ?_⟩
    rintro _ w9 ⟨r, rfl, f, e9⟩
    have hr := f.is
    obtain ⟨r_1, rfl, wr_0, ir_1⟩ := cells_Space hr
    obtain ⟨b1, ho, hn, hb⟩ := f
    obtain ⟨hm, hi2⟩ := hi.step hd e9 ho hn (fun c hc => (hb c hc).1) rfl
    refine ⟨_, r_1, rfl, by omega, by omega, _, rfl, hm, LetW_iff.2 ?_⟩
    rw [w64 (by omega) (by omega)]
    exact hJ _ _ ⟨k + 1, _, _, by omega, hi2⟩ (by omega)
  · exact ⟨⟨some ⟨w.heap.size, 0, none⟩, l.length, l.length⟩, rfl, (hi.done (by omega) hmax).fr, hi.ext⟩

/- toObj -/
theorem c44 {d : Dat} {cs : List Value} {w : World} (ht : Has TyObj d) (h : IsD w d cs) (hs : d.sz ≤ 4194304) : CallW Try.prog 44 #[.agg ⟨cs⟩] w (fun v w' => ∃ cs', v = .agg ⟨cs'⟩ ∧ Fr w.heap.size w'.heap.size w' d cs' ∧ Ext w w') := by
  obtain ⟨x_0, x_1, l_2, rfl, t_2⟩ := has_Obj ht
  obtain ⟨s_2, rfl, ws_0, is_2⟩ := cells_Obj h
  show CallW Try.prog 44 #[.agg #[.int .i64 x_0, .bool x_1, .slice s_2.a s_2.len s_2.cap]] w _
  refine go44 ?_
  unfold W44
  refine alloc_step (fun w1 e1 ha n1 => ?_)
  refine alloc_step (fun w2 e2 hc n2 => ?_)
  have ha := ha.ext e2
  refine alloc_step (fun w3 e3 hb n3 => ?_)
  have ha := ha.ext e3
  have hc := hc.ext e3
  have e := Only.trans e1 (Only.trans e2 e3)
  refine ⟨_, ha.cell 0, ?_⟩
  refine set_step hb (by simp) (fun w4 o4 hb n4 => ?_)
  have ha := ha.only o4 (by omega)
  have hc := hc.only o4 (by omega)
  have e := Ext.own e o4 (fun k hk => by omega)
  refine ⟨_, ha.cell 1, ?_⟩
  refine set_step hb (by simp) (fun w5 o5 hb n5 => ?_)
  have ha := ha.only o5 (by omega)
  have hc := hc.only o5 (by omega)
  have e := Ext.own e o5 (fun k hk => by omega)
  refine ⟨s_2, ha.cell 2, ?_⟩
  refine (c55 t_2 (IsD.ext e _ _ is_2) (by simp only [Dat.sz, Dat.szs] at hs ⊢; omega)).mono ?_
  rintro _ w6 ⟨r_2, rfl, f_2, e6⟩
  refine ⟨r_2, rfl, ?_⟩
  have ha := ha.ext e6
  have hb := hb.ext e6
  have hc := hc.ext e6
  have e := Only.trans e e6
  have z6 := e6.size
  refine set_step hb (by simp) (fun w7 o7 hb n7 => ?_)
  have ha := ha.only o7 (by omega)
  have hc := hc.only o7 (by omega)
  have e := Ext.own e o7 (fun k hk => by omega)
  have f_2 := f_2.only o7 (fun k _ _ => by omega)
  refine ⟨_, hb.cell 0, _, hb.cell 1, r_2, hb.cell 2, ?_⟩
  refine put_step hc rfl rfl (fun w8 o8 hc n8 => ?_)
  have e := Ext.own e o8 (fun k hk => by omega)
  have f_2 := f_2.only o8 (fun k _ _ => by omega)
  refine ⟨_, hc.cell 0, _, hc.cell 1, r_2, hc.cell 2, ?_⟩
  exact ⟨[.int .i64 x_0, .bool x_1, .slice r_2.a r_2.len r_2.cap], rfl, frF_st (frF_cons (m := w.heap.size) (fr_int ws_0) (frF_cons (m := w.heap.size) (fr_bool) (frF_cons (m := w6.heap.size) (f_2.mono (by omega) (Nat.le_refl _)) (frF_nil) (by omega) (by omega)) (by omega) (by omega)) (by omega) (by omega)), e⟩

/- toObjS -/
theorem c23 {l : List Dat} {a0 : Sl} {w : World} (ht : ∀ e, e ∈ l → Has TyObj e) (h : IsD w (.sl 3 l) [.slice a0.a a0.len a0.cap]) (hs : (Dat.sl 3 l).sz ≤ 4194304) : CallW Try.prog 23 #[.slice a0.a a0.len a0.cap] w (fun v w' => ∃ s : Sl, v = .slice s.a s.len s.cap ∧ Fr w.heap.size w'.heap.size w' (.sl 3 l) [.slice s.a s.len s.cap] ∧ Ext w w') := by
  refine go23 ?_
  unfold W23
  obtain ⟨hlen, hmax, hel⟩ := isD_sl h
  simp only [Dat.sz] at hs
  rw [hlen]; simp only [Int.toNat_natCast]
  refine ⟨by omega, by omega, by omega, by omega, LetW_iff.2 ?_⟩
  have hs0 := ToInv.start (w := w) (z := 3) (zero := ti57.zero) (e := 57) l rfl
  generalize w.alloc (.cells ⟨zerosOf ti57.zero l.length⟩ 57) = w1 at *
  refine LoopW.m1 (fun (i : Int) w' => ∃ (k : Nat) (bs : List Nat) (vs : List Value), i = k ∧ ToInv w w' w.heap.size 3 l k bs vs) (fun (i : Int) _ => (l.length - i).toNat) ⟨0, [], _, rfl, hs0⟩ ?_
  rintro (i : Int) w4 ⟨k, bs, vs, rfl, hi⟩ J hJ
  refine BIf.dec (fun hlt => ?_) (fun hge => ?_)
  · obtain ⟨d, hd⟩ : ∃ d, l[k]? = some d := ⟨_, List.getElem?_eq_getElem (by omega)⟩
    have hsz := szs_get hd
    obtain ⟨p, es, hp, he, hc, his⟩ := isD_at (IsD.ext hi.ext _ _ h) hd
    have ht0 := ht d (mem_get hd)
    obtain ⟨x_0, x_1, l_2, rfl, t_2⟩ := has_Obj ht0
    have his0 := his
    obtain ⟨s_2, rfl, ws_0, is_2⟩ := cells_Obj his
    refine ⟨by omega, by omega, p, hp, _, hc 0 _ rfl, _, hc 1 _ rfl, s_2, hc 2 _ rfl, (c44 (cs := [.int .i64 x_0, .bool x_1, .slice s_2.a s_2.len s_2.cap]) ht0 his0 (by omega)).mono ?_⟩
    rintro _ w9 ⟨r, rfl, f, e9⟩
    have hr := f.is
    obtain ⟨r_2, rfl, wr_0, ir_2⟩ := cells_Obj hr
    obtain ⟨b1, ho, hn, hb⟩ := f
    obtain ⟨hm, hi2⟩ := hi.step hd e9 ho hn (fun c hc => (hb c hc).1) rfl
    refine ⟨_, _, r_2, rfl, by omega, by omega, _, rfl, hm, LetW_iff.2 ?_⟩
    rw [w64 (by omega) (by omega)]
    exact hJ _ _ ⟨k + 1, _, _, by omega, hi2⟩ (by omega)
  · exact ⟨⟨some ⟨w.heap.size, 0, none⟩, l.length, l.length⟩, rfl, (hi.done (by omega) hmax).fr, hi.ext⟩

/- toVm -/
theorem c7 {d : Dat} {cs : List Value} {w : World} (ht : Has TyVm d) (h : IsD w d cs) (hs : d.sz ≤ 4194304) : CallW Try.prog 7 #[.agg ⟨cs⟩] w (fun v w' => ∃ cs', v = .agg ⟨cs'⟩ ∧ Fr w.heap.size w'.heap.size w' d cs' ∧ Ext w w') := by
  obtain ⟨x_0, x_1, x_2, x_3, x_4, x_5, x_6, l_7, l_8, l_9, rfl, t_7, t_8, t_9⟩ := has_Vm ht
  obtain ⟨s_7, s_8, s_9, rfl, ws_0, ws_1, ws_2, ws_3, ws_4, ws_5, ws_6, is_7, is_8, is_9⟩ := cells_Vm h
  show CallW Try.prog 7 #[.agg #[.int .i64 x_0, .int .i64 x_1, .int .i64 x_2, .int .i64 x_3, .int .i64 x_4, .int .i64 x_5, .int .i64 x_6, .slice s_7.a s_7.len s_7.cap, .slice s_8.a s_8.len s_8.cap, .slice s_9.a s_9.len s_9.cap]] w _
  refine go7 ?_
  unfold W7
  refine alloc_step (fun w1 e1 ha n1 => ?_)
  refine alloc_step (fun w2 e2 hc n2 => ?_)
  have ha := ha.ext e2
  refine alloc_step (fun w3 e3 hb n3 => ?_)
  have ha := ha.ext e3
  have hc := hc.ext e3
  have e := Only.trans e1 (Only.trans e2 e3)
  refine ⟨_, ha.cell 0, ?_⟩
  refine set_step hb (by simp) (fun w4 o4 hb n4 => ?_)
  have ha := ha.only o4 (by omega)
  have hc := hc.only o4 (by omega)
  have e := Ext.own e o4 (fun k hk => by omega)
  refine ⟨_, ha.cell 1, ?_⟩
  refine set_step hb (by simp) (fun w5 o5 hb n5 => ?_)
  have ha := ha.only o5 (by omega)
  have hc := hc.only o5 (by omega)
  have e := Ext.own e o5 (fun k hk => by omega)
  refine ⟨_, ha.cell 2, ?_⟩
  refine set_step hb (by simp) (fun w6 o6 hb n6 => ?_)
  have ha := ha.only o6 (by omega)
  have hc := hc.only o6 (by omega)
  have e := Ext.own e o6 (fun k hk => by omega)
  refine ⟨_, ha.cell 3, ?_⟩
  refine set_step hb (by simp) (fun w7 o7 hb n7 => ?_)
  have ha := ha.only o7 (by omega)
  have hc := hc.only o7 (by omega)
  have e := Ext.own e o7 (fun k hk => by omega)
  refine ⟨_, ha.cell 4, ?_⟩
  refine set_step hb (by simp) (fun w8 o8 hb n8 => ?_)
  have ha := ha.only o8 (by omega)
  have hc := hc.only o8 (by omega)
  have e := Ext.own e o8 (fun k hk => by omega)
  refine ⟨_, ha.cell 5, ?_⟩
  refine set_step hb (by simp) (fun w9 o9 hb n9 => ?_)
  have ha := ha.only o9 (by omega)
  have hc := hc.only o9 (by omega)
  have e := Ext.own e o9 (fun k hk => by omega)
  refine ⟨_, ha.cell 6, ?_⟩
  refine set_step hb (by simp) (fun w10 o10 hb n10 => ?_)
  have ha := ha.only o10 (by omega)
  have hc := hc.only o10 (by omega)
  have e := Ext.own e o10 (fun k hk => by omega)
  refine ⟨s_7, ha.cell 7, ?_⟩
  refine (c21 t_7 (IsD.ext e _ _ is_7) (by simp only [Dat.sz, Dat.szs] at hs ⊢; omega)).mono ?_
  rintro _ w11 ⟨r_7, rfl, f_7, e11⟩
  refine ⟨r_7, rfl, ?_⟩
  have ha := ha.ext e11
  have hb := hb.ext e11
  have hc := hc.ext e11
  have e := Only.trans e e11
  have z11 := e11.size
  refine set_step hb (by simp) (fun w12 o12 hb n12 => ?_)
  have ha := ha.only o12 (by omega)
  have hc := hc.only o12 (by omega)
  have e := Ext.own e o12 (fun k hk => by omega)
  have f_7 := f_7.only o12 (fun k _ _ => by omega)
  refine ⟨s_8, ha.cell 8, ?_⟩
  refine (c22 t_8 (IsD.ext e _ _ is_8) (by simp only [Dat.sz, Dat.szs] at hs ⊢; omega)).mono ?_
  rintro _ w13 ⟨r_8, rfl, f_8, e13⟩
  refine ⟨r_8, rfl, ?_⟩
  have ha := ha.ext e13
  have hb := hb.ext e13
  have hc := hc.ext e13
  have e := Only.trans e e13
  have z13 := e13.size
  have f_7 := f_7.ext e13
  refine set_step hb (by simp) (fun w14 o14 hb n14 => ?_)
  have ha := ha.only o14 (by omega)
  have hc := hc.only o14 (by omega)
  have e := Ext.own e o14 (fun k hk => by omega)
  have f_7 := f_7.only o14 (fun k _ _ => by omega)
  have f_8 := f_8.only o14 (fun k _ _ => by omega)
  refine ⟨s_9, ha.cell 9, ?_⟩
  refine (c23 t_9 (IsD.ext e _ _ is_9) (by simp only [Dat.sz, Dat.szs] at hs ⊢; omega)).mono ?_
  rintro _ w15 ⟨r_9, rfl, f_9, e15⟩
  refine ⟨r_9, rfl, ?_⟩
  have ha := ha.ext e15
  have hb := hb.ext e15
  have hc := hc.ext e15
  have e := Only.trans e e15
  have z15 := e15.size
  have f_7 := f_7.ext e15
  have f_8 := f_8.ext e15
  refine set_step hb (by simp) (fun w16 o16 hb n16 => ?_)
  have ha := ha.only o16 (by omega)
  have hc := hc.only o16 (by omega)
  have e := Ext.own e o16 (fun k hk => by omega)
  have f_7 := f_7.only o16 (fun k _ _ => by omega)
  have f_8 := f_8.only o16 (fun k _ _ => by omega)
  have f_9 := f_9.only o16 (fun k _ _ => by omega)
  refine ⟨_, hb.cell 0, _, hb.cell 1, _, hb.cell 2, _, hb.cell 3, _, hb.cell 4, _, hb.cell 5, _, hb.cell 6, r_7, hb.cell 7, r_8, hb.cell 8, r_9, hb.cell 9, ?_⟩
  refine put_step hc rfl rfl (fun w17 o17 hc n17 => ?_)
  have e := Ext.own e o17 (fun k hk => by omega)
  have f_7 := f_7.only o17 (fun k _ _ => by omega)
  have f_8 := f_8.only o17 (fun k _ _ => by omega)
  have f_9 := f_9.only o17 (fun k _ _ => by omega)
  refine ⟨_, hc.cell 0, _, hc.cell 1, _, hc.cell 2, _, hc.cell 3, _, hc.cell 4, _, hc.cell 5, _, hc.cell 6, r_7, hc.cell 7, r_8, hc.cell 8, r_9, hc.cell 9, ?_⟩
  exact ⟨[.int .i64 x_0, .int .i64 x_1, .int .i64 x_2, .int .i64 x_3, .int .i64 x_4, .int .i64 x_5, .int .i64 x_6, .slice r_7.a r_7.len r_7.cap, .slice r_8.a r_8.len r_8.cap, .slice r_9.a r_9.len r_9.cap], rfl, frF_st (frF_cons (m := w.heap.size) (fr_int ws_0) (frF_cons (m := w.heap.size) (fr_int ws_1) (frF_cons (m := w.heap.size) (fr_int ws_2) (frF_cons (m := w.heap.size) (fr_int ws_3) (frF_cons (m := w.heap.size) (fr_int ws_4) (frF_cons (m := w.heap.size) (fr_int ws_5) (frF_cons (m := w.heap.size) (fr_int ws_6) (frF_cons (m := w11.heap.size) (f_7.mono (by omega) (Nat.le_refl _)) (frF_cons (m := w13.heap.size) (f_8.mono (by omega) (Nat.le_refl _)) (frF_cons (m := w15.heap.size) (f_9.mono (by omega) (Nat.le_refl _)) (frF_nil) (by omega) (by omega)) (by omega) (by omega)) (by omega) (by omega)) (by omega) (by omega)) (by omega) (by omega)) (by omega) (by omega)) (by omega) (by omega)) (by omega) (by omega)) (by omega) (by omega)) (by omega) (by omega)), e⟩

/- eqByteS -/
theorem c56 {l : List Dat} {a0 a1 : Sl} {w : World} (ht : ∀ e, e ∈ l → Has (.int .u8) e) (h : IsD w (.sl 1 l) [.slice a0.a a0.len a0.cap]) (h2 : IsD w (.sl 1 l) [.slice a1.a a1.len a1.cap]) : CallW Try.prog 56 #[.slice a0.a a0.len a0.cap, .slice a1.a a1.len a1.cap] w (fun v w' => v = .bool true ∧ Ext w w') := by
  refine go56 ?_
  unfold W56
  obtain ⟨hlen, hmax, hel⟩ := isD_sl h
  obtain ⟨hlen2, _, hel2⟩ := isD_sl h2
  have hmx : maxLen = 9223372036854775807 := rfl
  rw [hlen, hlen2]
  refine BIf.f (by simp) ?_
  refine LoopW.m1 (fun (i : Int) w' => ∃ k : Nat, i = k ∧ k ≤ l.length ∧ Ext w w') (fun (i : Int) _ => (l.length - i).toNat) ⟨0, rfl, by omega, Only.refl _ _⟩ ?_
  rintro (i : Int) w4 ⟨k, rfl, hk, e4⟩ J hJ
  refine BIf.dec (fun hlt => ?_) (fun hge => ⟨rfl, e4⟩)
  obtain ⟨d, hd⟩ : ∃ d, l[k]? = some d := ⟨_, List.getElem?_eq_getElem (by omega)⟩
  have e4 := Only.trans e4 (ext_drew w4)
  obtain ⟨p, es, hp, he, hc, his⟩ := isD_at (IsD.ext e4 _ _ h) hd
  obtain ⟨p2, es2, hp2, he2, hc2, his2⟩ := isD_at (IsD.ext e4 _ _ h2) hd
  have ht0 := ht d (mem_get hd)
  have ht1 := ht0
  obtain ⟨x, rfl⟩ := has_int ht1
  obtain ⟨rfl, ws⟩ := isD_int his
  obtain ⟨rfl, wu⟩ := isD_int his2
  refine ⟨by omega, by omega, p, hp, _, hc 0 _ rfl, by omega, by omega, p2, hp2, _, hc2 0 _ rfl, BIf.f (by simp) ?_⟩
  rw [w64 (by omega) (by omega)]
  exact hJ _ _ ⟨k + 1, by omega, by omega, e4⟩ (by omega)

/- eqVPage -/
theorem c46 {d : Dat} {cs1 cs2 : List Value} {w : World} (ht : Has TyVPage d) (h : IsD w d cs1) (h2 : IsD w d cs2) : CallW Try.prog 46 #[.agg ⟨cs1⟩, .agg ⟨cs2⟩] w (fun v w' => v = .bool true ∧ Ext w w') := by
  obtain ⟨x_0, x_1, x_2, x_3, l_4, rfl, t_4⟩ := has_VPage ht
  obtain ⟨s_4, rfl, ws_0, ws_1, ws_2, is_4⟩ := cells_VPage h
  obtain ⟨u_4, rfl, wu_0, wu_1, wu_2, iu_4⟩ := cells_VPage h2
  show CallW Try.prog 46 #[.agg #[.int .i64 x_0, .int .i64 x_1, .int .i64 x_2, .bool x_3, .slice s_4.a s_4.len s_4.cap], .agg #[.int .i64 x_0, .int .i64 x_1, .int .i64 x_2, .bool x_3, .slice u_4.a u_4.len u_4.cap]] w _
  refine go46 ?_
  unfold W46
  refine alloc_step (fun w1 e1 ha n1 => ?_)
  refine alloc_step (fun w2 e2 hb n2 => ?_)
  have ha := ha.ext e2
  have e := Only.trans e1 e2
  refine ⟨_, ha.cell 0, _, hb.cell 0, BIf.f (by simp) ?_⟩
  refine ⟨_, ha.cell 1, _, hb.cell 1, BIf.f (by simp) ?_⟩
  refine ⟨_, ha.cell 2, _, hb.cell 2, BIf.f (by simp) ?_⟩
  refine ⟨_, ha.cell 3, _, hb.cell 3, BIf.f (by simp) ?_⟩
  refine ⟨s_4, ha.cell 4, u_4, hb.cell 4, (c56 t_4 (IsD.ext e _ _ is_4) (IsD.ext e _ _ iu_4)).mono ?_⟩
  rintro _ w3 ⟨rfl, e3⟩
  have ha := ha.ext e3
  have hb := hb.ext e3
  have e := Only.trans e e3
  refine ⟨true, rfl, BIf.f rfl ?_⟩
  exact ⟨rfl, e⟩

/- eqVPageS -/
theorem c31 {l : List Dat} {a0 a1 : Sl} {w : World} (ht : ∀ e, e ∈ l → Has TyVPage e) (h : IsD w (.sl 5 l) [.slice a0.a a0.len a0.cap]) (h2 : IsD w (.sl 5 l) [.slice a1.a a1.len a1.cap]) : CallW Try.prog 31 #[.slice a0.a a0.len a0.cap, .slice a1.a a1.len a1.cap] w (fun v w' => v = .bool true ∧ Ext w w') := by
  refine go31 ?_
  unfold W31
  obtain ⟨hlen, hmax, hel⟩ := isD_sl h
  obtain ⟨hlen2, _, hel2⟩ := isD_sl h2
  have hmx : maxLen = 9223372036854775807 := rfl
  rw [hlen, hlen2]
  refine BIf.f (by simp) ?_
  refine LoopW.m1 (fun (i : Int) w' => ∃ k : Nat, i = k ∧ k ≤ l.length ∧ Ext w w') (fun (i : Int) _ => (l.length - i).toNat) ⟨0, rfl, by omega, Only.refl _ _⟩ ?_
  rintro (i : Int) w4 ⟨k, rfl, hk, e4⟩ J hJ
  refine BIf.dec (fun hlt => ?_) (fun hge => ⟨rfl, e4⟩)
  obtain ⟨d, hd⟩ : ∃ d, l[k]? = some d := ⟨_, List.getElem?_eq_getElem (by omega)⟩
  have e4 := Only.trans e4 (ext_drew w4)
  obtain ⟨p, es, hp, he, hc, his⟩ := isD_at (IsD.ext e4 _ _ h) hd
  obtain ⟨p2, es2, hp2, he2, hc2, his2⟩ := isD_at (IsD.ext e4 _ _ h2) hd
  have ht0 := ht d (mem_get hd)
  have ht1 := ht0
  obtain ⟨x_0, x_1, x_2, x_3, l_4, rfl, t_4⟩ := has_VPage ht1
  have his0 := his
  have his20 := his2
  obtain ⟨s_4, rfl, ws_0, ws_1, ws_2, is_4⟩ := cells_VPage his
  obtain ⟨u_4, rfl, wu_0, wu_1, wu_2, iu_4⟩ := cells_VPage his2
  refine ⟨by omega, by omega, p, hp, _, hc 0 _ rfl, _, hc 1 _ rfl, _, hc 2 _ rfl, _, hc 3 _ rfl, s_4, hc 4 _ rfl, by omega, by omega, p2, hp2, _, hc2 0 _ rfl, _, hc2 1 _ rfl, _, hc2 2 _ rfl, _, hc2 3 _ rfl, u_4, hc2 4 _ rfl, (c46 (cs1 := [.int .i64 x_0, .int .i64 x_1, .int .i64 x_2, .bool x_3, .slice s_4.a s_4.len s_4.cap]) (cs2 := [.int .i64 x_0, .int .i64 x_1, .int .i64 x_2, .bool x_3, .slice u_4.a u_4.len u_4.cap]) ht0 his0 his20).mono ?_⟩
  rintro _ w9 ⟨rfl, e9⟩
  refine ⟨true, rfl, BIf.f rfl ?_⟩
  rw [w64 (by omega) (by omega)]
  exact hJ _ _ ⟨k + 1, by omega, by omega, Only.trans e4 e9⟩ (by omega)

/- eqInt64S -/
theorem c58 {l : List Dat} {a0 a1 : Sl} {w : World} (ht : ∀ e, e ∈ l → Has (.int .i64) e) (h : IsD w (.sl 1 l) [.slice a0.a a0.len a0.cap]) (h2 : IsD w (.sl 1 l) [.slice a1.a a1.len a1.cap]) : CallW Try.prog 58 #[.slice a0.a a0.len a0.cap, .slice a1.a a1.len a1.cap] w (fun v w' => v = .bool true ∧ Ext w w') := by
  refine go58 ?_
  unfold W58
  obtain ⟨hlen, hmax, hel⟩ := isD_sl h
  obtain ⟨hlen2, _, hel2⟩ := isD_sl h2
  have hmx : maxLen = 9223372036854775807 := rfl
  rw [hlen, hlen2]
  refine BIf.f (by simp) ?_
  refine LoopW.m1 (fun (i : Int) w' => ∃ k : Nat, i = k ∧ k ≤ l.length ∧ Ext w w') (fun (i : Int) _ => (l.length - i).toNat) ⟨0, rfl, by omega, Only.refl _ _⟩ ?_
  rintro (i : Int) w4 ⟨k, rfl, hk, e4⟩ J hJ
  refine BIf.dec (fun hlt => ?_) (fun hge => ⟨rfl, e4⟩)
  obtain ⟨d, hd⟩ : ∃ d, l[k]? = some d := ⟨_, List.getElem?_eq_getElem (by omega)⟩
  have e4 := Only.trans e4 (ext_drew w4)
  obtain ⟨p, es, hp, he, hc, his⟩ := isD_at (IsD.ext e4 _ _ h) hd
  obtain ⟨p2, es2, hp2, he2, hc2, his2⟩ := isD_at (IsD.ext e4 _ _ h2) hd
  have ht0 := ht d (mem_get hd)
  have ht1 := ht0
  obtain ⟨x, rfl⟩ := has_int ht1
  obtain ⟨rfl, ws⟩ := isD_int his
  obtain ⟨rfl, wu⟩ := isD_int his2
  refine ⟨by omega, by omega, p, hp, _, hc 0 _ rfl, by omega, by omega, p2, hp2, _, hc2 0 _ rfl, BIf.f (by simp) ?_⟩
  rw [w64 (by omega) (by omega)]
  exact hJ _ _ ⟨k + 1, by omega, by omega, e4⟩ (by omega)

/- eqRegion -/
theorem c61 {d : Dat} {cs1 cs2 : List Value} {w : World} (ht : Has TyRegion d) (h : IsD w d cs1) (h2 : IsD w d cs2) : CallW Try.prog 61 #[.agg ⟨cs1⟩, .agg ⟨cs2⟩] w (fun v w' => v = .bool true ∧ Ext w w') := by
  obtain ⟨x_0, x_1, x_2, x_3, l_4, l_5, rfl, t_4, t_5⟩ := has_Region ht
  obtain ⟨s_4, s_5, rfl, ws_0, ws_1, ws_2, ws_3, is_4, is_5⟩ := cells_Region h
  obtain ⟨u_4, u_5, rfl, wu_0, wu_1, wu_2, wu_3, iu_4, iu_5⟩ := cells_Region h2
  show CallW Try.prog 61 #[.agg #[.int .i64 x_0, .int .i64 x_1, .int .i64 x_2, .int .i64 x_3, .slice s_4.a s_4.len s_4.cap, .slice s_5.a s_5.len s_5.cap], .agg #[.int .i64 x_0, .int .i64 x_1, .int .i64 x_2, .int .i64 x_3, .slice u_4.a u_4.len u_4.cap, .slice u_5.a u_5.len u_5.cap]] w _
  refine go61 ?_
  unfold W61
  refine alloc_step (fun w1 e1 ha n1 => ?_)
  refine alloc_step (fun w2 e2 hb n2 => ?_)
  have ha := ha.ext e2
  have e := Only.trans e1 e2
  refine ⟨_, ha.cell 0, _, hb.cell 0, BIf.f (by simp) ?_⟩
  refine ⟨_, ha.cell 1, _, hb.cell 1, BIf.f (by simp) ?_⟩
  refine ⟨_, ha.cell 2, _, hb.cell 2, BIf.f (by simp) ?_⟩
  refine ⟨_, ha.cell 3, _, hb.cell 3, BIf.f (by simp) ?_⟩
  refine ⟨s_4, ha.cell 4, u_4, hb.cell 4, (c56 t_4 (IsD.ext e _ _ is_4) (IsD.ext e _ _ iu_4)).mono ?_⟩
  rintro _ w3 ⟨rfl, e3⟩
  have ha := ha.ext e3
  have hb := hb.ext e3
  have e := Only.trans e e3
  refine ⟨true, rfl, BIf.f rfl ?_⟩
  refine ⟨s_5, ha.cell 5, u_5, hb.cell 5, (c58 t_5 (IsD.ext e _ _ is_5) (IsD.ext e _ _ iu_5)).mono ?_⟩
  rintro _ w4 ⟨rfl, e4⟩
  have ha := ha.ext e4
  have hb := hb.ext e4
  have e := Only.trans e e4
  refine ⟨true, rfl, BIf.f rfl ?_⟩
  exact ⟨rfl, e⟩

/- eqRegionS -/
theorem c57 {l : List Dat} {a0 a1 : Sl} {w : World} (ht : ∀ e, e ∈ l → Has TyRegion e) (h : IsD w (.sl 6 l) [.slice a0.a a0.len a0.cap]) (h2 : IsD w (.sl 6 l) [.slice a1.a a1.len a1.cap]) : CallW Try.prog 57 #[.slice a0.a a0.len a0.cap, .slice a1.a a1.len a1.cap] w (fun v w' => v = .bool true ∧ Ext w w') := by
  refine go57 ?_
  unfold W57
  obtain ⟨hlen, hmax, hel⟩ := isD_sl h
  obtain ⟨hlen2, _, hel2⟩ := isD_sl h2
  have hmx : maxLen = 9223372036854775807 := rfl
  rw [hlen, hlen2]
  refine BIf.f (by simp) ?_
  refine LoopW.m1 (fun (i : Int) w' => ∃ k : Nat, i = k ∧ k ≤ l.length ∧ Ext w w') (fun (i : Int) _ => (l.length - i).toNat) ⟨0, rfl, by omega, Only.refl _ _⟩ ?_
  rintro (i : Int) w4 ⟨k, rfl, hk, e4⟩ J hJ
  refine BIf.dec (fun hlt => ?_) (fun hge => ⟨rfl, e4⟩)
  obtain ⟨d, hd⟩ : ∃ d, l[k]? = some d := ⟨_, List.getElem?_eq_getElem (by omega)⟩
  have e4 := Only.trans e4 (ext_drew w4)
  obtain ⟨p, es, hp, he, hc, his⟩ := isD_at (IsD.ext e4 _ _ h) hd
  obtain ⟨p2, es2, hp2, he2, hc2, his2⟩ := isD_at (IsD.ext e4 _ _ h2) hd
  have ht0 := ht d (mem_get hd)
  have ht1 := ht0
  obtain ⟨x_0, x_1, x_2, x_3, l_4, l_5, rfl, t_4, t_5⟩ := has_Region ht1
  have his0 := his
  have his20 := his2
  obtain ⟨s_4, s_5, rfl, ws_0, ws_1, ws_2, ws_3, is_4, is_5⟩ := cells_Region his
  obtain ⟨u_4, u_5, rfl, wu_0, wu_1, wu_2, wu_3, iu_4, iu_5⟩ := cells_Region his2
  refine ⟨by omega, by omega, p, hp, _, hc 0 _ rfl, _, hc 1 _ rfl, _, hc 2 _ rfl, _, hc 3 _ rfl, s_4, hc 4 _ rfl, s_5, hc 5 _ rfl, by omega, by omega, p2, hp2, _, hc2 0 _ rfl, _, hc2 1 _ rfl, _, hc2 2 _ rfl, _, hc2 3 _ rfl, u_4, hc2 4 _ rfl, u_5, hc2 5 _ rfl, (c61 (cs1 := [.int .i64 x_0, .int .i64 x_1, .int .i64 x_2, .int .i64 x_3, .slice s_4.a s_4.len s_4.cap, .slice s_5.a s_5.len s_5.cap]) (cs2 := [.int .i64 x_0, .int .i64 x_1, .int .i64 x_2, .int .i64 x_3, .slice u_4.a u_4.len u_4.cap, .slice u_5.a u_5.len u_5.cap]) ht0 his0 his20).mono ?_⟩
  rintro _ w9 ⟨rfl, e9⟩
  refine ⟨true, rfl, BIf.f rfl ?_⟩
  rw [w64 (by omega) (by omega)]
  exact hJ _ _ ⟨k + 1, by omega, by omega, Only.trans e4 e9⟩ (by omega)

/- eqSpace -/
theorem c47 {d : Dat} {cs1 cs2 : List Value} {w : World} (ht : Has TySpace d) (h : IsD w d cs1) (h2 : IsD w d cs2) : CallW Try.prog 47 #[.agg ⟨cs1⟩, .agg ⟨cs2⟩] w (fun v w' => v = .bool true ∧ Ext w w') := by
  obtain ⟨x_0, l_1, rfl, t_1⟩ := has_Space ht
  obtain ⟨s_1, rfl, ws_0, is_1⟩ := cells_Space h
  obtain ⟨u_1, rfl, wu_0, iu_1⟩ := cells_Space h2
  show CallW Try.prog 47 #[.agg #[.int .i64 x_0, .slice s_1.a s_1.len s_1.cap], .agg #[.int .i64 x_0, .slice u_1.a u_1.len u_1.cap]] w _
  refine go47 ?_
  unfold W47
  refine alloc_step (fun w1 e1 ha n1 => ?_)
  refine alloc_step (fun w2 e2 hb n2 => ?_)
  have ha := ha.ext e2
  have e := Only.trans e1 e2
  refine ⟨_, ha.cell 0, _, hb.cell 0, BIf.f (by simp) ?_⟩
  refine ⟨s_1, ha.cell 1, u_1, hb.cell 1, (c57 t_1 (IsD.ext e _ _ is_1) (IsD.ext e _ _ iu_1)).mono ?_⟩
  rintro _ w3 ⟨rfl, e3⟩
  have ha := ha.ext e3
  have hb := hb.ext e3
  have e := Only.trans e e3
  refine ⟨true, rfl, BIf.f rfl ?_⟩
  exact ⟨rfl, e⟩

/- eqSpaceS -/
theorem c32 {l : List Dat} {a0 a1 : Sl} {w : World} (ht : ∀ e, e ∈ l → Has TySpace e) (h : IsD w (.sl 2 l) [.slice a0.a a0.len a0.cap]) (h2 : IsD w (.sl 2 l) [.slice a1.a a1.len a1.cap]) : CallW Try.prog 32 #[.slice a0.a a0.len a0.cap, .slice a1.a a1.len a1.cap] w (fun v w' => v = .bool true ∧ Ext w w') := by
  refine go32 ?_
  unfold W32
  obtain ⟨hlen, hmax, hel⟩ := isD_sl h
  obtain ⟨hlen2, _, hel2⟩ := isD_sl h2
  have hmx : maxLen = 9223372036854775807 := rfl
  rw [hlen, hlen2]
  refine BIf.f (by simp) ?_
  refine LoopW.m1 (fun (i : Int) w' => ∃ k : Nat, i = k ∧ k ≤ l.length ∧ Ext w w') (fun (i : Int) _ => (l.length - i).toNat) ⟨0, rfl, by omega, Only.refl _ _⟩ ?_
  rintro (i : Int) w4 ⟨k, rfl, hk, e4⟩ J hJ
  refine BIf.dec (fun hlt => ?_) (fun hge => ⟨rfl, e4⟩)
  obtain ⟨d, hd⟩ : ∃ d, l[k]? = some d := ⟨_, List.getElem?_eq_getElem (by omega)⟩
  have e4 := Only.trans e4 (ext_drew w4)
  obtain ⟨p, es, hp, he, hc, his⟩ := isD_at (IsD.ext e4 _ _ h) hd
  obtain ⟨p2, es2, hp2, he2, hc2, his2⟩ := isD_at (IsD.ext e4 _ _ h2) hd
  have ht0 := ht d (mem_get hd)
  have ht1 := ht0
  obtain ⟨x_0, l_1, rfl, t_1⟩ := has_Space ht1
  have his0 := his
  have his20 := his2
  obtain ⟨s_1, rfl, ws_0, is_1⟩ := cells_Space his
  obtain ⟨u_1, rfl, wu_0, iu_1⟩ := cells_Space his2
  refine ⟨by omega, by omega, p, hp, _, hc 0 _ rfl, s_1, hc 1 _ rfl, by omega, by omega, p2, hp2, _, hc2 0 _ rfl, u_1, hc2 1 _ rfl, (c47 (cs1 := [.int .i64 x_0, .slice s_1.a s_1.len s_1.cap]) (cs2 := [.int .i64 x_0, .slice u_1.a u_1.len u_1.cap]) ht0 his0 his20).mono ?_⟩
  rintro _ w9 ⟨rfl, e9⟩
  refine ⟨true, rfl, BIf.f rfl ?_⟩
  rw [w64 (by omega) (by omega)]
  exact hJ _ _ ⟨k + 1, by omega, by omega, Only.trans e4 e9⟩ (by omega)

/- eqObj -/
theorem c48 {d : Dat} {cs1 cs2 : List Value} {w : World} (ht : Has TyObj d) (h : IsD w d cs1) (h2 : IsD w d cs2) : CallW Try.prog 48 #[.agg ⟨cs1⟩, .agg ⟨cs2⟩] w (fun v w' => v = .bool true ∧ Ext w w') := by
  obtain ⟨x_0, x_1, l_2, rfl, t_2⟩ := has_Obj ht
  obtain ⟨s_2, rfl, ws_0, is_2⟩ := cells_Obj h
  obtain ⟨u_2, rfl, wu_0, iu_2⟩ := cells_Obj h2
  show CallW Try.prog 48 #[.agg #[.int .i64 x_0, .bool x_1, .slice s_2.a s_2.len s_2.cap], .agg #[.int .i64 x_0, .bool x_1, .slice u_2.a u_2.len u_2.cap]] w _
  refine go48 ?_
  unfold W48
  refine alloc_step (fun w1 e1 ha n1 => ?_)
  refine alloc_step (fun w2 e2 hb n2 => ?_)
  have ha := ha.ext e2
  have e := Only.trans e1 e2
  refine ⟨_, ha.cell 0, _, hb.cell 0, BIf.f (by simp) ?_⟩
  refine ⟨_, ha.cell 1, _, hb.cell 1, BIf.f (by simp) ?_⟩
  refine ⟨s_2, ha.cell 2, u_2, hb.cell 2, (c58 t_2 (IsD.ext e _ _ is_2) (IsD.ext e _ _ iu_2)).mono ?_⟩
  rintro _ w3 ⟨rfl, e3⟩
  have ha := ha.ext e3
  have hb := hb.ext e3
  have e := Only.trans e e3
  refine ⟨true, rfl, BIf.f rfl ?_⟩
  exact ⟨rfl, e⟩

/- eqObjS -/
theorem c33 {l : List Dat} {a0 a1 : Sl} {w : World} (ht : ∀ e, e ∈ l → Has TyObj e) (h : IsD w (.sl 3 l) [.slice a0.a a0.len a0.cap]) (h2 : IsD w (.sl 3 l) [.slice a1.a a1.len a1.cap]) : CallW Try.prog 33 #[.slice a0.a a0.len a0.cap, .slice a1.a a1.len a1.cap] w (fun v w' => v = .bool true ∧ Ext w w') := by
  refine go33 ?_
  unfold W33
  obtain ⟨hlen, hmax, hel⟩ := isD_sl h
  obtain ⟨hlen2, _, hel2⟩ := isD_sl h2
  have hmx : maxLen = 9223372036854775807 := rfl
  rw [hlen, hlen2]
  refine BIf.f (by simp) ?_
  refine LoopW.m1 (fun (i : Int) w' => ∃ k : Nat, i = k ∧ k ≤ l.length ∧ Ext w w') (fun (i : Int) _ => (l.length - i).toNat) ⟨0, rfl, by omega, Only.refl _ _⟩ ?_
  rintro (i : Int) w4 ⟨k, rfl, hk, e4⟩ J hJ
  refine BIf.dec (fun hlt => ?_) (fun hge => ⟨rfl, e4⟩)
  obtain ⟨d, hd⟩ : ∃ d, l[k]? = some d := ⟨_, List.getElem?_eq_getElem (by omega)⟩
  have e4 := Only.trans e4 (ext_drew w4)
  obtain ⟨p, es, hp, he, hc, his⟩ := isD_at (IsD.ext e4 _ _ h) hd
  obtain ⟨p2, es2, hp2, he2, hc2, his2⟩ := isD_at (IsD.ext e4 _ _ h2) hd
  have ht0 := ht d (mem_get hd)
  have ht1 := ht0
  obtain ⟨x_0, x_1, l_2, rfl, t_2⟩ := has_Obj ht1
  have his0 := his
  have his20 := his2
  obtain ⟨s_2, rfl, ws_0, is_2⟩ := cells_Obj his
  obtain ⟨u_2, rfl, wu_0, iu_2⟩ := cells_Obj his2
  refine ⟨by omega, by omega, p, hp, _, hc 0 _ rfl, _, hc 1 _ rfl, s_2, hc 2 _ rfl, by omega, by omega, p2, hp2, _, hc2 0 _ rfl, _, hc2 1 _ rfl, u_2, hc2 2 _ rfl, (c48 (cs1 := [.int .i64 x_0, .bool x_1, .slice s_2.a s_2.len s_2.cap]) (cs2 := [.int .i64 x_0, .bool x_1, .slice u_2.a u_2.len u_2.cap]) ht0 his0 his20).mono ?_⟩
  rintro _ w9 ⟨rfl, e9⟩
  refine ⟨true, rfl, BIf.f rfl ?_⟩
  rw [w64 (by omega) (by omega)]
  exact hJ _ _ ⟨k + 1, by omega, by omega, Only.trans e4 e9⟩ (by omega)

/- eqVm -/
theorem c9 {d : Dat} {cs1 cs2 : List Value} {w : World} (ht : Has TyVm d) (h : IsD w d cs1) (h2 : IsD w d cs2) : CallW Try.prog 9 #[.agg ⟨cs1⟩, .agg ⟨cs2⟩] w (fun v w' => v = .bool true ∧ Ext w w') := by
  obtain ⟨x_0, x_1, x_2, x_3, x_4, x_5, x_6, l_7, l_8, l_9, rfl, t_7, t_8, t_9⟩ := has_Vm ht
  obtain ⟨s_7, s_8, s_9, rfl, ws_0, ws_1, ws_2, ws_3, ws_4, ws_5, ws_6, is_7, is_8, is_9⟩ := cells_Vm h
  obtain ⟨u_7, u_8, u_9, rfl, wu_0, wu_1, wu_2, wu_3, wu_4, wu_5, wu_6, iu_7, iu_8, iu_9⟩ := cells_Vm h2
  show CallW Try.prog 9 #[.agg #[.int .i64 x_0, .int .i64 x_1, .int .i64 x_2, .int .i64 x_3, .int .i64 x_4, .int .i64 x_5, .int .i64 x_6, .slice s_7.a s_7.len s_7.cap, .slice s_8.a s_8.len s_8.cap, .slice s_9.a s_9.len s_9.cap], .agg #[.int .i64 x_0, .int .i64 x_1, .int .i64 x_2, .int .i64 x_3, .int .i64 x_4, .int .i64 x_5, .int .i64 x_6, .slice u_7.a u_7.len u_7.cap, .slice u_8.a u_8.len u_8.cap, .slice u_9.a u_9.len u_9.cap]] w _
  refine go9 ?_
  unfold W9
  refine alloc_step (fun w1 e1 ha n1 => ?_)
  refine alloc_step (fun w2 e2 hb n2 => ?_)
  have ha := ha.ext e2
  have e := Only.trans e1 e2
  refine ⟨_, ha.cell 0, _, hb.cell 0, BIf.f (by simp) ?_⟩
  refine ⟨_, ha.cell 1, _, hb.cell 1, BIf.f (by simp) ?_⟩
  refine ⟨_, ha.cell 2, _, hb.cell 2, BIf.f (by simp) ?_⟩
  refine ⟨_, ha.cell 3, _, hb.cell 3, BIf.f (by simp) ?_⟩
  refine ⟨_, ha.cell 4, _, hb.cell 4, BIf.f (by simp) ?_⟩
  refine ⟨_, ha.cell 5, _, hb.cell 5, BIf.f (by simp) ?_⟩
  refine ⟨_, ha.cell 6, _, hb.cell 6, BIf.f (by simp) ?_⟩
  refine ⟨s_7, ha.cell 7, u_7, hb.cell 7, (c31 t_7 (IsD.ext e _ _ is_7) (IsD.ext e _ _ iu_7)).mono ?_⟩
  rintro _ w3 ⟨rfl, e3⟩
  have ha := ha.ext e3
  have hb := hb.ext e3
  have e := Only.trans e e3
  refine ⟨true, rfl, BIf.f rfl ?_⟩
  refine ⟨s_8, ha.cell 8, u_8, hb.cell 8, (c32 t_8 (IsD.ext e _ _ is_8) (IsD.ext e _ _ iu_8)).mono ?_⟩
  rintro _ w4 ⟨rfl, e4⟩
  have ha := ha.ext e4
  have hb := hb.ext e4
  have e := Only.trans e e4
  refine ⟨true, rfl, BIf.f rfl ?_⟩
  refine ⟨s_9, ha.cell 9, u_9, hb.cell 9, (c33 t_9 (IsD.ext e _ _ is_9) (IsD.ext e _ _ iu_9)).mono ?_⟩
  rintro _ w5 ⟨rfl, e5⟩
  have ha := ha.ext e5
  have hb := hb.ext e5
  have e := Only.trans e e5
  refine ⟨true, rfl, BIf.f rfl ?_⟩
  exact ⟨rfl, e⟩

/- eqVmCount -/
theorem c12 {d : Dat} {cs1 cs2 : List Value} {w : World} (ht : Has TyVmCount d) (h : IsD w d cs1) (h2 : IsD w d cs2) : CallW Try.prog 12 #[.agg ⟨cs1⟩, .agg ⟨cs2⟩] w (fun v w' => v = .bool true ∧ Ext w w') := by
  obtain ⟨x_0, x_1, x_2, x_3, rfl⟩ := has_VmCount ht
  obtain ⟨rfl, ws_0, ws_1, ws_2, ws_3⟩ := cells_VmCount h
  obtain ⟨rfl, wu_0, wu_1, wu_2, wu_3⟩ := cells_VmCount h2
  show CallW Try.prog 12 #[.agg #[.int .i64 x_0, .int .i64 x_1, .int .i64 x_2, .int .i64 x_3], .agg #[.int .i64 x_0, .int .i64 x_1, .int .i64 x_2, .int .i64 x_3]] w _
  refine go12 ?_
  unfold W12
  refine alloc_step (fun w1 e1 ha n1 => ?_)
  refine alloc_step (fun w2 e2 hb n2 => ?_)
  have ha := ha.ext e2
  have e := Only.trans e1 e2
  refine ⟨_, ha.cell 0, _, hb.cell 0, BIf.f (by simp) ?_⟩
  refine ⟨_, ha.cell 1, _, hb.cell 1, BIf.f (by simp) ?_⟩
  refine ⟨_, ha.cell 2, _, hb.cell 2, BIf.f (by simp) ?_⟩
  refine ⟨_, ha.cell 3, _, hb.cell 3, BIf.f (by simp) ?_⟩
  exact ⟨rfl, e⟩

end Go.Proofs.Ytagjjhfhfjdcaaa

/- Pages, spaces, objects: keys of two numbers; the state in memory. Conditions: none. -/
set_option linter.unusedVariables false
set_option linter.unusedSimpArgs false
set_option maxRecDepth 100000
namespace Go.Den
open Go
theorem fit2 {xs : List Value} (h : fitL [.int .i64, .int .i64] xs = true) : ∃ a b : Int, xs = [.int .i64 a, .int .i64 b] := by
  rcases xs with _ | ⟨u, _ | ⟨v, _ | ⟨z, r⟩⟩⟩
  · cases h
  · simp only [fitL] at h; split at h <;> cases h
  · simp only [fitL] at h
    cases u <;> simp only [fitB] at h <;> first | cases h; done | skip
    rename_i k1 a
    cases v <;> simp only [fitB] at h <;> first | (split at h <;> cases h; done) | skip
    rename_i k2 b
    cases hk1 : kEq .i64 k1 <;> rw [hk1] at h <;> first | cases h; done | skip
    cases hk2 : kEq .i64 k2 <;> rw [hk2] at h <;> first | cases h; done | skip
    rw [← kEq_ok hk1, ← kEq_ok hk2]
    exact ⟨a, b, rfl⟩
  · simp only [fitL] at h
    split at h
    · split at h <;> cases h
    · cases h
theorem same_arr2 {P : Program} {t e : Nat} {i : TypeInfo} (hg : P.eqGuardType P.depth t = false) (hu : P.underlying t = some (.array 2 e)) (he : P.underlying e = some (.int .i64)) (hi : P.info? e = some i) (hc : P.cellsOf e = 1) : SameAt P t [.int .i64, .int .i64] := by
  refine ⟨hg, fun xs ys w hx hy => ?_⟩
  obtain ⟨a, b, rfl⟩ := fit2 hx
  obtain ⟨c, d, rfl⟩ := fit2 hy
  rw [equal_step]
  show (Op.equalIn (9998 + 1 + 1) t _ _).run P w = _
  rw [run_equalIn_array w (9998 + 1) _ _ hu hi, hc]
  have pk : P.plainKey e = true := by simp [Program.plainKey, he]
  have pa : ∀ (zs : Array Value) (j : Nat) (z : Value), zs[j]? = some z → (part e zs (j * 1)).run P w = .ok z w := by
    intro zs j z hz
    simp [part, isAgg, run_underlying he, hz]
  have e0 : List.range 2 = [0, 1] := rfl
  rw [e0]
  simp only [Op.eqItems, Sem.run_bind]
  rw [pa _ 0 (.int .i64 a) rfl]
  simp only [Result.andThen_ok]
  rw [pa _ 0 (.int .i64 c) rfl]
  simp only [Result.andThen_ok, run_equalIn_int w 9998 e .i64 .i64 a c he]
  cases h1 : (a == c)
  · simp [eqVs, cellB, h1]
  · simp only [Bool.not_true, Bool.false_eq_true, if_false, Sem.run_bind]
    rw [pa _ 1 (.int .i64 b) rfl]
    simp only [Result.andThen_ok]
    rw [pa _ 1 (.int .i64 d) rfl]
    simp only [Result.andThen_ok, run_equalIn_int w 9998 e .i64 .i64 b d he]
    cases h2 : (b == d) <;> simp [eqVs, cellB, h1, h2]
theorem key_arr2 {P : Program} {t e : Nat} {i : TypeInfo} (hu : P.underlying t = some (.array 2 e)) (he : P.underlying e = some (.int .i64)) (hi : P.info? e = some i) (hc : P.cellsOf e = 1) : KeyAt P t [.int .i64, .int .i64] := by
  intro xs b w hx
  obtain ⟨a, c, rfl⟩ := fit2 hx
  show (Instr.checkKey b (9998 + 1 + 1) t _).run P w = _
  have pa : ∀ (zs : Array Value) (j : Nat) (z : Value), zs[j]? = some z → (part e zs (j * 1)).run P w = .ok z w := by
    intro zs j z hz
    simp [part, isAgg, run_underlying he, hz]
  have ck : ∀ (x : Int), (Instr.checkKey b (9998 + 1) e (.int .i64 x)).run P w = .ok () w := fun x => by
    unfold Instr.checkKey
    simp only [Sem.run_bind, run_underlying he, Result.andThen]
    rfl
  unfold Instr.checkKey
  simp only [Sem.run_bind, run_underlying hu, Result.andThen]
  simp only [Std.Legacy.Range.forIn_eq_forIn_range', Std.Legacy.Range.size, Nat.sub_zero, Nat.add_one_sub_one, Nat.div_one]
  have e0 : List.range' 0 2 = [0, 1] := rfl
  simp only [e0, List.forIn_cons, List.forIn_nil, Sem.run_bind, run_sizeOf w hi, hc, Result.andThen]
  rw [pa _ 0 (.int .i64 a) rfl]
  simp only [ck]
  have p1 := pa ⟨[.int .i64 a, .int .i64 c]⟩ 1 (.int .i64 c) rfl
  rw [Nat.one_mul] at p1
  have c1 := ck c
  simp only [Nat.reduceAdd] at c1
  simp [run_sizeOf w hi, hc, p1, c1, Result.andThen]
end Go.Den
namespace Go.Proofs.Ytagjjhfhfjdcaaa
open Go Go.Den
theorem same54 : SameAt Try.prog 54 [.int .i64, .int .i64] := same_arr2 (e := 2) (by kernel_rfl) (by kernel_rfl) (by kernel_rfl) (by kernel_rfl : Try.prog.info? 2 = some Try.t2) (by kernel_rfl)
theorem key54 : KeyAt Try.prog 54 [.int .i64, .int .i64] := key_arr2 (e := 2) (by kernel_rfl) (by kernel_rfl) (by kernel_rfl : Try.prog.info? 2 = some Try.t2) (by kernel_rfl)
end Go.Proofs.Ytagjjhfhfjdcaaa

/- Pages, spaces, objects: the state in memory; small functions of both sides. Conditions: none. -/
set_option linter.unusedVariables false
set_option linter.unusedSimpArgs false
namespace Go.Den
open Go
/-- Rows of things, each of which lies in some way. -/
structure RowsAt {α : Type} (In : World → Addr → α → Prop) (w : World) (s : Sl) (z : Nat) (l : List α) : Prop where
  len : s.len = l.length
  small : l.length ≤ 1048576
  get : ∀ i x, l[i]? = some x → ∃ q, s.a = some q ∧ In w (q.add (i * z)) x
theorem RowsAt.ext {α : Type} {In : World → Addr → α → Prop} {w w' : World} {s : Sl} {z : Nat} {l : List α} (h : RowsAt In w s z l) (e : ∀ p x, In w p x → In w' p x) : RowsAt In w' s z l :=
  ⟨h.len, h.small, fun i x hx => by obtain ⟨q, h1, h2⟩ := h.get i x hx; exact ⟨q, h1, e _ _ h2⟩⟩
structure NumAt (w : World) (s : Sl) (l : List Int) : Prop where
  len : s.len = l.length
  cap : s.len ≤ s.cap
  row : RowAt w s.a s.len (l.map (Value.int .i64))
  small : l.length ≤ 1048576
theorem NumAt.ext {w w' : World} {s : Sl} {m : List Int} (h : NumAt w s m) (e : Ext w w') : NumAt w' s m := ⟨h.len, h.cap, e.row h.row, h.small⟩
theorem NumAt.get {w : World} {s : Sl} {m : List Int} (h : NumAt w s m) {i : Nat} {x : Int} (hx : m[i]? = some x) : ∃ p, s.a = some p ∧ w.cell? (p.add (i * 1)) = some (.int .i64 x) := by
  obtain ⟨p, hp, hc⟩ := h.row.cell (i := i) (v := .int .i64 x) (by simp [hx])
  exact ⟨p, hp, by rw [Nat.mul_one]; exact hc⟩
theorem take_snoc {α : Type} {l : List α} {k : Nat} {x : α} (h : l[k]? = some x) : l.take (k + 1) = l.take k ++ [x] := by
  rw [List.take_add_one, h]; rfl
theorem tmod_emod {a : Int} (h : 0 ≤ a) : Int.tmod a 256 = a % 256 := by rw [Int.tmod_eq_emod_of_nonneg h]
end Go.Den
namespace Go.Proofs.Ytagjjhfhfjdcaaa
open Go Go.Den
def PageIn (w : World) (p : Addr) (x : DVPage) : Prop := ∃ t : Sl, w.cell? (p.add 0) = some (.int .i64 x.Id) ∧ w.cell? (p.add 1) = some (.int .i64 x.Frame) ∧ w.cell? (p.add 2) = some (.int .i64 x.Slot) ∧ w.cell? (p.add 3) = some (.bool x.Used) ∧ w.cell? (p.add 4) = some (.slice t.a t.len t.cap) ∧ ByAt w t x.Data
def RegIn (w : World) (p : Addr) (x : DRegion) : Prop := ∃ tf th : Sl, w.cell? (p.add 0) = some (.int .i64 x.At) ∧ w.cell? (p.add 1) = some (.int .i64 x.Count) ∧ w.cell? (p.add 2) = some (.int .i64 x.Prot) ∧ w.cell? (p.add 3) = some (.int .i64 x.Obj) ∧ w.cell? (p.add 4) = some (.slice tf.a tf.len tf.cap) ∧ w.cell? (p.add 5) = some (.slice th.a th.len th.cap) ∧ ByAt w tf x.File ∧ NumAt w th x.Held
def SpaceIn (w : World) (p : Addr) (x : DSpace) : Prop := ∃ t : Sl, w.cell? (p.add 0) = some (.int .i64 x.Id) ∧ w.cell? (p.add 1) = some (.slice t.a t.len t.cap) ∧ RowsAt RegIn w t 6 x.Regions
def ObjIn (w : World) (p : Addr) (x : DObj) : Prop := ∃ t : Sl, w.cell? (p.add 0) = some (.int .i64 x.Id) ∧ w.cell? (p.add 1) = some (.bool x.Named) ∧ w.cell? (p.add 2) = some (.slice t.a t.len t.cap) ∧ NumAt w t x.Held
theorem PageIn.ext {w w' : World} {p : Addr} {x : DVPage} (h : PageIn w p x) (e : Ext w w') : PageIn w' p x := by
  obtain ⟨t, h0, h1, h2, h3, h4, h5⟩ := h
  exact ⟨t, e.cell h0, e.cell h1, e.cell h2, e.cell h3, e.cell h4, h5.ext e⟩
theorem RegIn.ext {w w' : World} {p : Addr} {x : DRegion} (h : RegIn w p x) (e : Ext w w') : RegIn w' p x := by
  obtain ⟨t, u, h0, h1, h2, h3, h4, h5, h6, h7⟩ := h
  exact ⟨t, u, e.cell h0, e.cell h1, e.cell h2, e.cell h3, e.cell h4, e.cell h5, h6.ext e, h7.ext e⟩
theorem SpaceIn.ext {w w' : World} {p : Addr} {x : DSpace} (h : SpaceIn w p x) (e : Ext w w') : SpaceIn w' p x := by
  obtain ⟨t, h0, h1, h2⟩ := h
  exact ⟨t, e.cell h0, e.cell h1, h2.ext fun _ _ h => h.ext e⟩
theorem ObjIn.ext {w w' : World} {p : Addr} {x : DObj} (h : ObjIn w p x) (e : Ext w w') : ObjIn w' p x := by
  obtain ⟨t, h0, h1, h2, h3⟩ := h
  exact ⟨t, e.cell h0, e.cell h1, e.cell h2, h3.ext e⟩
/-- All regions; all places, those of regions first; the places of objects. -/
def regsOf (d : DVm) : List DRegion := d.Spaces.flatMap (·.Regions)
def sharedOf (d : DVm) : List Int := d.Objs.flatMap (·.Held)
def placesOf (d : DVm) : List Int := (regsOf d).flatMap (·.Held) ++ sharedOf d
structure VmAt (w : World) (sp ss so : Sl) (d : DVm) : Prop where
  pages : RowsAt PageIn w sp 5 d.Pages
  spaces : RowsAt SpaceIn w ss 2 d.Spaces
  objs : RowsAt ObjIn w so 3 d.Objs
  regs : (regsOf d).length ≤ 1048576
  pl : (placesOf d).length ≤ 1048576
theorem VmAt.ext {w w' : World} {sp ss so : Sl} {d : DVm} (h : VmAt w sp ss so d) (e : Ext w w') : VmAt w' sp ss so d :=
  ⟨h.pages.ext fun _ _ h => h.ext e, h.spaces.ext fun _ _ h => h.ext e, h.objs.ext fun _ _ h => h.ext e, h.regs, h.pl⟩
abbrev vmV (d : DVm) (sp ss so : Sl) : List Value := [.int .i64 d.Frames, .int .i64 d.Slots, .int .i64 d.Hand, .int .i64 d.Next, .int .i64 d.Faults, .int .i64 d.Ins, .int .i64 d.Outs, .slice sp.a sp.len sp.cap, .slice ss.a ss.len ss.cap, .slice so.a so.len so.cap]
def objIx (d : DVm) (id : Int) : Int := idxFrom (fun o : DObj => o.Id == id) d.Objs 0
def protF (p : Int) : Bool := p == 1 || p == 3 || p == 5 || p == 7
structure RegOk (at_ count prot : Int) : Prop where
  c1 : 1 ≤ count
  c2 : count ≤ 32
  a0 : 0 ≤ at_
  al : at_ % 256 = 0
  top : at_ + count * 256 ≤ 4194304
  pr : protF prot = true
def KB (P : Prop) (w : World) (v : Value) (w' : World) : Prop := ∃ b, v = .bool b ∧ (b = true ↔ P) ∧ Ext w w'
theorem kb_f {P : Prop} {w w' : World} (h : ¬ P) (e : Ext w w') : KB P w (.bool false) w' := ⟨false, rfl, ⟨(fun h => by cases h), fun hp => absurd hp h⟩, e⟩
theorem kb_t {P : Prop} {w w' : World} (h : P) (e : Ext w w') : KB P w (.bool true) w' := ⟨true, rfl, ⟨fun _ => h, fun _ => rfl⟩, e⟩
theorem c24 {n : Int} {w : World} : CallW Try.prog 24 #[.int .i64 n] w (fun v w' => v = .bool (decide (n ≥ 0) && decide (n ≤ 1099511627776)) ∧ w' = w) := by
  refine go24 ?_
  unfold W24
  simp only [join_and]
  exact ⟨by trivial, by trivial⟩
theorem c17 {n : Int} {w : World} : CallW Try.prog 17 #[.int .i64 n] w (fun v w' => v = .bool (decide (n ≥ 0) && decide (n ≤ 1099511627776)) ∧ w' = w) := by
  refine go17 ?_
  unfold W17
  simp only [join_and]
  exact ⟨by trivial, by trivial⟩
theorem c25 {n m : Int} {w : World} : CallW Try.prog 25 #[.int .i64 n, .int .i64 m] w (fun v w' => v = .bool (decide (n ≥ 1) && decide (n ≤ 64) && decide (m ≥ 0) && decide (m ≤ 64)) ∧ w' = w) := by
  refine go25 ?_
  unfold W25
  simp only [join_and]
  exact ⟨by trivial, by trivial⟩
theorem c16 {n m : Int} {w : World} : CallW Try.prog 16 #[.int .i64 n, .int .i64 m] w (fun v w' => v = .bool (decide (n ≥ 1) && decide (n ≤ 64) && decide (m ≥ 0) && decide (m ≤ 64)) ∧ w' = w) := by
  refine go16 ?_
  unfold W16
  simp only [join_and]
  exact ⟨by trivial, by trivial⟩
theorem c45 {n : Int} {w : World} : CallW Try.prog 45 #[.int .i64 n] w (fun v w' => v = .bool (protF n) ∧ w' = w) := by
  refine go45 ?_
  unfold W45
  simp only [join_or]
  exact ⟨by trivial, by trivial⟩
theorem c52 {n : Int} {w : World} : CallW Try.prog 52 #[.int .i64 n] w (fun v w' => v = .bool (protF n) ∧ w' = w) := by
  refine go52 ?_
  unfold W52
  simp only [join_or]
  exact ⟨by trivial, by trivial⟩
theorem c27 {a c p : Int} {w : World} : CallW Try.prog 27 #[.int .i64 a, .int .i64 c, .int .i64 p] w (KB (RegOk a c p) w) := by
  refine go27 ?_
  unfold W27
  refine JoinW.cut1 (fun b w' => b = (decide (a ≥ 0) && (Int.tmod a 256 == 0)) ∧ w' = w) ?_ ?_
  · refine BIf.of (fun h => ⟨by omega, ?_⟩) (fun h => ?_)
    · rw [h]; exact ⟨rfl, rfl⟩
    · rw [h]; exact ⟨rfl, rfl⟩
  rintro (b : Bool) w3 ⟨hb, rfl⟩
  simp only [join_and]
  refine JoinW.cut1 (fun (b' : Bool) w' => (b' = true ↔ RegOk a c p) ∧ w' = w3) ?_ ?_
  · refine BIf.of (fun h => c45.mono ?_) (fun h => ⟨⟨(fun hh => by cases hh), fun hr => ?_⟩, rfl⟩)
    · rintro _ w' ⟨rfl, rfl⟩
      refine ⟨_, rfl, ?_, rfl⟩
      simp only [hb, Bool.and_eq_true, decide_eq_true_eq, beq_iff_eq] at h
      obtain ⟨⟨⟨⟨⟨h1, h2⟩, h3⟩, h4⟩, h5⟩, h6⟩ := h
      rw [Go.Den.w64 (n := c * 256) (by omega) (by omega), Go.Den.w64 (by omega) (by omega)] at h6
      rw [tmod_emod h1] at h2
      exact ⟨fun hp => ⟨h4, h5, h1, h2, h6, hp⟩, fun hr => hr.pr⟩
    · obtain ⟨h1, h2, h3, h4, h5, h6⟩ := hr
      rw [hb, tmod_emod h3, Go.Den.w64 (n := c * 256) (by omega) (by omega), Go.Den.w64 (by omega) (by omega)] at h
      have : (decide (a ≥ 0) && (a % 256 == 0) && decide (a ≤ 4194304) && decide (c ≥ 1) && decide (c ≤ 32) && decide (a + c * 256 ≤ 4194304)) = true := by
        simp only [Bool.and_eq_true, decide_eq_true_eq, beq_iff_eq]
        refine ⟨⟨⟨⟨⟨h3, h4⟩, ?_⟩, h1⟩, h2⟩, h5⟩
        omega
      rw [this] at h; cases h
  rintro (b' : Bool) w' ⟨h, rfl⟩
  exact ⟨b', rfl, h, Only.refl _ _⟩
theorem c39 {id : Int} {sp ss so : Sl} {d : DVm} {w : World} (hd : VmAt w sp ss so d) : CallW Try.prog 39 #[.agg ⟨vmV d sp ss so⟩, .int .i64 id] w (fun v w' => v = .int .i64 (objIx d id) ∧ Ext w w') := by
  refine go39 ?_
  unfold W39
  have h := SH.start w
  have hl := hd.objs.len
  have hf := hd.objs.small
  refine h.alloc (fun w1 h ew1 nw1 => ?_)
  refine LoopW.m1 (fun (i : Int) w' => ∃ k : Nat, i = k ∧ k ≤ d.Objs.length ∧ (∀ j y, j < k → d.Objs[j]? = some y → (y.Id == id) = false) ∧ SH w w' [aB w.heap.size ((vmV d sp ss so).map Ce.v)]) (fun (i : Int) _ => ((d.Objs.length : Int) - i).toNat) ⟨0, rfl, by omega, (fun j y hj => by omega), h⟩ ?_
  rintro (i : Int) w4 ⟨k, rfl, hk, hno, h⟩ J hJ
  refine ⟨so, h.cell 0 rfl rfl, ?_⟩
  rw [hl]
  refine BIf.dec (fun hlt => ?_) (fun hge => ?_)
  · obtain ⟨x, hx⟩ : ∃ x, d.Objs[k]? = some x := ⟨_, List.getElem?_eq_getElem (by omega)⟩
    obtain ⟨q, hq, t, hc, _⟩ := (hd.ext h.ext).objs.get k x hx
    refine ⟨so, h.cell 0 rfl rfl, by omega, by omega, q, hq, _, hc, ?_⟩
    refine BIf.eq (fun he => ?_) (fun he => ?_)
    · exact ⟨by unfold objIx; rw [idx_at hx (by simpa using he) hno], h.ext⟩
    · rw [Go.Den.w64 (by omega) (by omega)]
      refine hJ _ _ ⟨k + 1, by omega, by omega, fun j y hj hy => ?_, h⟩ (by omega)
      by_cases hjk : j = k
      · subst hjk; rw [hx] at hy; cases hy; simpa using he
      · exact hno j y (by omega) hy
  · refine ⟨by unfold objIx; rw [idx_no (fun j y hy => hno j y (by have := (List.getElem?_eq_some_iff.1 hy).1; omega) hy)], h.ext⟩
theorem c41 {s : Sl} {l : List Int} {x : Int} {w : World} (hs : NumAt w s l) : CallW Try.prog 41 #[.slice s.a s.len s.cap, .int .i64 x] w (fun v w' => v = .int .i64 (l.count x : Nat) ∧ w' = w) := by
  refine go41 ?_
  unfold W41
  have hl := hs.len
  have hf := hs.small
  refine LoopW.m2 (fun (n i : Int) w' => ∃ k : Nat, i = k ∧ k ≤ l.length ∧ n = ((l.take k).count x : Nat) ∧ w' = w) (fun (n i : Int) _ => ((l.length : Int) - i).toNat) ⟨0, rfl, by omega, by simp, rfl⟩ ?_
  rintro (n : Int) (i : Int) _ ⟨k, rfl, hk, rfl, rfl⟩ J hJ
  have hcl : (l.take k).count x ≤ (l.take k).length := List.count_le_length
  rw [List.length_take] at hcl
  dsimp only
  rw [hl]
  refine BIf.dec (fun hlt => ?_) (fun hge => ?_)
  · obtain ⟨y, hy⟩ : ∃ y, l[k]? = some y := ⟨_, List.getElem?_eq_getElem (by omega)⟩
    obtain ⟨q, hq, hc⟩ := hs.get hy
    refine ⟨by omega, by omega, q, hq, _, hc, ?_⟩
    have ht := take_snoc hy
    have hw : IntKind.wrap .i64 ((k : Int) + 1) = (k : Int) + 1 := Go.Den.w64 (by omega) (by omega)
    refine BIf.eq (fun he => ?_) (fun he => ?_)
    · rw [hw, Go.Den.w64 (by omega) (by omega)]
      refine hJ _ _ _ ⟨k + 1, by omega, by omega, ?_, rfl⟩ (by omega)
      rw [ht, List.count_append, he]; simp
    · rw [hw]
      refine hJ _ _ _ ⟨k + 1, by omega, by omega, ?_, rfl⟩ (by omega)
      rw [ht, List.count_append]; simp [he]
  · have : l.take k = l := List.take_of_length_le (by omega)
    rw [this]
    exact ⟨rfl, rfl⟩
end Go.Proofs.Ytagjjhfhfjdcaaa

/- Pages, spaces, objects: regions, uses, places, the reference's side. Conditions: none. -/
set_option linter.unusedVariables false
set_option linter.unusedSimpArgs false
namespace Go.Den
open Go
theorem fm_snoc {α β : Type} {l : List α} {k : Nat} {x : α} (f : α → List β) (h : l[k]? = some x) : (l.take (k + 1)).flatMap f = (l.take k).flatMap f ++ f x := by
  rw [take_snoc h, List.flatMap_append]; simp
theorem fm_le {α β : Type} (l : List α) (k : Nat) (f : α → List β) : ((l.take k).flatMap f).length ≤ (l.flatMap f).length := by
  have : l.flatMap f = (l.take k).flatMap f ++ (l.drop k).flatMap f := by rw [← List.flatMap_append, List.take_append_drop]
  rw [this, List.length_append]; omega
theorem cp_le {α : Type} (p : α → Bool) (l : List α) : l.countP p ≤ l.length := List.countP_le_length
end Go.Den
namespace Go.Proofs.Ytagjjhfhfjdcaaa
open Go Go.Den
theorem c38 {r : DRegion} {tf th : Sl} {w : World} (hf : tf.len = r.File.length) : CallW Try.prog 38 #[.agg ⟨[.int .i64 r.At, .int .i64 r.Count, .int .i64 r.Prot, .int .i64 r.Obj, .slice tf.a tf.len tf.cap, .slice th.a th.len th.cap]⟩] w (KB (RegOk r.At r.Count r.Prot ∧ (r.File.length : Int) ≤ r.Count * 256) w) := by
  refine go38 ?_
  unfold W38
  have h := SH.start w
  refine h.alloc (fun w1 h ew1 nw1 => ?_)
  refine ⟨_, h.cell 0 rfl rfl, ?_⟩
  refine JoinW.cut1 (fun (b : Bool) w' => b = (decide (r.Count < 1) || decide (r.Count > 32)) ∧ w' = w1) ?_ ?_
  · refine BIf.of (fun hb => ⟨by rw [hb]; rfl, rfl⟩) (fun hb => ⟨_, h.cell 0 rfl rfl, by rw [hb]; rfl, rfl⟩)
  rintro (b : Bool) w5 ⟨hb, rfl⟩
  refine JoinW.cut1 (fun (b' : Bool) w' => b' = (b || decide (r.At < 0)) ∧ w' = w5) ?_ ?_
  · refine BIf.of (fun hb => ⟨by rw [hb]; rfl, rfl⟩) (fun hb => ⟨_, h.cell 0 rfl rfl, by rw [hb]; rfl, rfl⟩)
  rintro (b2 : Bool) w5 ⟨hb2, rfl⟩
  refine JoinW.cut1 (fun (b' : Bool) w' => b' = (b2 || (Int.tmod r.At 256 != 0)) ∧ w' = w5) ?_ ?_
  · refine BIf.of (fun hb => ⟨by rw [hb]; rfl, rfl⟩) (fun hb => ⟨_, h.cell 0 rfl rfl, by omega, by rw [hb]; rfl, rfl⟩)
  rintro (b3 : Bool) w5 ⟨hb3, rfl⟩
  refine JoinW.cut1 (fun (b' : Bool) w' => b' = (b3 || decide (r.At > IntKind.wrap .i64 (4194304 - IntKind.wrap .i64 (r.Count * 256)))) ∧ w' = w5) ?_ ?_
  · refine BIf.of (fun hb => ⟨by rw [hb]; rfl, rfl⟩) (fun hb => ⟨_, h.cell 0 rfl rfl, _, h.cell 0 rfl rfl, by rw [hb]; rfl, rfl⟩)
  rintro (b4 : Bool) w5 ⟨hb4, rfl⟩
  have key : b4 = false ↔ 1 ≤ r.Count ∧ r.Count ≤ 32 ∧ 0 ≤ r.At ∧ r.At % 256 = 0 ∧ r.At + r.Count * 256 ≤ 4194304 := by
    rw [hb4, hb3, hb2, hb]
    constructor
    · intro hh
      simp only [Bool.or_eq_false_iff, decide_eq_false_iff_not, bne_eq_false_iff_eq] at hh
      obtain ⟨⟨⟨⟨h1, h2⟩, h3⟩, h4⟩, h5⟩ := hh
      rw [tmod_emod (by omega)] at h4
      rw [Go.Den.w64 (n := r.Count * 256) (by omega) (by omega), Go.Den.w64 (by omega) (by omega)] at h5
      exact ⟨by omega, by omega, by omega, h4, by omega⟩
    · rintro ⟨h1, h2, h3, h4, h5⟩
      rw [tmod_emod h3, Go.Den.w64 (n := r.Count * 256) (by omega) (by omega), Go.Den.w64 (by omega) (by omega)]
      simp only [Bool.or_eq_false_iff, decide_eq_false_iff_not, bne_eq_false_iff_eq]
      exact ⟨⟨⟨⟨by omega, by omega⟩, by omega⟩, h4⟩, by omega⟩
  refine JoinW.cut1 (fun (b' : Bool) w' => (b' = false ↔ RegOk r.At r.Count r.Prot) ∧ w' = w5) ?_ ?_
  · refine BIf.of (fun hb => ⟨⟨(fun hh => by cases hh), fun hh => ?_⟩, rfl⟩) (fun hb => ⟨_, h.cell 0 rfl rfl, c52.mono ?_⟩)
    · rw [key.2 ⟨hh.c1, hh.c2, hh.a0, hh.al, hh.top⟩] at hb; cases hb
    · rintro _ w' ⟨rfl, rfl⟩
      obtain ⟨g1, g2, g3, g4, g5⟩ := key.1 hb
      refine ⟨_, rfl, ⟨fun hh => ⟨g1, g2, g3, g4, g5, by simpa using hh⟩, fun hh => by rw [hh.pr]; rfl⟩, rfl⟩
  rintro (b5 : Bool) w6 ⟨hb5, rfl⟩
  refine BIf.of (fun hb => kb_f (fun hh => ?_) h.ext) (fun hb => ?_)
  · rw [hb5.2 hh.1] at hb; cases hb
  have hr5 := hb5.1 hb
  have := hr5.c1
  have := hr5.c2
  refine ⟨tf, h.cell 0 rfl rfl, _, h.cell 0 rfl rfl, _, rfl, ?_, h.ext⟩
  rw [hf, Go.Den.w64 (by omega) (by omega), decide_eq_true_eq]
  exact ⟨fun hh => ⟨hr5, hh⟩, fun hh => hh.2⟩
def usesN (d : DVm) (id : Int) : Nat := (regsOf d).countP (fun r => r.Obj == id)
theorem c40 {id : Int} {sp ss so : Sl} {d : DVm} {w : World} (hd : VmAt w sp ss so d) : CallW Try.prog 40 #[.agg ⟨vmV d sp ss so⟩, .int .i64 id] w (fun v w' => v = .int .i64 (usesN d id : Nat) ∧ Ext w w') := by
  refine go40 ?_
  unfold W40
  have h := SH.start w
  have hl := hd.spaces.len
  have hf := hd.spaces.small
  have hrg := hd.regs
  refine h.alloc (fun w1 h ew1 nw1 => ?_)
  refine LoopW.m2 (fun (n i : Int) w' => ∃ k : Nat, i = k ∧ k ≤ d.Spaces.length ∧ n = (((d.Spaces.take k).flatMap (·.Regions)).countP (fun r => r.Obj == id) : Nat) ∧ SH w w' [aB w.heap.size ((vmV d sp ss so).map Ce.v)]) (fun (n i : Int) _ => ((d.Spaces.length : Int) - i).toNat) ⟨0, rfl, by omega, by simp, h⟩ ?_
  rintro (n : Int) (i : Int) w5 ⟨k, rfl, hk, rfl, h⟩ J hJ
  refine ⟨ss, h.cell 0 rfl rfl, ?_⟩
  dsimp only
  rw [hl]
  refine BIf.dec (fun hlt => ?_) (fun hge => ?_)
  · obtain ⟨x, hx⟩ : ∃ x, d.Spaces[k]? = some x := ⟨_, List.getElem?_eq_getElem (by omega)⟩
    have hk1 : IntKind.wrap .i64 ((k : Int) + 1) = (k : Int) + 1 := Go.Den.w64 (by omega) (by omega)
    have hs1 := fm_snoc (·.Regions) hx
    have hle := fm_le d.Spaces (k + 1) (·.Regions)
    have hrg' : (d.Spaces.flatMap (·.Regions)).length ≤ 1048576 := hrg
    rw [hs1, List.length_append] at hle
    have hcp := cp_le (fun r : DRegion => r.Obj == id) ((d.Spaces.take k).flatMap (·.Regions))
    refine LoopW.m2 (fun (n j : Int) w' => ∃ m : Nat, j = m ∧ m ≤ x.Regions.length ∧ n = (((d.Spaces.take k).flatMap (·.Regions)).countP (fun r => r.Obj == id) + (x.Regions.take m).countP (fun r => r.Obj == id) : Nat) ∧ SH w w' [aB w.heap.size ((vmV d sp ss so).map Ce.v)]) (fun (n j : Int) _ => ((x.Regions.length : Int) - j).toNat) ⟨0, rfl, by omega, by simp, h⟩ ?_
    rintro (n : Int) (j : Int) w10 ⟨m, rfl, hm, rfl, h⟩ J2 hJ2
    obtain ⟨q, hq, t, hc0, hc1, hrs⟩ := (hd.ext h.ext).spaces.get k x hx
    refine ⟨ss, h.cell 0 rfl rfl, by omega, by rw [hl]; omega, q, hq, t, hc1, ?_⟩
    rw [hrs.len]
    refine BIf.dec (fun hlt2 => ?_) (fun hge2 => ?_)
    · obtain ⟨y, hy⟩ : ∃ y, x.Regions[m]? = some y := ⟨_, List.getElem?_eq_getElem (by omega)⟩
      obtain ⟨q2, hq2, tf, th, g0, g1, g2, g3, _⟩ := hrs.get m y hy
      have hcp2 := cp_le (fun r : DRegion => r.Obj == id) (x.Regions.take m)
      rw [List.length_take] at hcp2
      refine ⟨ss, h.cell 0 rfl rfl, by omega, by rw [hl]; omega, q, hq, t, hc1, by omega, by rw [hrs.len]; omega, q2, hq2, _, g3, ?_⟩
      have hm1 : IntKind.wrap .i64 ((m : Int) + 1) = (m : Int) + 1 := Go.Den.w64 (by omega) (by omega)
      have hts := take_snoc hy
      refine BIf.eq (fun he => ?_) (fun he => ?_)
      · rw [hm1, Go.Den.w64 (by omega) (by omega)]
        refine hJ2 _ _ _ ⟨m + 1, by omega, by omega, ?_, h⟩ (by omega)
        rw [hts, List.countP_append]; simp [he]; omega
      · rw [hm1]
        refine hJ2 _ _ _ ⟨m + 1, by omega, by omega, ?_, h⟩ (by omega)
        rw [hts, List.countP_append]; simp [he]
    · rw [hk1]
      refine hJ _ _ _ ⟨k + 1, by omega, by omega, ?_, h⟩ (by omega)
      have hm' : x.Regions.take m = x.Regions := List.take_of_length_le (by omega)
      rw [hs1, List.countP_append, hm']
  · have : d.Spaces.take k = d.Spaces := List.take_of_length_le (by omega)
    rw [this]
    exact ⟨rfl, h.ext⟩
theorem usesN_pos {d : DVm} {id : Int} : usesN d id = 0 ↔ ¬ ∃ r, r ∈ regsOf d ∧ r.Obj = id := by
  unfold usesN
  rw [List.countP_eq_zero]
  simp only [beq_iff_eq, not_exists, not_and]
def heldR (l : List DRegion) : List Int := l.flatMap (·.Held)
theorem c34 {sp ss so : Sl} {d : DVm} {w : World} (hd : VmAt w sp ss so d) : CallW Try.prog 34 #[.agg ⟨vmV d sp ss so⟩] w (fun v w' => ∃ t : Sl, v = .slice t.a t.len t.cap ∧ SH w w' [aRow t 1 (nums .i64 (placesOf d))]) := by
  refine go34 ?_
  unfold W34
  have h := SH.start w
  have hl := hd.spaces.len
  have hf := hd.spaces.small
  have hrg := hd.regs
  have hpl := hd.pl
  have hple : (heldR (regsOf d)).length + (sharedOf d).length ≤ 1048576 := by rw [← List.length_append]; exact hpl
  refine h.alloc (fun w1 h ew1 nw1 => ?_)
  refine h.alloc (fun w2 h ew2 nw2 => ?_)
  have h := SH.toRow (z := 1) (n := 0) (ys := []) h rfl rfl (fun u hu => by cases hu)
  have e2 : ∀ k x, d.Spaces[k]? = some x → heldR ((d.Spaces.take (k + 1)).flatMap (·.Regions)) = heldR ((d.Spaces.take k).flatMap (·.Regions)) ++ heldR x.Regions := fun k x hx => by
    rw [fm_snoc (·.Regions) hx]; unfold heldR; rw [List.flatMap_append]
  have e3 : ∀ k, (heldR ((d.Spaces.take k).flatMap (·.Regions))).length ≤ (heldR (regsOf d)).length := fun k => by
    have : regsOf d = (d.Spaces.take k).flatMap (·.Regions) ++ (d.Spaces.drop k).flatMap (·.Regions) := by unfold regsOf; rw [← List.flatMap_append, List.take_append_drop]
    rw [this]; unfold heldR; rw [List.flatMap_append, List.length_append]; omega
  refine LoopW.m2 (fun (s : Sl) (i : Int) w' => ∃ k : Nat, i = k ∧ k ≤ d.Spaces.length ∧ SH w w' [aRow s 1 (nums .i64 (heldR ((d.Spaces.take k).flatMap (·.Regions)))), aB w.heap.size ((vmV d sp ss so).map Ce.v)]) (fun (n : Sl) (i : Int) _ => ((d.Spaces.length : Int) - i).toNat) ⟨0, rfl, by omega, by simpa [heldR, nums] using h⟩ ?_
  rintro (s : Sl) (i : Int) w6 ⟨k, rfl, hk, h⟩ J hJ
  refine ⟨ss, h.cell 1 rfl rfl, ?_⟩
  dsimp only
  rw [hl]
  refine BIf.dec (fun hlt => ?_) (fun hge => ?_)
  · obtain ⟨x, hx⟩ : ∃ x, d.Spaces[k]? = some x := ⟨_, List.getElem?_eq_getElem (by omega)⟩
    have hk1 : IntKind.wrap .i64 ((k : Int) + 1) = (k : Int) + 1 := Go.Den.w64 (by omega) (by omega)
    have b1 := e3 (k + 1)
    rw [e2 k x hx, List.length_append] at b1
    refine LoopW.m2 (fun (s : Sl) (j : Int) w' => ∃ m : Nat, j = m ∧ m ≤ x.Regions.length ∧ SH w w' [aRow s 1 (nums .i64 (heldR ((d.Spaces.take k).flatMap (·.Regions)) ++ heldR (x.Regions.take m))), aB w.heap.size ((vmV d sp ss so).map Ce.v)]) (fun (n : Sl) (j : Int) _ => ((x.Regions.length : Int) - j).toNat) ⟨0, rfl, by omega, by simpa [heldR] using h⟩ ?_
    rintro (s : Sl) (j : Int) w10 ⟨m, rfl, hm, h⟩ J2 hJ2
    obtain ⟨q, hq, t, hc0, hc1, hrs⟩ := (hd.ext h.ext).spaces.get k x hx
    have hrss := hrs.small
    refine ⟨ss, h.cell 1 rfl rfl, by omega, by rw [hl]; omega, q, hq, t, hc1, ?_⟩
    rw [hrs.len]
    refine BIf.dec (fun hlt2 => ?_) (fun hge2 => ?_)
    · obtain ⟨y, hy⟩ : ∃ y, x.Regions[m]? = some y := ⟨_, List.getElem?_eq_getElem (by omega)⟩
      obtain ⟨q2, hq2, tf, th, g0, g1, g2, g3, g4, g5, _, hn⟩ := hrs.get m y hy
      refine ⟨ss, h.cell 1 rfl rfl, by omega, by rw [hl]; omega, q, hq, t, hc1, by omega, by rw [hrs.len]; omega, q2, hq2, th, g5, ?_⟩
      have hm1 : IntKind.wrap .i64 ((m : Int) + 1) = (m : Int) + 1 := Go.Den.w64 (by omega) (by omega)
      have hts : heldR (x.Regions.take (m + 1)) = heldR (x.Regions.take m) ++ y.Held := fm_snoc (fun r : DRegion => r.Held) hy
      have b2 : (heldR (x.Regions.take (m + 1))).length ≤ (heldR x.Regions).length := fm_le x.Regions (m + 1) (·.Held)
      rw [hts, List.length_append] at b2
      refine SH.appendN h hn.row rfl rfl (by decide) (by show (_ + _) * 8 ≤ _; rw [List.length_append]; omega) (fun s' w21 h hsl hsz => ?_)
      rw [hm1]
      refine hJ2 _ _ _ ⟨m + 1, by omega, by omega, ?_⟩ (by omega)
      rw [hts, ← List.append_assoc]; exact h
    · rw [hk1]
      refine hJ _ _ _ ⟨k + 1, by omega, by omega, ?_⟩ (by omega)
      rw [e2 k x hx]
      have hm' : x.Regions.take m = x.Regions := List.take_of_length_le (by omega)
      rw [hm'] at h
      exact h
  · have : d.Spaces.take k = d.Spaces := List.take_of_length_le (by omega)
    rw [this] at h
    have hol := hd.objs.len
    have hos := hd.objs.small
    refine LoopW.m2 (fun (s : Sl) (j : Int) w' => ∃ m : Nat, j = m ∧ m ≤ d.Objs.length ∧ SH w w' [aRow s 1 (nums .i64 (heldR (regsOf d) ++ (d.Objs.take m).flatMap (·.Held))), aB w.heap.size ((vmV d sp ss so).map Ce.v)]) (fun (n : Sl) (j : Int) _ => ((d.Objs.length : Int) - j).toNat) ⟨0, rfl, by omega, by simpa [regsOf] using h⟩ ?_
    rintro (s : Sl) (j : Int) w10 ⟨m, rfl, hm, h⟩ J2 hJ2
    refine ⟨so, h.cell 1 rfl rfl, ?_⟩
    rw [hol]
    refine BIf.dec (fun hlt2 => ?_) (fun hge2 => ?_)
    · obtain ⟨y, hy⟩ : ∃ y, d.Objs[m]? = some y := ⟨_, List.getElem?_eq_getElem (by omega)⟩
      obtain ⟨q2, hq2, th, g0, g1, g2, hn⟩ := (hd.ext h.ext).objs.get m y hy
      refine ⟨so, h.cell 1 rfl rfl, by omega, by rw [hol]; omega, q2, hq2, th, g2, ?_⟩
      have hm1 : IntKind.wrap .i64 ((m : Int) + 1) = (m : Int) + 1 := Go.Den.w64 (by omega) (by omega)
      have hts : (d.Objs.take (m + 1)).flatMap (·.Held) = (d.Objs.take m).flatMap (·.Held) ++ y.Held := fm_snoc (fun r : DObj => r.Held) hy
      have b2 : ((d.Objs.take (m + 1)).flatMap (·.Held)).length ≤ (sharedOf d).length := fm_le d.Objs (m + 1) (·.Held)
      rw [hts, List.length_append] at b2
      refine SH.appendN h hn.row rfl rfl (by decide) (by show (_ + _) * 8 ≤ _; rw [List.length_append]; omega) (fun s' w21 h hsl hsz => ?_)
      rw [hm1]
      refine hJ2 _ _ _ ⟨m + 1, by omega, by omega, ?_⟩ (by omega)
      rw [hts, ← List.append_assoc]; exact h
    · have hm' : d.Objs.take m = d.Objs := List.take_of_length_le (by omega)
      rw [hm'] at h
      exact ⟨s, rfl, h.take 1⟩
end Go.Proofs.Ytagjjhfhfjdcaaa

/- Pages, spaces, objects: when spaces and objects can be, the reference's side. Conditions: none. -/
set_option linter.unusedVariables false
set_option linter.unusedSimpArgs false
namespace Go.Proofs.Ytagjjhfhfjdcaaa
open Go Go.Den
def finAt (l : List DRegion) : Nat → Int
  | 0 => 0
  | k + 1 => match l[k]? with | some r => r.At + r.Count * 256 | none => 0
theorem finAt_succ {l : List DRegion} {k : Nat} {r : DRegion} (h : l[k]? = some r) : finAt l (k + 1) = r.At + r.Count * 256 := by
  simp only [finAt, h]
structure ShOk (d : DVm) (r : DRegion) (k : Nat) (o : DObj) : Prop where
  ix : objIx d r.Obj = k
  at_ : d.Objs[k]? = some o
  len : (o.Held.length : Int) = r.Count
  file : r.File = []
  held : r.Held = []
structure RgOk (d : DVm) (fin : Int) (r : DRegion) : Prop where
  reg : RegOk r.At r.Count r.Prot
  file : (r.File.length : Int) ≤ r.Count * 256
  past : fin ≤ r.At
  own : r.Obj = -1 → (r.Held.length : Int) = r.Count
  sh : r.Obj ≠ -1 → ∃ k o, ShOk d r k o
structure SpOk (d : DVm) (i : Nat) (s : DSpace) : Prop where
  id0 : 0 ≤ s.Id
  id1 : s.Id < 16
  sorted : ∀ z, 0 < i → d.Spaces[i - 1]? = some z → z.Id < s.Id
  few : s.Regions.length ≤ 8
  regs : ∀ k r, s.Regions[k]? = some r → RgOk d (finAt s.Regions k) r
structure ObOk (d : DVm) (i : Nat) (o : DObj) : Prop where
  id0 : 0 ≤ o.Id
  id1 : o.Id < 16
  sorted : ∀ z, 0 < i → d.Objs[i - 1]? = some z → z.Id < o.Id
  h1 : 1 ≤ o.Held.length
  h32 : o.Held.length ≤ 32
  used : o.Named = true ∨ ∃ r, r ∈ regsOf d ∧ r.Obj = o.Id
def SpsOk (d : DVm) : Prop := d.Spaces.length ≤ 16 ∧ ∀ i s, d.Spaces[i]? = some s → SpOk d i s
def ObsOk (d : DVm) : Prop := d.Objs.length ≤ 16 ∧ ∀ i s, d.Objs[i]? = some s → ObOk d i s
theorem obj_get {d : DVm} {id : Int} (h : 0 ≤ objIx d id) : ∃ (k : Nat) (o : DObj), objIx d id = k ∧ d.Objs[k]? = some o ∧ o.Id = id := by
  rcases idx_cases (fun o : DObj => o.Id == id) d.Objs with ⟨h1, _⟩ | ⟨k, x, h1, h2, h3, _⟩
  · unfold objIx at h; omega
  · exact ⟨k, x, h1, h2, by simpa using h3⟩
theorem c18 {sp ss so : Sl} {d : DVm} {w : World} (hd : VmAt w sp ss so d) : CallW Try.prog 18 #[.agg ⟨vmV d sp ss so⟩] w (KB (SpsOk d) w) := by
  refine go18 ?_
  unfold W18
  have h := SH.start w
  have hl := hd.spaces.len
  have hf := hd.spaces.small
  refine h.alloc (fun w1 h ew1 nw1 => ?_)
  refine ⟨ss, h.cell 0 rfl rfl, ?_⟩
  rw [hl]
  refine BIf.dec (fun hgt => kb_f (fun hh => by have := hh.1; omega) h.ext) (fun hgt => ?_)
  refine LoopW.m1 (fun (i : Int) w' => ∃ k : Nat, i = k ∧ k ≤ d.Spaces.length ∧ (∀ j s, j < k → d.Spaces[j]? = some s → SpOk d j s) ∧ SH w w' [aB w.heap.size ((vmV d sp ss so).map Ce.v)]) (fun (i : Int) _ => ((d.Spaces.length : Int) - i).toNat) ⟨0, rfl, by omega, (fun j s hj => by omega), h⟩ ?_
  rintro (i : Int) w5 ⟨k, rfl, hk, hok, h⟩ J hJ
  refine ⟨ss, h.cell 0 rfl rfl, ?_⟩
  rw [hl]
  refine BIf.dec (fun hlt => ?_) (fun hge => ?_)
  · obtain ⟨x, hx⟩ : ∃ x, d.Spaces[k]? = some x := ⟨_, List.getElem?_eq_getElem (by omega)⟩
    obtain ⟨q, hq, t, hc0, hc1, hrs⟩ := hd.spaces.get k x hx
    have hrl := hrs.len
    have hrss := hrs.small
    refine ⟨ss, h.cell 0 rfl rfl, by omega, by rw [hl]; omega, q, hq, _, h.ext.cell hc0, t, h.ext.cell hc1, ?_⟩
    refine h.alloc (fun w11 h ew11 nw11 => ?_)
    refine h.put 0 rfl rfl rfl (fun w12 h nw12 => ?_)
    have h := h.drew
    generalize w5.heap.size = cb at *
    have h0 := h
    refine JoinW.cut1 (fun (b : Bool) w' => (b = false ↔ (0 ≤ x.Id ∧ x.Id < 16 ∧ (∀ z, 0 < k → d.Spaces[k - 1]? = some z → z.Id < x.Id) ∧ x.Regions.length ≤ 8)) ∧ w' = w12.drew) ?_ ?_
    · refine ⟨_, h.cell 0 rfl rfl, BIf.dec (fun hb => ⟨⟨(fun hh => by cases hh), fun hh => by omega⟩, rfl⟩) (fun hb => ?_)⟩
      refine ⟨_, h.cell 0 rfl rfl, BIf.dec (fun hb2 => ⟨⟨(fun hh => by cases hh), fun hh => by omega⟩, rfl⟩) (fun hb2 => ?_)⟩
      refine BIf.dec (fun hi0 => ?_) (fun hi0 => ?_)
      · obtain ⟨z, hz⟩ : ∃ z, d.Spaces[k - 1]? = some z := ⟨_, List.getElem?_eq_getElem (by omega)⟩
        obtain ⟨q', hq', t', hc', _⟩ := (hd.ext h.ext).spaces.get (k - 1) z hz
        rw [Go.Den.w64 (n := (k : Int) - 1) (by omega) (by omega), show ((k : Int) - 1).toNat = k - 1 by omega]
        refine ⟨ss, h.cell 1 rfl rfl, by omega, by rw [hl]; omega, q', hq', _, hc', _, h.cell 0 rfl rfl, ?_⟩
        refine BIf.dec (fun hb3 => ⟨⟨(fun hh => by cases hh), fun hh => by have := hh.2.2.1 z (by omega) hz; omega⟩, rfl⟩) (fun hb3 => ?_)
        refine ⟨t, h.cell 0 rfl rfl, ?_, rfl⟩
        rw [decide_eq_false_iff_not, hrl]
        exact ⟨fun hh => ⟨by omega, by omega, fun y _ hy => by rw [hz] at hy; cases hy; omega, by omega⟩, fun hh => by omega⟩
      · refine ⟨t, h.cell 0 rfl rfl, ?_, rfl⟩
        rw [decide_eq_false_iff_not, hrl]
        exact ⟨fun hh => ⟨by omega, by omega, fun y hy _ => by omega, by omega⟩, fun hh => by omega⟩
    rintro (b : Bool) w15 ⟨hiff, rfl⟩
    refine BIf.of (fun hb => kb_f (fun hh => ?_) h.ext) (fun hb => ?_)
    · have hs := hh.2 k x hx
      rw [hiff.2 ⟨hs.id0, hs.id1, hs.sorted, hs.few⟩] at hb; cases hb
    obtain ⟨g1, g2, g3, g4⟩ := hiff.1 hb
    refine LoopW.m2 (fun (e j : Int) w' => ∃ m : Nat, j = m ∧ m ≤ x.Regions.length ∧ e = finAt x.Regions m ∧ (∀ j r, j < m → x.Regions[j]? = some r → RgOk d (finAt x.Regions j) r) ∧ SH w w' [aB cb ([Value.int .i64 x.Id, .slice t.a t.len t.cap].map Ce.v), aB w.heap.size ((vmV d sp ss so).map Ce.v)]) (fun (e j : Int) _ => ((x.Regions.length : Int) - j).toNat) ⟨0, rfl, by omega, rfl, (fun j s hj => by omega), h⟩ ?_
    rintro (e : Int) (j : Int) w19 ⟨m, rfl, hm, rfl, hrk, h⟩ J2 hJ2
    refine ⟨t, h.cell 0 rfl rfl, ?_⟩
    rw [hrl]
    refine BIf.dec (fun hlt2 => ?_) (fun hge2 => ?_)
    · obtain ⟨y, hy⟩ : ∃ y, x.Regions[m]? = some y := ⟨_, List.getElem?_eq_getElem (by omega)⟩
      obtain ⟨q2, hq2, tf, th, r0, r1, r2, r3, r4, r5, hby, hnm⟩ := (hrs.ext fun _ _ hh => hh.ext h.ext).get m y hy
      have hbyl := hby.len
      have hnml := hnm.len
      refine ⟨t, h.cell 0 rfl rfl, by omega, by rw [hrl]; omega, q2, hq2, _, r0, _, r1, _, r2, _, r3, tf, r4, th, r5, ?_⟩
      refine h.alloc (fun w29 h ew29 nw29 => ?_)
      refine h.put 0 rfl rfl rfl (fun w30 h nw30 => ?_)
      generalize w19.heap.size = cr at *
      refine ⟨_, h.cell 0 rfl rfl, _, h.cell 0 rfl rfl, _, h.cell 0 rfl rfl, _, h.cell 0 rfl rfl, tf, h.cell 0 rfl rfl, th, h.cell 0 rfl rfl, (c38 hbyl).mono ?_⟩
      rintro _ w38 ⟨b38, rfl, h38, e38⟩
      have h := h.to e38
      have hm1 : IntKind.wrap .i64 ((m : Int) + 1) = (m : Int) + 1 := Go.Den.w64 (by omega) (by omega)
      refine ⟨_, rfl, ?_⟩
      refine JoinW.cut1 (fun (b : Bool) w' => (b = false ↔ ((RegOk y.At y.Count y.Prot ∧ (y.File.length : Int) ≤ y.Count * 256) ∧ finAt x.Regions m ≤ y.At)) ∧ w' = w38) ?_ ?_
      · refine BIf.of (fun hb => ⟨⟨(fun hh => by cases hh), fun hh => ?_⟩, rfl⟩) (fun hb => ⟨_, h.cell 0 rfl rfl, ?_, rfl⟩)
        · rw [h38.2 hh.1] at hb; cases hb
        · have := h38.1 (by simpa using hb)
          rw [decide_eq_false_iff_not]
          exact ⟨fun hh => ⟨this, by omega⟩, fun hh => by omega⟩
      rintro (b : Bool) w42 ⟨hib, rfl⟩
      have bad : ∀ w', Ext w w' → ¬ RgOk d (finAt x.Regions m) y → KB (SpsOk d) w (.bool false) w' := fun w' e hn => kb_f (fun hh => hn ((hh.2 k x hx).regs m y hy)) e
      refine BIf.of (fun hb => bad _ h.ext (fun hr => ?_)) (fun hb => ?_)
      · rw [hib.2 ⟨⟨hr.reg, hr.file⟩, hr.past⟩] at hb; cases hb
      obtain ⟨⟨gr, gf⟩, gp⟩ := hib.1 hb
      have c1 := gr.c1
      have c2 := gr.c2
      have a0 := gr.a0
      have top := gr.top
      have hfin : IntKind.wrap .i64 (y.At + IntKind.wrap .i64 (y.Count * 256)) = finAt x.Regions (m + 1) := by
        rw [Go.Den.w64 (n := y.Count * 256) (by omega) (by omega), Go.Den.w64 (by omega) (by omega), finAt_succ hy]
      refine ⟨_, h.cell 0 rfl rfl, _, h.cell 0 rfl rfl, _, h.cell 0 rfl rfl, ?_⟩
      have next : ∀ w', SH w w' (aB cr ([Value.int .i64 y.At, .int .i64 y.Count, .int .i64 y.Prot, .int .i64 y.Obj, .slice tf.a tf.len tf.cap, .slice th.a th.len th.cap].map Ce.v) :: [aB cb ([Value.int .i64 x.Id, .slice t.a t.len t.cap].map Ce.v), aB w.heap.size ((vmV d sp ss so).map Ce.v)]) → RgOk d (finAt x.Regions m) y → J2 (IntKind.wrap .i64 (y.At + IntKind.wrap .i64 (y.Count * 256))) (IntKind.wrap .i64 ((m : Int) + 1)) w' := fun w' h hr => by
        rw [hm1, hfin]
        refine hJ2 _ _ _ ⟨m + 1, by omega, by omega, rfl, fun j r hj hjr => ?_, h.drop⟩ (by omega)
        by_cases hjm : j = m
        · subst hjm; rw [hy] at hjr; cases hjr; exact hr
        · exact hrk j r (by omega) hjr
      refine BIf.eq (fun he => ?_) (fun he => ?_)
      · refine ⟨th, h.cell 0 rfl rfl, _, h.cell 0 rfl rfl, ?_⟩
        refine BIf.of (fun hne => bad _ h.ext (fun hr => ?_)) (fun hne => ?_)
        · have := hr.own he
          rw [bne_iff_ne] at hne
          omega
        · rw [bne_eq_false_iff_eq] at hne
          exact next _ h ⟨gr, gf, gp, fun _ => by omega, fun hh => absurd he hh⟩
      · refine ⟨_, h.cell 2 rfl rfl, _, h.cell 2 rfl rfl, _, h.cell 2 rfl rfl, _, h.cell 2 rfl rfl, _, h.cell 2 rfl rfl, _, h.cell 2 rfl rfl, _, h.cell 2 rfl rfl, sp, h.cell 2 rfl rfl, ss, h.cell 2 rfl rfl, so, h.cell 2 rfl rfl, _, h.cell 0 rfl rfl, (c39 (hd.ext h.ext)).mono ?_⟩
        rintro _ w60 ⟨rfl, e60⟩
        have h := (h.to e60).drew
        refine ⟨_, rfl, ?_⟩
        refine JoinW.cut1 (fun (b : Bool) w' => (b = false ↔ ∃ k o, ShOk d y k o) ∧ w' = w60.drew) ?_ ?_
        · refine BIf.dec (fun hneg => ⟨⟨(fun hh => by cases hh), fun hh => ?_⟩, rfl⟩) (fun hneg => ?_)
          · obtain ⟨k', o', ho'⟩ := hh
            have := ho'.ix
            omega
          obtain ⟨k', o', hix, hat, _⟩ := obj_get (d := d) (id := y.Obj) (by omega)
          obtain ⟨q3, hq3, to, o0, o1, o2, hon⟩ := (hd.ext h.ext).objs.get k' o' hat
          have hk'l := (List.getElem?_eq_some_iff.1 hat).1
          have hol := hd.objs.len
          have honl := hon.len
          rw [hix]
          refine ⟨so, h.cell 2 rfl rfl, by omega, by rw [hol]; omega, q3, hq3, to, o2, _, h.cell 0 rfl rfl, ?_⟩
          refine BIf.of (fun hne => ⟨⟨(fun hh => by cases hh), fun hh => ?_⟩, rfl⟩) (fun hne => ?_)
          · obtain ⟨k2, o2', ho2⟩ := hh
            have h1 := ho2.ix
            have h2 := ho2.at_
            have h3 := ho2.len
            have : k2 = k' := by omega
            subst this
            rw [hat] at h2; cases h2
            rw [bne_iff_ne] at hne
            omega
          rw [bne_eq_false_iff_eq] at hne
          refine ⟨tf, h.cell 0 rfl rfl, BIf.dec (fun hf => ⟨⟨(fun hh => by cases hh), fun hh => ?_⟩, rfl⟩) (fun hf => ?_)⟩
          · obtain ⟨k2, o2', ho2⟩ := hh
            have := ho2.file
            rw [this] at hbyl
            simp only [List.length_nil] at hbyl
            omega
          refine ⟨th, h.cell 0 rfl rfl, ?_, rfl⟩
          rw [decide_eq_false_iff_not]
          refine ⟨fun hh => ⟨k', o', hix, hat, by omega, List.eq_nil_of_length_eq_zero (by omega), List.eq_nil_of_length_eq_zero (by omega)⟩, ?_⟩
          rintro ⟨k2, o2', ho2⟩
          have := ho2.held
          rw [this] at hnml
          simp only [List.length_nil] at hnml
          omega
        rintro (b : Bool) w64 ⟨hs, rfl⟩
        refine BIf.of (fun hb => bad _ h.ext (fun hr => ?_)) (fun hb => next _ h ⟨gr, gf, gp, fun hh => absurd hh he, fun _ => hs.1 hb⟩)
        rw [hs.2 (hr.sh he)] at hb; cases hb
    · have hk1 : IntKind.wrap .i64 ((k : Int) + 1) = (k : Int) + 1 := Go.Den.w64 (by omega) (by omega)
      rw [hk1]
      refine hJ _ _ ⟨k + 1, by omega, by omega, fun j s hj hjs => ?_, h.drop⟩ (by omega)
      by_cases hjk : j = k
      · subst hjk; rw [hx] at hjs; cases hjs
        exact ⟨g1, g2, g3, g4, fun k' r hr => hrk k' r (by have := (List.getElem?_eq_some_iff.1 hr).1; omega) hr⟩
      · exact hok j s (by omega) hjs
  · refine kb_t ⟨by omega, fun i s hs => hok i s (by have := (List.getElem?_eq_some_iff.1 hs).1; omega) hs⟩ h.ext
end Go.Proofs.Ytagjjhfhfjdcaaa

/- Pages, spaces, objects: when objects can be, the reference's side. Conditions: none. -/
set_option linter.unusedVariables false
set_option linter.unusedSimpArgs false
namespace Go.Proofs.Ytagjjhfhfjdcaaa
open Go Go.Den
theorem c19 {sp ss so : Sl} {d : DVm} {w : World} (hd : VmAt w sp ss so d) : CallW Try.prog 19 #[.agg ⟨vmV d sp ss so⟩] w (KB (ObsOk d) w) := by
  refine go19 ?_
  unfold W19
  have h := SH.start w
  have hl := hd.objs.len
  have hf := hd.objs.small
  refine h.alloc (fun w1 h ew1 nw1 => ?_)
  refine ⟨so, h.cell 0 rfl rfl, ?_⟩
  rw [hl]
  refine BIf.dec (fun hgt => kb_f (fun hh => by have := hh.1; omega) h.ext) (fun hgt => ?_)
  refine LoopW.m1 (fun (i : Int) w' => ∃ k : Nat, i = k ∧ k ≤ d.Objs.length ∧ (∀ j s, j < k → d.Objs[j]? = some s → ObOk d j s) ∧ SH w w' [aB w.heap.size ((vmV d sp ss so).map Ce.v)]) (fun (i : Int) _ => ((d.Objs.length : Int) - i).toNat) ⟨0, rfl, by omega, (fun j s hj => by omega), h⟩ ?_
  rintro (i : Int) w5 ⟨k, rfl, hk, hok, h⟩ J hJ
  refine ⟨so, h.cell 0 rfl rfl, ?_⟩
  rw [hl]
  refine BIf.dec (fun hlt => ?_) (fun hge => ?_)
  · obtain ⟨x, hx⟩ : ∃ x, d.Objs[k]? = some x := ⟨_, List.getElem?_eq_getElem (by omega)⟩
    obtain ⟨q, hq, t, hc0, hc1, hc2, hn⟩ := hd.objs.get k x hx
    have hnl := hn.len
    refine ⟨so, h.cell 0 rfl rfl, by omega, by rw [hl]; omega, q, hq, _, h.ext.cell hc0, _, h.ext.cell hc1, t, h.ext.cell hc2, ?_⟩
    refine h.alloc (fun w12 h ew11 nw11 => ?_)
    refine h.put 0 rfl rfl rfl (fun w13 h nw12 => ?_)
    have h := h.drew
    generalize w5.heap.size = cb at *
    refine JoinW.cut1 (fun (b : Bool) w' => (b = false ↔ (0 ≤ x.Id ∧ x.Id < 16 ∧ (∀ z, 0 < k → d.Objs[k - 1]? = some z → z.Id < x.Id) ∧ 1 ≤ x.Held.length ∧ x.Held.length ≤ 32)) ∧ w' = w13.drew) ?_ ?_
    · refine ⟨_, h.cell 0 rfl rfl, BIf.dec (fun hb => ⟨⟨(fun hh => by cases hh), fun hh => by omega⟩, rfl⟩) (fun hb => ?_)⟩
      refine ⟨_, h.cell 0 rfl rfl, BIf.dec (fun hb2 => ⟨⟨(fun hh => by cases hh), fun hh => by omega⟩, rfl⟩) (fun hb2 => ?_)⟩
      refine BIf.dec (fun hi0 => ?_) (fun hi0 => ?_)
      · obtain ⟨z, hz⟩ : ∃ z, d.Objs[k - 1]? = some z := ⟨_, List.getElem?_eq_getElem (by omega)⟩
        obtain ⟨q', hq', t', hc', _⟩ := (hd.ext h.ext).objs.get (k - 1) z hz
        rw [Go.Den.w64 (n := (k : Int) - 1) (by omega) (by omega), show ((k : Int) - 1).toNat = k - 1 by omega]
        refine ⟨so, h.cell 1 rfl rfl, by omega, by rw [hl]; omega, q', hq', _, hc', _, h.cell 0 rfl rfl, ?_⟩
        refine BIf.dec (fun hb3 => ⟨⟨(fun hh => by cases hh), fun hh => by have := hh.2.2.1 z (by omega) hz; omega⟩, rfl⟩) (fun hb3 => ?_)
        refine ⟨t, h.cell 0 rfl rfl, BIf.dec (fun hb4 => ⟨⟨(fun hh => by cases hh), fun hh => by omega⟩, rfl⟩) (fun hb4 => ?_)⟩
        refine ⟨t, h.cell 0 rfl rfl, ?_, rfl⟩
        rw [decide_eq_false_iff_not]
        exact ⟨fun hh => ⟨by omega, by omega, fun y _ hy => by rw [hz] at hy; cases hy; omega, by omega, by omega⟩, fun hh => by omega⟩
      · refine ⟨t, h.cell 0 rfl rfl, BIf.dec (fun hb4 => ⟨⟨(fun hh => by cases hh), fun hh => by omega⟩, rfl⟩) (fun hb4 => ?_)⟩
        refine ⟨t, h.cell 0 rfl rfl, ?_, rfl⟩
        rw [decide_eq_false_iff_not]
        exact ⟨fun hh => ⟨by omega, by omega, fun y hy _ => by omega, by omega, by omega⟩, fun hh => by omega⟩
    rintro (b : Bool) w16 ⟨hiff, rfl⟩
    refine BIf.of (fun hb => kb_f (fun hh => ?_) h.ext) (fun hb => ?_)
    · have hs := hh.2 k x hx
      rw [hiff.2 ⟨hs.id0, hs.id1, hs.sorted, hs.h1, hs.h32⟩] at hb; cases hb
    obtain ⟨g1, g2, g3, g4, g5⟩ := hiff.1 hb
    refine ⟨_, h.cell 0 rfl rfl, ?_⟩
    refine JoinW.cut1 (fun (b : Bool) w' => (b = false ↔ (x.Named = true ∨ ∃ r, r ∈ regsOf d ∧ r.Obj = x.Id)) ∧ SH w w' [aB cb ([Value.int .i64 x.Id, .bool x.Named, .slice t.a t.len t.cap].map Ce.v), aB w.heap.size ((vmV d sp ss so).map Ce.v)]) ?_ ?_
    · refine BIf.of (fun hnm => ?_) (fun hnm => ⟨⟨fun _ => .inl (by simpa using hnm), fun _ => rfl⟩, h⟩)
      refine ⟨_, h.cell 1 rfl rfl, _, h.cell 1 rfl rfl, _, h.cell 1 rfl rfl, _, h.cell 1 rfl rfl, _, h.cell 1 rfl rfl, _, h.cell 1 rfl rfl, _, h.cell 1 rfl rfl, sp, h.cell 1 rfl rfl, ss, h.cell 1 rfl rfl, so, h.cell 1 rfl rfl, _, h.cell 0 rfl rfl, (c40 (hd.ext h.ext)).mono ?_⟩
      rintro _ w33 ⟨rfl, e⟩
      refine ⟨_, rfl, ?_, h.to e⟩
      have hnm' : x.Named = false := by simpa using hnm
      rw [hnm']
      have hu := usesN_pos (d := d) (id := x.Id)
      constructor
      · intro h0
        have : usesN d x.Id ≠ 0 := fun h1 => by rw [h1] at h0; cases h0
        exact .inr (Classical.not_not.1 (fun hh => this (hu.2 hh)))
      · rintro (hh | hh)
        · cases hh
        · have : usesN d x.Id ≠ 0 := fun h1 => hu.1 h1 hh
          rw [beq_eq_false_iff_ne]
          omega
    rintro (b : Bool) w20 ⟨hi2, h⟩
    refine BIf.of (fun hb => kb_f (fun hh => ?_) h.ext) (fun hb => ?_)
    · rw [hi2.2 (hh.2 k x hx).used] at hb; cases hb
    · rw [Go.Den.w64 (by omega) (by omega)]
      refine hJ _ _ ⟨k + 1, by omega, by omega, fun j s hj hjs => ?_, h.drop⟩ (by omega)
      by_cases hjk : j = k
      · subst hjk; rw [hx] at hjs; cases hjs
        exact ⟨g1, g2, g3, g4, g5, hi2.1 hb⟩
      · exact hok j s (by omega) hjs
  · refine kb_t ⟨by omega, fun i s hs => hok i s (by have := (List.getElem?_eq_some_iff.1 hs).1; omega) hs⟩ h.ext
end Go.Proofs.Ytagjjhfhfjdcaaa

/- Pages, spaces, objects: numbers counted; when pages can be, the reference's side. Conditions: none. -/
set_option linter.unusedVariables false
set_option linter.unusedSimpArgs false
namespace Go.Den
open Go
def cntSum (ids l : List Int) : Nat := (ids.map (fun x => l.count x)).sum
theorem cntSum_le (l : List Int) : ∀ ids : List Int, cntSum ids l ≤ ids.length * l.length
  | [] => by simp [cntSum]
  | x :: ids => by
    have ih := cntSum_le l ids
    have h1 : l.count x ≤ l.length := List.count_le_length
    show l.count x + cntSum ids l ≤ (ids.length + 1) * l.length
    rw [Nat.add_mul]; omega
theorem cntSum_snoc (ids l : List Int) (x : Int) : cntSum (ids ++ [x]) l = cntSum ids l + l.count x := by
  unfold cntSum; rw [List.map_append, List.sum_append]; simp
theorem cntSum_nil : ∀ ids : List Int, cntSum ids [] = 0
  | [] => rfl
  | x :: ids => by
    have := cntSum_nil ids
    show ([] : List Int).count x + cntSum ids [] = 0
    rw [this]; simp
theorem cntSum_cons (a : Int) (l : List Int) : ∀ ids : List Int, cntSum ids (a :: l) = cntSum ids l + ids.count a
  | [] => rfl
  | x :: ids => by
    have ih := cntSum_cons a l ids
    show (a :: l).count x + cntSum ids (a :: l) = l.count x + cntSum ids l + (x :: ids).count a
    rw [ih, List.count_cons, List.count_cons]
    have : (a == x) = (x == a) := by rw [Bool.eq_iff_iff, beq_iff_eq, beq_iff_eq]; exact eq_comm
    rw [this]; omega
theorem cnt_nodup {ids : List Int} (hn : ids.Nodup) : ∀ l : List Int, cntSum ids l = l.countP (fun x => decide (x ∈ ids))
  | [] => by rw [cntSum_nil]; rfl
  | a :: l => by
    rw [cntSum_cons, cnt_nodup hn l, List.countP_cons]
    by_cases h : a ∈ ids
    · rw [hn.count]; simp [h]
    · rw [List.count_eq_zero_of_not_mem h]; simp [h]
theorem cnt_cover {ids l : List Int} (hn : ids.Nodup) (h0 : (0 : Int) ∉ ids) : (cntSum ids l + l.count 0 = l.length) ↔ ∀ x, x ∈ l → x = 0 ∨ x ∈ ids := by
  have hn' : (0 :: ids).Nodup := List.nodup_cons.2 ⟨h0, hn⟩
  have h1 := cnt_nodup hn' l
  have h2 : cntSum (0 :: ids) l = l.count 0 + cntSum ids l := rfl
  have h3 : cntSum ids l + l.count 0 = l.countP (fun x => decide (x ∈ 0 :: ids)) := by omega
  rw [h3, List.countP_eq_length]
  simp only [decide_eq_true_eq, List.mem_cons]
theorem cnt_few {ids l : List Int} (hn : ids.Nodup) (hp : ∀ x, x ∈ ids → x ∈ l) : ids.length ≤ l.length := by
  have h1 := cnt_nodup hn l
  have h2 : l.countP (fun x => decide (x ∈ ids)) ≤ l.length := List.countP_le_length
  have h3 : ∀ js : List Int, (∀ x, x ∈ js → x ∈ l) → js.length ≤ cntSum js l := fun js => by
    induction js with
    | nil => intro _; simp [cntSum]
    | cons a js ih =>
      intro hj
      have := ih (fun x hx => hj x (List.mem_cons_of_mem _ hx))
      have h4 : 0 < l.count a := List.count_pos_iff.2 (hj a List.mem_cons_self)
      show js.length + 1 ≤ l.count a + cntSum js l
      omega
  have := h3 ids hp
  omega
theorem SH.numAt {w0 w : World} {As : List Asr} (h : SH w0 w As) (n : Nat) {s : Sl} {m : List Int} (hA : As[n]? = some (aRow s 1 (nums .i64 m))) (hs : m.length ≤ 1048576) : NumAt w s m :=
  ⟨by rw [h.len n hA, nums_len], h.lenCap n hA, h.rowN n hA, hs⟩
end Go.Den
namespace Go.Proofs.Ytagjjhfhfjdcaaa
open Go Go.Den
def InP (d : DVm) (p : DVPage) : Prop := 0 ≤ p.Frame ∧ p.Frame < d.Frames ∧ p.Slot = -1
def OutP (d : DVm) (p : DVPage) : Prop := p.Frame = -1 ∧ 0 ≤ p.Slot ∧ p.Slot < d.Slots ∧ p.Used = false
structure PgOk (d : DVm) (i : Nat) (p : DVPage) : Prop where
  id1 : 1 ≤ p.Id
  idN : p.Id ≤ d.Next
  sorted : ∀ z, 0 < i → d.Pages[i - 1]? = some z → z.Id < p.Id
  data : p.Data.length = 256
  pos : InP d p ∨ OutP d p
  alone : ∀ (j : Nat) q, j < i → d.Pages[j]? = some q → ¬ (q.Frame = p.Frame ∧ q.Slot = p.Slot)
structure CtOk (d : DVm) (p : DVPage) : Prop where
  one : (placesOf d).count p.Id ≠ 0
  sh : 1 < (placesOf d).count p.Id → (sharedOf d).count p.Id = 0
structure PgsOk (d : DVm) : Prop where
  room : ((placesOf d).length : Int) ≤ d.Frames + d.Slots
  pg : ∀ (i : Nat) p, d.Pages[i]? = some p → PgOk d i p
  ct : ∀ (i : Nat) p, d.Pages[i]? = some p → CtOk d p
  cover : ∀ x, x ∈ placesOf d → x = 0 ∨ x ∈ d.Pages.map (·.Id)
theorem ids_lt {d : DVm} (h : ∀ i p, d.Pages[i]? = some p → ∀ z, 0 < i → d.Pages[i - 1]? = some z → z.Id < p.Id) : ∀ (j i : Nat) (p q : DVPage), i < j → d.Pages[i]? = some p → d.Pages[j]? = some q → p.Id < q.Id
  | 0, i, p, q, hij, _, _ => by omega
  | j + 1, i, p, q, hij, hp, hq => by
    obtain ⟨z, hz⟩ : ∃ z, d.Pages[j]? = some z := ⟨_, List.getElem?_eq_getElem (by have := (List.getElem?_eq_some_iff.1 hq).1; omega)⟩
    have h1 := h (j + 1) q hq z (by omega) hz
    by_cases hj : i = j
    · subst hj; rw [hp] at hz; cases hz; exact h1
    · have := ids_lt h j i p z (by omega) hp hz; omega
theorem ids_nodup {d : DVm} (h : ∀ i p, d.Pages[i]? = some p → ∀ z, 0 < i → d.Pages[i - 1]? = some z → z.Id < p.Id) : (d.Pages.map (·.Id)).Nodup := by
  rw [List.Nodup, List.pairwise_iff_getElem]
  intro i j hi hj hij
  simp only [List.length_map] at hi hj
  simp only [List.getElem_map]
  have := ids_lt h j i _ _ hij (List.getElem?_eq_getElem hi) (List.getElem?_eq_getElem hj)
  omega
theorem c20 {sp ss so : Sl} {d : DVm} {w : World} (hd : VmAt w sp ss so d) (hF : 0 ≤ d.Frames ∧ d.Frames ≤ 64) (hS : 0 ≤ d.Slots ∧ d.Slots ≤ 64) : CallW Try.prog 20 #[.agg ⟨vmV d sp ss so⟩] w (KB (PgsOk d) w) := by
  refine go20 ?_
  unfold W20
  have h := SH.start w
  have hl := hd.pages.len
  have hf := hd.pages.small
  have hpl := hd.pl
  have hsl : (sharedOf d).length ≤ (placesOf d).length := by unfold placesOf; rw [List.length_append]; omega
  refine h.alloc (fun w1 h ew1 nw1 => ?_)
  refine ⟨_, h.cell 0 rfl rfl, _, h.cell 0 rfl rfl, _, h.cell 0 rfl rfl, _, h.cell 0 rfl rfl, _, h.cell 0 rfl rfl, _, h.cell 0 rfl rfl, _, h.cell 0 rfl rfl, sp, h.cell 0 rfl rfl, ss, h.cell 0 rfl rfl, so, h.cell 0 rfl rfl, (c34 (hd.ext h.ext)).mono ?_⟩
  rintro _ w13 ⟨t, rfl, g⟩
  have h := h.seq g
  refine ⟨t, rfl, _, h.cell 1 rfl rfl, _, h.cell 1 rfl rfl, ?_⟩
  have htl : t.len = (placesOf d).length := by rw [h.len 0 rfl, nums_len]
  rw [htl, Go.Den.w64 (n := d.Frames + d.Slots) (by omega) (by omega)]
  refine BIf.dec (fun hgt => kb_f (fun hh => by have := hh.room; omega) h.ext) (fun hgt => ?_)
  have hroom : ((placesOf d).length : Int) ≤ d.Frames + d.Slots := by omega
  refine h.alloc (fun w17 h ew17 nw17 => ?_)
  have h := SH.toRow (z := 1) (n := 0) (ys := []) h rfl rfl (fun u hu => by cases hu)
  have hol := hd.objs.len
  have hos := hd.objs.small
  refine LoopW.m2 (fun (s : Sl) (j : Int) w' => ∃ m : Nat, j = m ∧ m ≤ d.Objs.length ∧ SH w w' [aRow s 1 (nums .i64 ((d.Objs.take m).flatMap (·.Held))), aRow t 1 (nums .i64 (placesOf d)), aB w.heap.size ((vmV d sp ss so).map Ce.v)]) (fun (n : Sl) (j : Int) _ => ((d.Objs.length : Int) - j).toNat) ⟨0, rfl, by omega, by simpa [nums] using h⟩ ?_
  rintro (s : Sl) (j : Int) w21 ⟨m, rfl, hm, h⟩ J2 hJ2
  refine ⟨so, h.cell 2 rfl rfl, ?_⟩
  rw [hol]
  refine BIf.dec (fun hlt2 => ?_) (fun hge2 => ?_)
  · obtain ⟨y, hy⟩ : ∃ y, d.Objs[m]? = some y := ⟨_, List.getElem?_eq_getElem (by omega)⟩
    obtain ⟨q2, hq2, th, g0, g1, g2, hn⟩ := (hd.ext h.ext).objs.get m y hy
    refine ⟨so, h.cell 2 rfl rfl, by omega, by rw [hol]; omega, q2, hq2, th, g2, ?_⟩
    have hm1 : IntKind.wrap .i64 ((m : Int) + 1) = (m : Int) + 1 := Go.Den.w64 (by omega) (by omega)
    have hts : (d.Objs.take (m + 1)).flatMap (·.Held) = (d.Objs.take m).flatMap (·.Held) ++ y.Held := fm_snoc (fun r : DObj => r.Held) hy
    have b2 : ((d.Objs.take (m + 1)).flatMap (·.Held)).length ≤ (sharedOf d).length := fm_le d.Objs (m + 1) (·.Held)
    rw [hts, List.length_append] at b2
    refine SH.appendN h hn.row rfl rfl (by decide) (by show (_ + _) * 8 ≤ _; omega) (fun s' w27 h hsl hsz => ?_)
    rw [hm1]
    refine hJ2 _ _ _ ⟨m + 1, by omega, by omega, ?_⟩ (by omega)
    rw [hts]; exact h
  have hm' : d.Objs.take m = d.Objs := List.take_of_length_le (by omega)
  rw [hm'] at h
  have h : SH w w21 [aRow s 1 (nums .i64 (sharedOf d)), aRow t 1 (nums .i64 (placesOf d)), aB w.heap.size ((vmV d sp ss so).map Ce.v)] := h
  clear hJ2 J2 hm' hge2 hm
  refine LoopW.m2 (fun (n i : Int) w' => ∃ k : Nat, i = k ∧ k ≤ d.Pages.length ∧ n = (cntSum ((d.Pages.take k).map (·.Id)) (placesOf d) : Nat) ∧ (∀ j p, j < k → d.Pages[j]? = some p → PgOk d j p ∧ CtOk d p) ∧ SH w w' [aRow s 1 (nums .i64 (sharedOf d)), aRow t 1 (nums .i64 (placesOf d)), aB w.heap.size ((vmV d sp ss so).map Ce.v)]) (fun (n i : Int) _ => ((d.Pages.length : Int) - i).toNat) ⟨0, rfl, by omega, rfl, (fun j s hj => by omega), h⟩ ?_
  rintro (n : Int) (i : Int) w31 ⟨k, rfl, hk, rfl, hok, h⟩ J hJ
  have hcs := cntSum_le (placesOf d) ((d.Pages.take k).map (·.Id))
  rw [List.length_map, List.length_take] at hcs
  have hcb : cntSum ((d.Pages.take k).map (·.Id)) (placesOf d) ≤ 1048576 * 1048576 := Nat.le_trans hcs (Nat.mul_le_mul (by omega) hpl)
  have hcc : ∀ x, (placesOf d).count x ≤ 1048576 := fun x => Nat.le_trans List.count_le_length hpl
  refine ⟨sp, h.cell 2 rfl rfl, ?_⟩
  rw [hl]
  refine BIf.dec (fun hlt => ?_) (fun hge => ?_)
  · obtain ⟨x, hx⟩ : ∃ x, d.Pages[k]? = some x := ⟨_, List.getElem?_eq_getElem (by omega)⟩
    obtain ⟨q, hq, td, p0, p1, p2, p3, p4, hby⟩ := (hd.ext h.ext).pages.get k x hx
    have hbl := hby.len
    refine ⟨sp, h.cell 2 rfl rfl, by omega, by rw [hl]; omega, q, hq, _, p0, _, p1, _, p2, _, p3, td, p4, ?_⟩
    refine h.alloc (fun w40 h ew40 nw40 => ?_)
    refine h.put 0 rfl rfl rfl (fun w41 h nw41 => ?_)
    have h := h.drew
    generalize w31.heap.size = cb at *
    generalize w41.drew = w44 at *
    have bad : ∀ w', Ext w w' → ¬ (PgOk d k x ∧ CtOk d x) → KB (PgsOk d) w (.bool false) w' := fun w' e hn => kb_f (fun hh => hn ⟨hh.pg k x hx, hh.ct k x hx⟩) e
    refine JoinW.cut1 (fun (b : Bool) w' => (b = false ↔ (1 ≤ x.Id ∧ x.Id ≤ d.Next ∧ (∀ z, 0 < k → d.Pages[k - 1]? = some z → z.Id < x.Id) ∧ x.Data.length = 256)) ∧ w44 = w') ?_ ?_
    · refine ⟨_, h.cell 0 rfl rfl, BIf.dec (fun hb => ⟨⟨(fun hh => by cases hh), fun hh => by omega⟩, rfl⟩) (fun hb => ?_)⟩
      refine ⟨_, h.cell 0 rfl rfl, _, h.cell 3 rfl rfl, BIf.dec (fun hb2 => ⟨⟨(fun hh => by cases hh), fun hh => by omega⟩, rfl⟩) (fun hb2 => ?_)⟩
      refine BIf.dec (fun hi0 => ?_) (fun hi0 => ?_)
      · obtain ⟨z, hz⟩ : ∃ z, d.Pages[k - 1]? = some z := ⟨_, List.getElem?_eq_getElem (by omega)⟩
        obtain ⟨q', hq', t', hc', _⟩ := (hd.ext h.ext).pages.get (k - 1) z hz
        rw [Go.Den.w64 (n := (k : Int) - 1) (by omega) (by omega), show ((k : Int) - 1).toNat = k - 1 by omega]
        refine ⟨sp, h.cell 3 rfl rfl, by omega, by rw [hl]; omega, q', hq', _, hc', _, h.cell 0 rfl rfl, ?_⟩
        refine BIf.dec (fun hb3 => ⟨⟨(fun hh => by cases hh), fun hh => by have := hh.2.2.1 z (by omega) hz; omega⟩, rfl⟩) (fun hb3 => ?_)
        refine ⟨td, h.cell 0 rfl rfl, ?_, rfl⟩
        rw [bne_eq_false_iff_eq]
        exact ⟨fun hh => ⟨by omega, by omega, fun y _ hy => by rw [hz] at hy; cases hy; omega, by omega⟩, fun hh => by omega⟩
      · refine ⟨td, h.cell 0 rfl rfl, ?_, rfl⟩
        rw [bne_eq_false_iff_eq]
        exact ⟨fun hh => ⟨by omega, by omega, fun y hy _ => by omega, by omega⟩, fun hh => by omega⟩
    rintro (b : Bool) w' ⟨hiff, rfl⟩
    refine BIf.of (fun hb => bad _ h.ext (fun hh => ?_)) (fun hb => ?_)
    · rw [hiff.2 ⟨hh.1.id1, hh.1.idN, hh.1.sorted, hh.1.data⟩] at hb; cases hb
    obtain ⟨g1, g2, g3, g4⟩ := hiff.1 hb
    clear hiff hb
    refine ⟨_, h.cell 0 rfl rfl, ?_⟩
    refine JoinW.cut1 (fun (b : Bool) w' => b = (decide (0 ≤ x.Frame) && decide (x.Frame < d.Frames)) ∧ w44 = w') ?_ ?_
    · refine BIf.dec (fun hb => ⟨_, h.cell 0 rfl rfl, _, h.cell 3 rfl rfl, by simp [show 0 ≤ x.Frame from hb], rfl⟩) (fun hb => ⟨by simp [show ¬ 0 ≤ x.Frame from hb], rfl⟩)
    rintro (b46 : Bool) w' ⟨hb46, rfl⟩
    refine JoinW.cut1 (fun (b : Bool) w' => (b = true ↔ InP d x) ∧ w44 = w') ?_ ?_
    · refine BIf.of (fun hb => ⟨_, h.cell 0 rfl rfl, ?_, rfl⟩) (fun hb => ⟨?_, rfl⟩)
      · rw [hb46, Bool.and_eq_true, decide_eq_true_eq, decide_eq_true_eq] at hb
        rw [beq_iff_eq]
        exact ⟨fun hh => ⟨hb.1, hb.2, hh⟩, fun hh => hh.2.2⟩
      · refine ⟨(fun hh => by cases hh), fun hh => ?_⟩
        rw [hb46, decide_eq_true hh.1, decide_eq_true hh.2.1] at hb; cases hb
    rintro (b49 : Bool) w' ⟨hin, rfl⟩
    refine ⟨_, h.cell 0 rfl rfl, ?_⟩
    refine JoinW.cut1 (fun (b : Bool) w' => b = (decide (x.Frame = -1) && decide (0 ≤ x.Slot)) ∧ w44 = w') ?_ ?_
    · refine BIf.eq (fun hb => ⟨_, h.cell 0 rfl rfl, by simp [hb], rfl⟩) (fun hb => ⟨by simp [hb], rfl⟩)
    rintro (b53 : Bool) w' ⟨hb53, rfl⟩
    refine JoinW.cut1 (fun (b : Bool) w' => b = (b53 && decide (x.Slot < d.Slots)) ∧ w44 = w') ?_ ?_
    · refine BIf.of (fun hb => ⟨_, h.cell 0 rfl rfl, _, h.cell 3 rfl rfl, by rw [hb]; rfl, rfl⟩) (fun hb => ⟨by rw [hb]; rfl, rfl⟩)
    rintro (b56 : Bool) w' ⟨hb56, rfl⟩
    refine JoinW.cut1 (fun (b : Bool) w' => (b = true ↔ OutP d x) ∧ w44 = w') ?_ ?_
    · refine BIf.of (fun hb => ⟨_, h.cell 0 rfl rfl, ?_, rfl⟩) (fun hb => ⟨?_, rfl⟩)
      · rw [hb56, hb53] at hb
        simp only [Bool.and_eq_true, decide_eq_true_eq] at hb
        exact ⟨fun hh => ⟨hb.1.1, hb.1.2, hb.2, by simpa using hh⟩, fun hh => by rw [hh.2.2.2]; rfl⟩
      · refine ⟨(fun hh => by cases hh), fun hh => ?_⟩
        rw [hb56, hb53, decide_eq_true hh.1, decide_eq_true hh.2.1, decide_eq_true hh.2.2.1] at hb; cases hb
    rintro (b59 : Bool) w' ⟨hout, rfl⟩
    refine JoinW.cut1 (fun (b : Bool) w' => (b = false ↔ (InP d x ∨ OutP d x)) ∧ w44 = w') ?_ ?_
    · refine BIf.of (fun hb => ⟨?_, rfl⟩) (fun hb => ⟨⟨fun _ => .inl (hin.1 (by simpa using hb)), fun _ => rfl⟩, rfl⟩)
      have hb' : b49 = false := by simpa using hb
      constructor
      · intro hh; exact .inr (hout.1 (by simpa using hh))
      · rintro (hh | hh)
        · rw [hin.2 hh] at hb'; cases hb'
        · rw [hout.2 hh]; rfl
    rintro (b62 : Bool) w' ⟨hpos, rfl⟩
    refine BIf.of (fun hb => bad _ h.ext (fun hh => ?_)) (fun hb => ?_)
    · rw [hpos.2 hh.1.pos] at hb; cases hb
    have hpos := hpos.1 hb
    clear hb hb46 hb53 hb56
    refine LoopW.m1 (fun (i : Int) w' => ∃ m : Nat, i = m ∧ m ≤ k ∧ (∀ j q, j < m → d.Pages[j]? = some q → ¬ (q.Frame = x.Frame ∧ q.Slot = x.Slot)) ∧ SH w w' [aB cb ([Value.int .i64 x.Id, .int .i64 x.Frame, .int .i64 x.Slot, .bool x.Used, .slice td.a td.len td.cap].map Ce.v), aRow s 1 (nums .i64 (sharedOf d)), aRow t 1 (nums .i64 (placesOf d)), aB w.heap.size ((vmV d sp ss so).map Ce.v)]) (fun (i : Int) _ => ((k : Int) - i).toNat) ⟨0, rfl, by omega, (fun j s hj => by omega), h⟩ ?_
    rintro (i : Int) w67 ⟨m, rfl, hm, hno, h⟩ J2 hJ2
    refine BIf.dec (fun hlt3 => ?_) (fun hge3 => ?_)
    · obtain ⟨z, hz⟩ : ∃ z, d.Pages[m]? = some z := ⟨_, List.getElem?_eq_getElem (by omega)⟩
      obtain ⟨q', hq', t', z0, z1, z2, z3, z4, _⟩ := (hd.ext h.ext).pages.get m z hz
      refine ⟨sp, h.cell 3 rfl rfl, by omega, by rw [hl]; omega, q', hq', _, z0, _, z1, _, z2, _, z3, t', z4, ?_⟩
      refine h.alloc (fun w75 h ew75 nw75 => ?_)
      refine h.put 0 rfl rfl rfl (fun w76 h nw76 => ?_)
      generalize w67.heap.size = cz at *
      have hzp := (hok m z (by omega) hz).1.pos
      refine JoinW.cut1 (fun (b : Bool) w' => b = (b49 && (z.Frame == x.Frame)) ∧ w76 = w') ?_ ?_
      · refine BIf.of (fun hb => ⟨_, h.cell 0 rfl rfl, _, h.cell 1 rfl rfl, by rw [hb]; rfl, rfl⟩) (fun hb => ⟨by rw [hb]; rfl, rfl⟩)
      rintro (b77 : Bool) w' ⟨hb77, rfl⟩
      refine JoinW.cut1 (fun (b : Bool) w' => b = (b77 || (b59 && (z.Slot == x.Slot))) ∧ w76 = w') ?_ ?_
      · refine BIf.of (fun hb => ⟨by rw [hb]; rfl, rfl⟩) (fun hb => BIf.of (fun hb2 => ⟨_, h.cell 0 rfl rfl, _, h.cell 1 rfl rfl, by rw [hb, hb2]; rfl, rfl⟩) (fun hb2 => ⟨by rw [hb, hb2]; rfl, rfl⟩))
      rintro (b80 : Bool) w' ⟨hb80, rfl⟩
      have key : b80 = true ↔ (z.Frame = x.Frame ∧ z.Slot = x.Slot) := by
        rw [hb80, hb77]
        simp only [Bool.or_eq_true, Bool.and_eq_true, beq_iff_eq, hin, hout]
        constructor
        · rintro (⟨⟨i1, i2, i3⟩, h2⟩ | ⟨⟨o1, o2, o3, o4⟩, h2⟩)
          · rcases hzp with ⟨j1, j2, j3⟩ | ⟨j1, j2, j3, j4⟩
            · exact ⟨h2, by omega⟩
            · omega
          · rcases hzp with ⟨j1, j2, j3⟩ | ⟨j1, j2, j3, j4⟩
            · omega
            · exact ⟨by omega, h2⟩
        · rintro ⟨h1, h2⟩
          rcases hpos with hh | hh
          · exact .inl ⟨hh, h1⟩
          · exact .inr ⟨hh, h2⟩
      refine BIf.of (fun hb => bad _ h.ext (fun hh => hh.1.alone m z (by omega) hz (key.1 hb))) (fun hb => ?_)
      rw [Go.Den.w64 (n := (m : Int) + 1) (by omega) (by omega)]
      refine hJ2 _ _ ⟨m + 1, by omega, by omega, fun j q hj hjq => ?_, h.drop⟩ (by omega)
      by_cases hjm : j = m
      · subst hjm; rw [hz] at hjq; cases hjq
        exact fun hh => by rw [key.2 hh] at hb; cases hb
      · exact hno j q (by omega) hjq
    have hmk : m = k := by omega
    subst hmk
    have hpg : PgOk d m x := ⟨g1, g2, g3, g4, hpos, hno⟩
    have hnt : NumAt w67 t (placesOf d) := h.numAt 2 rfl hpl
    have hns : NumAt w67 s (sharedOf d) := h.numAt 1 rfl (by omega)
    have hcall := c41 (x := x.Id) hnt
    rw [htl] at hcall
    refine ⟨_, h.cell 0 rfl rfl, hcall.mono ?_⟩
    rintro _ w89 ⟨rfl, rfl⟩
    refine ⟨_, rfl, ?_⟩
    refine JoinW.cut1 (fun (b : Bool) w' => (b = false ↔ CtOk d x) ∧ w89 = w') ?_ ?_
    · refine BIf.eq (fun h0 => ⟨⟨(fun hh => by cases hh), fun hh => absurd (by omega) hh.one⟩, rfl⟩) (fun h0 => ?_)
      refine BIf.dec (fun h1 => ?_) (fun h1 => ⟨⟨fun _ => ⟨by omega, fun hh => by omega⟩, fun _ => rfl⟩, rfl⟩)
      refine ⟨_, h.cell 0 rfl rfl, (c41 hns).mono ?_⟩
      rintro _ w96 ⟨rfl, rfl⟩
      refine ⟨_, rfl, ?_, rfl⟩
      rw [decide_eq_false_iff_not]
      exact ⟨fun hh => ⟨by omega, fun _ => by omega⟩, fun hh => by have := hh.sh (by omega); omega⟩
    rintro (b91 : Bool) w' ⟨hct, rfl⟩
    refine BIf.of (fun hb => bad _ h.ext (fun hh => ?_)) (fun hb => ?_)
    · rw [hct.2 hh.2] at hb; cases hb
    have hcx := hcc x.Id
    rw [Go.Den.w64 (n := ((cntSum ((d.Pages.take m).map (·.Id)) (placesOf d) : Nat) : Int) + _) (by omega) (by omega), Go.Den.w64 (n := (m : Int) + 1) (by omega) (by omega)]
    refine hJ _ _ _ ⟨m + 1, by omega, by omega, ?_, fun j p hj hjp => ?_, h.drop⟩ (by omega)
    · rw [take_snoc hx, List.map_append, List.map_cons, List.map_nil, cntSum_snoc]; omega
    · by_cases hjm : j = m
      · subst hjm; rw [hx] at hjp; cases hjp; exact ⟨hpg, hct.1 hb⟩
      · exact hok j p (by omega) hjp
  · have hkl : k = d.Pages.length := by omega
    have hkt : d.Pages.take k = d.Pages := List.take_of_length_le (by omega)
    rw [hkt] at hcb ⊢
    have hnt : NumAt w31 t (placesOf d) := h.numAt 1 rfl hpl
    have hcall := c41 (x := 0) hnt
    rw [htl] at hcall
    refine hcall.mono ?_
    rintro _ w115 ⟨rfl, rfl⟩
    have hc0 := hcc 0
    refine ⟨_, rfl, _, rfl, ?_, h.ext⟩
    rw [Go.Den.w64 (by omega) (by omega), beq_iff_eq]
    have hpg : ∀ i p, d.Pages[i]? = some p → PgOk d i p ∧ CtOk d p := fun i p hp => hok i p (by have := (List.getElem?_eq_some_iff.1 hp).1; omega) hp
    have hnd := ids_nodup (d := d) (fun i p hp => (hpg i p hp).1.sorted)
    have h0 : (0 : Int) ∉ d.Pages.map (·.Id) := fun hm => by
      obtain ⟨p, hp, hp0⟩ := List.mem_map.1 hm
      obtain ⟨i, hi, rfl⟩ := List.getElem_of_mem hp
      have := (hpg i _ (List.getElem?_eq_getElem hi)).1.id1
      omega
    have hcov := cnt_cover (l := placesOf d) hnd h0
    constructor
    · intro hh
      exact ⟨hroom, fun i p hp => (hpg i p hp).1, fun i p hp => (hpg i p hp).2, hcov.1 (by omega)⟩
    · intro hh
      have := hcov.2 hh.cover
      omega
end Go.Proofs.Ytagjjhfhfjdcaaa

/- Pages, spaces, objects: when a state can be, the reference's side. Conditions: none. -/
set_option linter.unusedVariables false
set_option linter.unusedSimpArgs false
namespace Go.Proofs.Ytagjjhfhfjdcaaa
open Go Go.Den
structure HdOk (d : DVm) : Prop where
  frames : 1 ≤ d.Frames ∧ d.Frames ≤ 64
  slots : 0 ≤ d.Slots ∧ d.Slots ≤ 64
  hand : 0 ≤ d.Hand ∧ d.Hand < d.Frames
  next : 0 ≤ d.Next ∧ d.Next ≤ 1099511627776
  faults : 0 ≤ d.Faults ∧ d.Faults ≤ 1099511627776
  ins : 0 ≤ d.Ins ∧ d.Ins ≤ 1099511627776
  outs : 0 ≤ d.Outs ∧ d.Outs ≤ 1099511627776
structure VOk (d : DVm) : Prop where
  hd : HdOk d
  few : d.Pages.length ≤ 128
  sps : SpsOk d
  obs : ObsOk d
  pgs : PgsOk d
theorem c6 {sp ss so : Sl} {d : DVm} {w : World} (hd : VmAt w sp ss so d) : CallW Try.prog 6 #[.agg ⟨vmV d sp ss so⟩] w (KB (VOk d) w) := by
  refine go6 ?_
  unfold W6
  have h := SH.start w
  refine h.alloc (fun w1 h ew1 nw1 => ?_)
  refine ⟨_, h.cell 0 rfl rfl, _, h.cell 0 rfl rfl, c16.mono ?_⟩
  rintro _ w5 ⟨rfl, rfl⟩
  refine ⟨_, rfl, ?_⟩
  refine JoinW.cut1 (fun (b : Bool) w' => (b = false ↔ ((1 ≤ d.Frames ∧ d.Frames ≤ 64) ∧ (0 ≤ d.Slots ∧ d.Slots ≤ 64)) ∧ 0 ≤ d.Hand) ∧ w5 = w') ?_ ?_
  · refine BIf.of (fun hb => ⟨⟨(fun hh => by cases hh), fun hh => ?_⟩, rfl⟩) (fun hb => ⟨_, h.cell 0 rfl rfl, ?_, rfl⟩)
    · simp only [Bool.not_eq_true', Bool.and_eq_false_iff, decide_eq_false_iff_not] at hb; omega
    · simp only [Bool.not_eq_false', Bool.and_eq_true, decide_eq_true_eq] at hb
      rw [decide_eq_false_iff_not]; omega
  rintro (b7 : Bool) w' ⟨i7, rfl⟩
  refine JoinW.cut1 (fun (b : Bool) w' => (b = false ↔ (((1 ≤ d.Frames ∧ d.Frames ≤ 64) ∧ (0 ≤ d.Slots ∧ d.Slots ≤ 64)) ∧ 0 ≤ d.Hand) ∧ d.Hand < d.Frames) ∧ w5 = w') ?_ ?_
  · refine BIf.of (fun hb => ⟨⟨(fun hh => by cases hh), fun hh => by rw [i7.2 hh.1] at hb; cases hb⟩, rfl⟩) (fun hb => ⟨_, h.cell 0 rfl rfl, _, h.cell 0 rfl rfl, ?_, rfl⟩)
    have := i7.1 hb
    rw [decide_eq_false_iff_not]; omega
  rintro (b10 : Bool) w' ⟨i10, rfl⟩
  refine JoinW.cut1 (fun (b : Bool) w' => (b = false ↔ ((((1 ≤ d.Frames ∧ d.Frames ≤ 64) ∧ (0 ≤ d.Slots ∧ d.Slots ≤ 64)) ∧ 0 ≤ d.Hand) ∧ d.Hand < d.Frames) ∧ (0 ≤ d.Next ∧ d.Next ≤ 1099511627776)) ∧ w5 = w') ?_ ?_
  · refine BIf.of (fun hb => ⟨⟨(fun hh => by cases hh), fun hh => by rw [i10.2 hh.1] at hb; cases hb⟩, rfl⟩) (fun hb => ⟨_, h.cell 0 rfl rfl, c17.mono ?_⟩)
    rintro _ w88 ⟨rfl, rfl⟩
    have := i10.1 hb
    refine ⟨_, rfl, ?_, rfl⟩
    simp only [Bool.not_eq_false', Bool.and_eq_true, decide_eq_true_eq]; omega
  rintro (b13 : Bool) w' ⟨i13, rfl⟩
  refine JoinW.cut1 (fun (b : Bool) w' => (b = false ↔ (b13 = false) ∧ (0 ≤ d.Faults ∧ d.Faults ≤ 1099511627776)) ∧ w5 = w') ?_ ?_
  · refine BIf.of (fun hb => ⟨⟨(fun hh => by cases hh), fun hh => by rw [hh.1] at hb; cases hb⟩, rfl⟩) (fun hb => ⟨_, h.cell 0 rfl rfl, c17.mono ?_⟩)
    rintro _ w88 ⟨rfl, rfl⟩
    refine ⟨_, rfl, ?_, rfl⟩
    simp only [Bool.not_eq_false', Bool.and_eq_true, decide_eq_true_eq, hb, true_and]
  rintro (b16 : Bool) w' ⟨i16, rfl⟩
  refine JoinW.cut1 (fun (b : Bool) w' => (b = false ↔ (b16 = false) ∧ (0 ≤ d.Ins ∧ d.Ins ≤ 1099511627776)) ∧ w5 = w') ?_ ?_
  · refine BIf.of (fun hb => ⟨⟨(fun hh => by cases hh), fun hh => by rw [hh.1] at hb; cases hb⟩, rfl⟩) (fun hb => ⟨_, h.cell 0 rfl rfl, c17.mono ?_⟩)
    rintro _ w88 ⟨rfl, rfl⟩
    refine ⟨_, rfl, ?_, rfl⟩
    simp only [Bool.not_eq_false', Bool.and_eq_true, decide_eq_true_eq, hb, true_and]
  rintro (b19 : Bool) w' ⟨i19, rfl⟩
  refine JoinW.cut1 (fun (b : Bool) w' => (b = false ↔ (b19 = false) ∧ (0 ≤ d.Outs ∧ d.Outs ≤ 1099511627776)) ∧ w5 = w') ?_ ?_
  · refine BIf.of (fun hb => ⟨⟨(fun hh => by cases hh), fun hh => by rw [hh.1] at hb; cases hb⟩, rfl⟩) (fun hb => ⟨_, h.cell 0 rfl rfl, c17.mono ?_⟩)
    rintro _ w88 ⟨rfl, rfl⟩
    refine ⟨_, rfl, ?_, rfl⟩
    simp only [Bool.not_eq_false', Bool.and_eq_true, decide_eq_true_eq, hb, true_and]
  rintro (b22 : Bool) w' ⟨i22, rfl⟩
  have hhd : b22 = false ↔ HdOk d := by
    rw [i22, i19, i16, i13]
    constructor
    · rintro ⟨⟨⟨⟨⟨⟨⟨a1, a2⟩, a3⟩, a4⟩, a5⟩, a6⟩, a7⟩, a8⟩
      exact ⟨a1, a2, ⟨a3, a4⟩, a5, a6, a7, a8⟩
    · rintro ⟨a1, a2, ⟨a3, a4⟩, a5, a6, a7, a8⟩
      exact ⟨⟨⟨⟨⟨⟨⟨a1, a2⟩, a3⟩, a4⟩, a5⟩, a6⟩, a7⟩, a8⟩
  clear i22 i19 i16 i13 i10 i7
  refine BIf.of (fun hb => kb_f (fun hh => by rw [hhd.2 hh.hd] at hb; cases hb) h.ext) (fun hb => ?_)
  have hhd := hhd.1 hb
  refine ⟨sp, h.cell 0 rfl rfl, ?_⟩
  rw [hd.pages.len]
  refine JoinW.cut1 (fun (b : Bool) w' => (b = true ↔ (d.Pages.length ≤ 128 ∧ SpsOk d)) ∧ SH w w' [aB w.heap.size ((vmV d sp ss so).map Ce.v)]) ?_ ?_
  · refine BIf.dec (fun hle => ?_) (fun hle => ⟨⟨(fun hh => by cases hh), fun hh => by omega⟩, h⟩)
    refine ⟨_, h.cell 0 rfl rfl, _, h.cell 0 rfl rfl, _, h.cell 0 rfl rfl, _, h.cell 0 rfl rfl, _, h.cell 0 rfl rfl, _, h.cell 0 rfl rfl, _, h.cell 0 rfl rfl, sp, h.cell 0 rfl rfl, ss, h.cell 0 rfl rfl, so, h.cell 0 rfl rfl, (c18 (hd.ext h.ext)).mono ?_⟩
    rintro _ w72 ⟨b, rfl, hi, e⟩
    exact ⟨_, rfl, ⟨fun hh => ⟨by omega, hi.1 hh⟩, fun hh => hi.2 hh.2⟩, h.to e⟩
  rintro (b26 : Bool) w28 ⟨i26, h⟩
  refine JoinW.cut1 (fun (b : Bool) w' => (b = true ↔ ((d.Pages.length ≤ 128 ∧ SpsOk d) ∧ ObsOk d)) ∧ SH w w' [aB w.heap.size ((vmV d sp ss so).map Ce.v)]) ?_ ?_
  · refine BIf.of (fun hb => ?_) (fun hb => ⟨⟨(fun hh => by cases hh), fun hh => by rw [i26.2 hh.1] at hb; cases hb⟩, h⟩)
    refine ⟨_, h.cell 0 rfl rfl, _, h.cell 0 rfl rfl, _, h.cell 0 rfl rfl, _, h.cell 0 rfl rfl, _, h.cell 0 rfl rfl, _, h.cell 0 rfl rfl, _, h.cell 0 rfl rfl, sp, h.cell 0 rfl rfl, ss, h.cell 0 rfl rfl, so, h.cell 0 rfl rfl, (c19 (hd.ext h.ext)).mono ?_⟩
    rintro _ w59 ⟨b, rfl, hi, e⟩
    exact ⟨_, rfl, ⟨fun hh => ⟨i26.1 hb, hi.1 hh⟩, fun hh => hi.2 hh.2⟩, h.to e⟩
  rintro (b29 : Bool) w31 ⟨i29, h⟩
  refine JoinW.cut1 (fun (b : Bool) w' => (b = true ↔ (((d.Pages.length ≤ 128 ∧ SpsOk d) ∧ ObsOk d) ∧ PgsOk d)) ∧ SH w w' [aB w.heap.size ((vmV d sp ss so).map Ce.v)]) ?_ ?_
  · refine BIf.of (fun hb => ?_) (fun hb => ⟨⟨(fun hh => by cases hh), fun hh => by rw [i29.2 hh.1] at hb; cases hb⟩, h⟩)
    have hf := hhd.frames
    refine ⟨_, h.cell 0 rfl rfl, _, h.cell 0 rfl rfl, _, h.cell 0 rfl rfl, _, h.cell 0 rfl rfl, _, h.cell 0 rfl rfl, _, h.cell 0 rfl rfl, _, h.cell 0 rfl rfl, sp, h.cell 0 rfl rfl, ss, h.cell 0 rfl rfl, so, h.cell 0 rfl rfl, (c20 (hd.ext h.ext) (by omega) hhd.slots).mono ?_⟩
    rintro _ w46 ⟨b, rfl, hi, e⟩
    exact ⟨_, rfl, ⟨fun hh => ⟨i29.1 hb, hi.1 hh⟩, fun hh => hi.2 hh.2⟩, h.to e⟩
  rintro (b32 : Bool) w34 ⟨i32, h⟩
  refine ⟨_, rfl, ?_, h.ext⟩
  rw [i32]
  exact ⟨fun ⟨⟨⟨a, b⟩, c⟩, e⟩ => ⟨hhd, a, b, c, e⟩, fun hh => ⟨⟨⟨hh.few, hh.sps⟩, hh.obs⟩, hh.pgs⟩⟩
end Go.Proofs.Ytagjjhfhfjdcaaa

/- Pages, spaces, objects: uses, obj, held, places, the program's side. Conditions: none. -/
set_option linter.unusedVariables false
set_option linter.unusedSimpArgs false
namespace Go.Proofs.Ytagjjhfhfjdcaaa
open Go Go.Den
/-- A state behind a pointer, lent. -/
structure VmP (w : World) (p : Addr) (sp ss so : Sl) (d : DVm) : Prop where
  cells : ∀ j v, (vmV d sp ss so)[j]? = some v → w.cell? (p.add j) = some v
  at_ : VmAt w sp ss so d
theorem SH.vmP {w0 w : World} {As : List Asr} (h : SH w0 w As) (n : Nat) {b : Nat} {sp ss so : Sl} {d : DVm} (hA : As[n]? = some (aB b ((vmV d sp ss so).map Ce.v))) (hd : VmAt w sp ss so d) : VmP w ⟨b, 0, none⟩ sp ss so d :=
  ⟨fun j v hv => by
    have := h.cell n hA (i := j) (x := v) (by rw [List.getElem?_map, hv]; rfl)
    rw [add_mk, Nat.zero_add]; exact this, hd⟩
theorem c26 {p : Addr} {id : Int} {sp ss so : Sl} {d : DVm} {w : World} (hd : VmP w p sp ss so d) : CallW Try.prog 26 #[.pointer (some p), .int .i64 id] w (KB (∃ r, r ∈ regsOf d ∧ r.Obj = id) w) := by
  refine go26 ?_
  unfold W26
  have h := SH.start w
  have hl := hd.at_.spaces.len
  have hf := hd.at_.spaces.small
  refine ⟨p, rfl, ss, hd.cells 8 _ rfl, ?_⟩
  rw [hl]
  refine LoopW.m1 (fun (i : Int) w' => ∃ k : Nat, i = k ∧ k ≤ d.Spaces.length ∧ (∀ j x, j < k → d.Spaces[j]? = some x → ∀ r, r ∈ x.Regions → r.Obj ≠ id) ∧ SH w w' []) (fun (i : Int) _ => ((d.Spaces.length : Int) - i).toNat) ⟨0, rfl, by omega, (fun j y hj => by omega), h⟩ ?_
  rintro (i : Int) w5 ⟨k, rfl, hk, hno, h⟩ J hJ
  refine BIf.dec (fun hlt => ?_) (fun hge => ?_)
  · obtain ⟨x, hx⟩ : ∃ x, d.Spaces[k]? = some x := ⟨_, List.getElem?_eq_getElem (by omega)⟩
    obtain ⟨q, hq, t, hc0, hc1, hrs⟩ := hd.at_.spaces.get k x hx
    have hrl := hrs.len
    have hrss := hrs.small
    refine ⟨by omega, by omega, q, hq, _, h.ext.cell hc0, t, h.ext.cell hc1, ?_⟩
    refine h.alloc (fun w9 h ew9 nw9 => ?_)
    refine h.put 0 rfl rfl rfl (fun w10 h nw10 => ?_)
    generalize w5.heap.size = cb at *
    refine ⟨t, h.cell 0 rfl rfl, ?_⟩
    rw [hrl]
    refine LoopW.m1 (fun (i : Int) w' => ∃ m : Nat, i = m ∧ m ≤ x.Regions.length ∧ (∀ j r, j < m → x.Regions[j]? = some r → r.Obj ≠ id) ∧ SH w w' []) (fun (i : Int) _ => ((x.Regions.length : Int) - i).toNat) ⟨0, rfl, by omega, (fun j y hj => by omega), h.drop⟩ ?_
    rintro (i : Int) w14 ⟨m, rfl, hm, hno2, h⟩ J2 hJ2
    refine BIf.dec (fun hlt2 => ?_) (fun hge2 => ?_)
    · obtain ⟨y, hy⟩ : ∃ y, x.Regions[m]? = some y := ⟨_, List.getElem?_eq_getElem (by omega)⟩
      obtain ⟨q2, hq2, tf, th, r0, r1, r2, r3, r4, r5, _⟩ := (hrs.ext fun _ _ hh => hh.ext h.ext).get m y hy
      refine ⟨by omega, by omega, q2, hq2, _, r0, _, r1, _, r2, _, r3, tf, r4, th, r5, ?_⟩
      refine h.alloc (fun w22 h ew22 nw22 => ?_)
      refine h.put 0 rfl rfl rfl (fun w23 h nw23 => ?_)
      refine ⟨_, h.cell 0 rfl rfl, ?_⟩
      refine BIf.eq (fun he => kb_t ⟨y, List.mem_flatMap.2 ⟨x, List.mem_of_getElem? hx, List.mem_of_getElem? hy⟩, he⟩ h.ext) (fun he => ?_)
      rw [Go.Den.w64 (by omega) (by omega)]
      refine hJ2 _ _ ⟨m + 1, by omega, by omega, fun j r hj hjr => ?_, h.drop⟩ (by omega)
      by_cases hjm : j = m
      · subst hjm; rw [hy] at hjr; cases hjr; exact he
      · exact hno2 j r (by omega) hjr
    · rw [Go.Den.w64 (by omega) (by omega)]
      refine hJ _ _ ⟨k + 1, by omega, by omega, fun j z hj hjz r hr => ?_, h⟩ (by omega)
      by_cases hjk : j = k
      · subst hjk; rw [hx] at hjz; cases hjz
        obtain ⟨i, hi, rfl⟩ := List.getElem_of_mem hr
        exact hno2 i _ (by omega) (List.getElem?_eq_getElem hi)
      · exact hno j z (by omega) hjz r hr
  · refine kb_f (fun hh => ?_) h.ext
    obtain ⟨r, hr, he⟩ := hh
    obtain ⟨x, hx, hrx⟩ := List.mem_flatMap.1 hr
    obtain ⟨i, hi, rfl⟩ := List.getElem_of_mem hx
    exact hno i _ (by omega) (List.getElem?_eq_getElem hi) r hrx he
theorem c28 {p : Addr} {id : Int} {sp ss so : Sl} {d : DVm} {w : World} (hd : VmP w p sp ss so d) : CallW Try.prog 28 #[.pointer (some p), .int .i64 id] w (fun v w' => v = .pointer (ptrE so 3 (objIx d id)) ∧ w' = w) := by
  refine go28 ?_
  unfold W28
  have hl := hd.at_.objs.len
  have hf := hd.at_.objs.small
  refine ⟨p, rfl, so, hd.cells 9 _ rfl, ?_⟩
  rw [hl]
  refine LoopW.m1 (fun (i : Int) w' => ∃ k : Nat, i = k ∧ k ≤ d.Objs.length ∧ (∀ j y, j < k → d.Objs[j]? = some y → (y.Id == id) = false) ∧ w' = w) (fun (i : Int) _ => ((d.Objs.length : Int) - i).toNat) ⟨0, rfl, by omega, (fun j y hj => by omega), rfl⟩ ?_
  rintro (i : Int) _ ⟨k, rfl, hk, hno, rfl⟩ J hJ
  refine BIf.dec (fun hlt => ?_) (fun hge => ?_)
  · obtain ⟨x, hx⟩ : ∃ x, d.Objs[k]? = some x := ⟨_, List.getElem?_eq_getElem (by omega)⟩
    obtain ⟨q, hq, t, hc0, _⟩ := hd.at_.objs.get k x hx
    refine ⟨p, rfl, so, hd.cells 9 _ rfl, by omega, by omega, q, hq, _, hc0, ?_⟩
    refine BIf.eq (fun he => ?_) (fun he => ?_)
    · refine ⟨p, rfl, so, hd.cells 9 _ rfl, by omega, by omega, q, hq, ?_, rfl⟩
      have : objIx d id = (k : Int) := by unfold objIx; rw [idx_at hx (by simpa using he) hno]
      rw [this, ptrE_at hq]
      simp
    · rw [Go.Den.w64 (by omega) (by omega)]
      refine hJ _ _ ⟨k + 1, by omega, by omega, fun j y hj hy => ?_, rfl⟩ (by omega)
      by_cases hjk : j = k
      · subst hjk; rw [hx] at hy; cases hy; simpa using he
      · exact hno j y (by omega) hy
  · have : objIx d id = -1 := by unfold objIx; rw [idx_no (fun j y hy => hno j y (by have := (List.getElem?_eq_some_iff.1 hy).1; omega) hy)]
    rw [this, ptrE_neg (by omega)]
    exact ⟨rfl, rfl⟩
def heldP (l : List DRegion) : List (List Int) := (l.filter (fun r => decide (r.Obj < 0))).map (·.Held)
def heldL (d : DVm) : List (List Int) := heldP (regsOf d) ++ d.Objs.map (·.Held)
theorem heldP_app (a b : List DRegion) : heldP (a ++ b) = heldP a ++ heldP b := by unfold heldP; rw [List.filter_append, List.map_append]
theorem heldP_le (a : List DRegion) : (heldP a).length ≤ a.length := by unfold heldP; rw [List.length_map]; exact List.length_filter_le _ _
theorem heldP_flat (l : List DRegion) : (heldP l).flatten.length ≤ (heldR l).length := by
  induction l with
  | nil => simp [heldP]
  | cons r l ih =>
    have e : heldR (r :: l) = r.Held ++ heldR l := rfl
    rw [e, List.length_append]
    have e2 : heldP (r :: l) = heldP [r] ++ heldP l := heldP_app [r] l
    rw [e2, List.flatten_append, List.length_append]
    have : (heldP [r]).flatten.length ≤ r.Held.length := by
      unfold heldP
      by_cases h : r.Obj < 0 <;> simp [h]
    omega
theorem heldL_flat (d : DVm) : (heldL d).flatten.length ≤ (placesOf d).length := by
  unfold heldL placesOf sharedOf
  rw [List.flatten_append, List.length_append, List.length_append, ← List.flatMap_def]
  have := heldP_flat (regsOf d)
  unfold heldR at this
  omega
abbrev slV (p : Sl × List Int) : List Value := [.slice p.1.a p.1.len p.1.cap]
theorem ext_trans {a b c : World} (h : Ext a b) (g : Ext b c) : Ext a c := Only.trans h g
theorem c29 {p : Addr} {sp ss so : Sl} {d : DVm} {w : World} (hd : VmP w p sp ss so d) {wb : World} (hb : VmAt wb sp ss so d) (eb : Ext wb w) : CallW Try.prog 29 #[.pointer (some p)] w (fun v w' => ∃ (t : Sl) (hs : List (Sl × List Int)), v = .slice t.a t.len t.cap ∧ hs.map (·.2) = heldL d ∧ (∀ x, x ∈ hs → NumAt wb x.1 x.2) ∧ SH w w' [aRow t 1 (recs slV hs)]) := by
  refine go29 ?_
  unfold W29
  have h := SH.start w
  have hl := hd.at_.spaces.len
  have hf := hd.at_.spaces.small
  have hrg := hd.at_.regs
  have hrg' : (d.Spaces.flatMap (·.Regions)).length ≤ 1048576 := hrg
  refine ⟨p, rfl, ss, hd.cells 8 _ rfl, ?_⟩
  rw [hl]
  refine LoopW.m2 (fun (s : Sl) (i : Int) w' => ∃ (k : Nat) (hs : List (Sl × List Int)), i = k ∧ k ≤ d.Spaces.length ∧ hs.map (·.2) = heldP ((d.Spaces.take k).flatMap (·.Regions)) ∧ (∀ x, x ∈ hs → NumAt wb x.1 x.2) ∧ SH w w' [aRow s 1 (recs slV hs)]) (fun (s : Sl) (i : Int) _ => ((d.Spaces.length : Int) - i).toNat) ⟨0, [], rfl, by omega, rfl, (fun x hx => by cases hx), h.nil none 1⟩ ?_
  rintro (s : Sl) (i : Int) w6 ⟨k, hs, rfl, hk, hhs, hnu, h⟩ J hJ
  have hhl : hs.length ≤ 1048576 := by
    have h1 := congrArg List.length hhs
    rw [List.length_map] at h1
    have h2 := heldP_le ((d.Spaces.take k).flatMap (·.Regions))
    have h3 := fm_le d.Spaces k (·.Regions)
    omega
  refine BIf.dec (fun hlt => ?_) (fun hge => ?_)
  · obtain ⟨x, hx⟩ : ∃ x, d.Spaces[k]? = some x := ⟨_, List.getElem?_eq_getElem (by omega)⟩
    obtain ⟨q, hq, t, hc0, hc1, hrs⟩ := hb.spaces.get k x hx
    have hrl := hrs.len
    have hrss := hrs.small
    refine ⟨by omega, by omega, q, hq, _, (ext_trans eb h.ext).cell hc0, t, (ext_trans eb h.ext).cell hc1, ?_⟩
    refine h.alloc (fun w10 h ew9 nw9 => ?_)
    refine h.put 0 rfl rfl rfl (fun w11 h nw10 => ?_)
    generalize w6.heap.size = cb at *
    refine ⟨t, h.cell 0 rfl rfl, ?_⟩
    rw [hrl]
    refine LoopW.m2 (fun (s : Sl) (i : Int) w' => ∃ (m : Nat) (gs : List (Sl × List Int)), i = m ∧ m ≤ x.Regions.length ∧ gs.map (·.2) = heldP ((d.Spaces.take k).flatMap (·.Regions)) ++ heldP (x.Regions.take m) ∧ (∀ x, x ∈ gs → NumAt wb x.1 x.2) ∧ SH w w' [aRow s 1 (recs slV gs)]) (fun (s : Sl) (i : Int) _ => ((x.Regions.length : Int) - i).toNat) ⟨0, hs, rfl, by omega, by rw [hhs]; simp [heldP], hnu, h.drop⟩ ?_
    rintro (s : Sl) (i : Int) w16 ⟨m, gs, rfl, hm, hgs, hng, h⟩ J2 hJ2
    have hgl : gs.length ≤ 2097152 := by
      have h1 := congrArg List.length hgs
      rw [List.length_map, List.length_append] at h1
      have h2 := heldP_le ((d.Spaces.take k).flatMap (·.Regions))
      have h3 := fm_le d.Spaces k (·.Regions)
      have h4 := heldP_le (x.Regions.take m)
      rw [List.length_take] at h4
      omega
    refine BIf.dec (fun hlt2 => ?_) (fun hge2 => ?_)
    · obtain ⟨y, hy⟩ : ∃ y, x.Regions[m]? = some y := ⟨_, List.getElem?_eq_getElem (by omega)⟩
      obtain ⟨q2, hq2, tf, th, r0, r1, r2, r3, r4, r5, hby, hnm⟩ := hrs.get m y hy
      have e := ext_trans eb h.ext
      have hm1 : IntKind.wrap .i64 ((m : Int) + 1) = (m : Int) + 1 := Go.Den.w64 (by omega) (by omega)
      have hts : heldP (x.Regions.take (m + 1)) = heldP (x.Regions.take m) ++ heldP [y] := by rw [take_snoc hy, heldP_app]
      refine ⟨by omega, by omega, q2, hq2, _, e.cell r0, _, e.cell r1, _, e.cell r2, _, e.cell r3, tf, e.cell r4, th, e.cell r5, ?_⟩
      refine h.alloc (fun w24 h ew22 nw22 => ?_)
      refine h.put 0 rfl rfl rfl (fun w25 h nw23 => ?_)
      refine ⟨_, h.cell 0 rfl rfl, ?_⟩
      refine BIf.dec (fun hneg => ?_) (fun hneg => ?_)
      · refine ⟨th, h.cell 0 rfl rfl, ?_⟩
        refine LetW_iff.2 (SH.appendR1 (x := (th, y.Held)) h.p1 rfl rfl rfl (by decide) (by show (_ + 1) * 24 ≤ _; omega) (fun v hv => by rw [List.mem_singleton.1 hv]; rfl) (fun s' w30 h hsl hsz => ?_))
        rw [hm1]
        refine hJ2 _ _ _ ⟨m + 1, gs ++ [(th, y.Held)], by omega, by omega, ?_, fun x hx => ?_, h.p1.drop⟩ (by omega)
        · rw [List.map_append, hgs, hts, List.append_assoc]; congr 2; simp [heldP, hneg]
        · rcases List.mem_append.1 hx with hx | hx
          · exact hng x hx
          · rw [List.mem_singleton.1 hx]; exact hnm
      · rw [hm1]
        refine hJ2 _ _ _ ⟨m + 1, gs, by omega, by omega, ?_, hng, h.drop⟩ (by omega)
        rw [hgs, hts]; congr 1; simp [heldP, hneg]
    · rw [Go.Den.w64 (n := (k : Int) + 1) (by omega) (by omega)]
      have hm' : x.Regions.take m = x.Regions := List.take_of_length_le (by omega)
      refine hJ _ _ _ ⟨k + 1, gs, by omega, by omega, ?_, hng, h⟩ (by omega)
      rw [hgs, hm', fm_snoc (fun s : DSpace => s.Regions) hx, heldP_app]
  · have hkt : d.Spaces.take k = d.Spaces := List.take_of_length_le (by omega)
    rw [hkt] at hhs
    have hol := hd.at_.objs.len
    have hos := hd.at_.objs.small
    refine ⟨p, rfl, so, h.ext.cell (hd.cells 9 _ rfl), ?_⟩
    rw [hol]
    refine LoopW.m2 (fun (s : Sl) (i : Int) w' => ∃ (m : Nat) (gs : List (Sl × List Int)), i = m ∧ m ≤ d.Objs.length ∧ gs.map (·.2) = heldP (regsOf d) ++ (d.Objs.take m).map (·.Held) ∧ (∀ x, x ∈ gs → NumAt wb x.1 x.2) ∧ SH w w' [aRow s 1 (recs slV gs)]) (fun (s : Sl) (i : Int) _ => ((d.Objs.length : Int) - i).toNat) ⟨0, hs, rfl, by omega, by rw [hhs]; simp [regsOf], hnu, h⟩ ?_
    rintro (s : Sl) (i : Int) w36 ⟨m, gs, rfl, hm, hgs, hng, h⟩ J2 hJ2
    have hgl : gs.length ≤ 2097152 := by
      have h1 := congrArg List.length hgs
      rw [List.length_map, List.length_append, List.length_map, List.length_take] at h1
      have h2 := heldP_le (regsOf d)
      omega
    refine BIf.dec (fun hlt2 => ?_) (fun hge2 => ?_)
    · obtain ⟨y, hy⟩ : ∃ y, d.Objs[m]? = some y := ⟨_, List.getElem?_eq_getElem (by omega)⟩
      obtain ⟨q2, hq2, th, r0, r1, r2, hnm⟩ := hb.objs.get m y hy
      have e := ext_trans eb h.ext
      refine ⟨by omega, by omega, q2, hq2, _, e.cell r0, _, e.cell r1, th, e.cell r2, ?_⟩
      refine h.alloc (fun w41 h ew22 nw22 => ?_)
      refine h.put 0 rfl rfl rfl (fun w42 h nw23 => ?_)
      refine ⟨th, h.cell 0 rfl rfl, ?_⟩
      refine LetW_iff.2 (SH.appendR1 (x := (th, y.Held)) h.p1 rfl rfl rfl (by decide) (by show (_ + 1) * 24 ≤ _; omega) (fun v hv => by rw [List.mem_singleton.1 hv]; rfl) (fun s' w46 h hsl hsz => ?_))
      rw [Go.Den.w64 (by omega) (by omega)]
      refine hJ2 _ _ _ ⟨m + 1, gs ++ [(th, y.Held)], by omega, by omega, ?_, fun x hx => ?_, h.p1.drop⟩ (by omega)
      · rw [List.map_append, hgs, take_snoc hy, List.map_append, List.append_assoc]; rfl
      · rcases List.mem_append.1 hx with hx | hx
        · exact hng x hx
        · rw [List.mem_singleton.1 hx]; exact hnm
    · have hm' : d.Objs.take m = d.Objs := List.take_of_length_le (by omega)
      rw [hm'] at hgs
      exact ⟨s, gs, rfl, hgs, hng, h⟩
theorem sum_flat (l : List (List Int)) (k : Nat) : (l.take k).flatten.length ≤ l.flatten.length := by
  have : l.flatten = (l.take k).flatten ++ (l.drop k).flatten := by rw [← List.flatten_append, List.take_append_drop]
  rw [this, List.length_append]; omega
theorem c30 {p : Addr} {sp ss so : Sl} {d : DVm} {w : World} (hd : VmP w p sp ss so d) : CallW Try.prog 30 #[.pointer (some p)] w (fun v w' => v = .int .i64 ((heldL d).flatten.length : Nat) ∧ Ext w w') := by
  refine go30 ?_
  unfold W30
  refine (c29 hd hd.at_ (Only.refl _ _)).mono ?_
  rintro _ w2 ⟨t, hs, rfl, hhs, hnu, h⟩
  refine ⟨t, rfl, ?_⟩
  have htl : t.len = hs.length := by rw [h.len 0 rfl, recs_len]
  have hb1 := heldL_flat d
  have hpl := hd.at_.pl
  have hhl : hs.length ≤ 2097152 := by
    have h1 := congrArg List.length hhs
    unfold heldL at h1
    rw [List.length_map, List.length_append, List.length_map] at h1
    have h2 := heldP_le (regsOf d)
    have := hd.at_.regs
    have := hd.at_.objs.small
    omega
  rw [htl]
  refine LoopW.m2 (fun (n i : Int) w' => ∃ k : Nat, i = k ∧ k ≤ hs.length ∧ n = (((heldL d).take k).flatten.length : Nat) ∧ w' = w2) (fun (n i : Int) _ => ((hs.length : Int) - i).toNat) ⟨0, rfl, by omega, rfl, rfl⟩ ?_
  rintro (n : Int) (i : Int) _ ⟨k, rfl, hk, rfl, rfl⟩ J hJ
  refine BIf.dec (fun hlt => ?_) (fun hge => ?_)
  · obtain ⟨x, hx⟩ : ∃ x, hs[k]? = some x := ⟨_, List.getElem?_eq_getElem (by omega)⟩
    obtain ⟨q, hq, hrd⟩ := h.elem0 0 (k := k) (x := .slice x.1.a x.1.len x.1.cap) rfl (recs_get hx) rfl
    have hxl := (hnu x (List.mem_of_getElem? hx)).len
    have hxh : (heldL d)[k]? = some x.2 := by rw [← hhs, List.getElem?_map, hx]; rfl
    have hst : ((heldL d).take (k + 1)).flatten.length = ((heldL d).take k).flatten.length + x.2.length := by rw [take_snoc hxh, List.flatten_append, List.length_append]; simp
    have hb2 := sum_flat (heldL d) (k + 1)
    refine ⟨by omega, by omega, q, hq, x.1, hrd, ?_⟩
    rw [hxl, Go.Den.w64 (n := ((((heldL d).take k).flatten.length : Nat) : Int) + _) (by omega) (by omega), Go.Den.w64 (by omega) (by omega)]
    exact hJ _ _ _ ⟨k + 1, by omega, by omega, by omega, rfl⟩ (by omega)
  · have : (heldL d).take k = heldL d := List.take_of_length_le (by have h1 := congrArg List.length hhs; rw [List.length_map] at h1; omega)
    rw [this]
    exact ⟨rfl, h.ext⟩
end Go.Proofs.Ytagjjhfhfjdcaaa

/- Pages, spaces, objects: counts kept in a map; what the program asks comes to what the reference asks. Conditions: none. -/
set_option linter.unusedVariables false
set_option linter.unusedSimpArgs false
namespace Go.Den
open Go
def cntM (ids seen : List Int) : List (Int × Int) := ids.map (fun id => (id, ((seen.count id : Nat) : Int)))
theorem putI_new {n x : Int} : ∀ {l : List (Int × Int)}, n ∉ l.map (·.1) → putI n x l = l ++ [(n, x)]
  | [], _ => rfl
  | p :: l, h => by
    simp only [List.map_cons, List.mem_cons, not_or] at h
    unfold putI
    rw [if_neg h.1, putI_new h.2]; rfl
theorem lookI_cnt {n : Int} {seen : List Int} : ∀ {ids : List Int}, lookI n (cntM ids seen) = if n ∈ ids then some ((seen.count n : Nat) : Int) else none
  | [] => rfl
  | p :: l => by
    show (if n = p then some ((seen.count p : Nat) : Int) else lookI n (cntM l seen)) = _
    by_cases h : n = p
    · subst h; simp
    · rw [if_neg h, lookI_cnt]; simp [h]
theorem cntM_other {n : Int} {ids seen : List Int} (h : n ∉ ids) : cntM ids (seen ++ [n]) = cntM ids seen := by
  unfold cntM
  apply List.map_congr_left
  intro id hid
  have : n ≠ id := fun hh => h (hh ▸ hid)
  rw [List.count_append]; simp [this]
theorem putI_cnt {n : Int} {seen : List Int} : ∀ {ids : List Int}, ids.Nodup → n ∈ ids → putI n (((seen.count n : Nat) : Int) + 1) (cntM ids seen) = cntM ids (seen ++ [n])
  | p :: l, hn, hm => by
    rw [List.nodup_cons] at hn
    show (if n = p then (n, _) :: cntM l seen else (p, ((seen.count p : Nat) : Int)) :: putI n _ (cntM l seen)) = (p, (((seen ++ [n]).count p : Nat) : Int)) :: cntM l (seen ++ [n])
    by_cases h : n = p
    · subst h
      rw [if_pos rfl, cntM_other hn.1]
      congr 2
      rw [List.count_append]; simp
    · rw [if_neg h, putI_cnt hn.2 (by rcases List.mem_cons.1 hm with hh | hh; exact absurd hh h; exact hh)]
      congr 3
      rw [List.count_append]; simp [h]
end Go.Den
namespace Go.Proofs.Ytagjjhfhfjdcaaa
open Go Go.Den
theorem held_flat {d : DVm} (h : SpsOk d) : (heldL d).flatten = placesOf d := by
  unfold heldL placesOf sharedOf
  rw [List.flatten_append, ← List.flatMap_def]
  congr 1
  have key : ∀ l : List DRegion, (∀ r, r ∈ l → ¬ r.Obj < 0 → r.Held = []) → (heldP l).flatten = l.flatMap (·.Held) := fun l => by
    induction l with
    | nil => intro _; rfl
    | cons r l ih =>
      intro hl
      have e2 : heldP (r :: l) = heldP [r] ++ heldP l := heldP_app [r] l
      rw [e2, List.flatten_append, ih (fun r hr => hl r (List.mem_cons_of_mem _ hr)), List.flatMap_cons]
      congr 1
      by_cases hr : r.Obj < 0
      · simp [heldP, hr]
      · rw [hl r List.mem_cons_self hr]; simp [heldP, hr]
  refine key _ (fun r hr hn => ?_)
  obtain ⟨s, hs, hrs⟩ := List.mem_flatMap.1 hr
  obtain ⟨i, hi, rfl⟩ := List.getElem_of_mem hs
  obtain ⟨k, hk, rfl⟩ := List.getElem_of_mem hrs
  obtain ⟨_, _, ho⟩ := ((h.2 i _ (List.getElem?_eq_getElem hi)).regs k _ (List.getElem?_eq_getElem hk)).sh (by omega)
  exact ho.held
/-- What the program has asked when it says yes. -/
theorem vok_of {d : DVm} (hd : HdOk d) (sps : SpsOk d) (obs : ObsOk d) (pg : ∀ (i : Nat) p, d.Pages[i]? = some p → PgOk d i p)
    (cover : ∀ x, x ∈ (heldL d).flatten → x = 0 ∨ x ∈ d.Pages.map (·.Id)) (one : ∀ x, x ∈ d.Pages.map (·.Id) → (heldL d).flatten.count x ≠ 0)
    (sh : ∀ x, x ∈ sharedOf d → x ≠ 0 → (heldL d).flatten.count x ≤ 1) (room : ((heldL d).flatten.length : Int) ≤ d.Frames + d.Slots) : VOk d := by
  rw [held_flat sps] at cover one sh room
  have hnd := ids_nodup (d := d) (fun i p hp => (pg i p hp).sorted)
  have hm : ∀ (i : Nat) p, d.Pages[i]? = some p → p.Id ∈ d.Pages.map (·.Id) := fun i p hp => List.mem_map.2 ⟨p, List.mem_of_getElem? hp, rfl⟩
  have hfew := cnt_few (l := placesOf d) hnd (fun x hx => List.count_pos_iff.1 (Nat.pos_of_ne_zero (one x hx)))
  rw [List.length_map] at hfew
  have h1 := hd.frames
  have h2 := hd.slots
  refine ⟨hd, by omega, sps, obs, room, pg, fun i p hp => ⟨one _ (hm i p hp), fun hc => ?_⟩, cover⟩
  refine List.count_eq_zero.2 (fun hs => ?_)
  have := sh _ hs (by have := (pg i p hp).id1; omega)
  omega
end Go.Proofs.Ytagjjhfhfjdcaaa

/- Pages, spaces, objects: when a state can be, the program's side. Conditions: none. -/
set_option linter.unusedVariables false
set_option linter.unusedSimpArgs false
namespace Go.Proofs.Ytagjjhfhfjdcaaa
open Go Go.Den
theorem ids_lt' {d : DVm} (k : Nat) (h : ∀ (i : Nat) p, i ≤ k → d.Pages[i]? = some p → ∀ z, 0 < i → d.Pages[i - 1]? = some z → z.Id < p.Id) : ∀ (i : Nat) (p q : DVPage), i < k → d.Pages[i]? = some p → d.Pages[k]? = some q → p.Id < q.Id := by
  have key : ∀ (j : Nat), j ≤ k → ∀ (i : Nat) (p q : DVPage), i < j → d.Pages[i]? = some p → d.Pages[j]? = some q → p.Id < q.Id := fun j => by
    induction j with
    | zero => intro _ i p q hij; omega
    | succ j ih =>
      intro hj i p q hij hp hq
      obtain ⟨z, hz⟩ : ∃ z, d.Pages[j]? = some z := ⟨_, List.getElem?_eq_getElem (by have := (List.getElem?_eq_some_iff.1 hq).1; omega)⟩
      have h1 := h (j + 1) q hj hq z (by omega) hz
      by_cases hij' : i = j
      · subst hij'; rw [hp] at hz; cases hz; exact h1
      · have := ih (by omega) i p z (by omega) hp hz; omega
  exact key k (Nat.le_refl _)
set_option maxHeartbeats 4000000 in
theorem c8 {sp ss so : Sl} {d : DVm} {w : World} (hd : VmAt w sp ss so d) : CallW Try.prog 8 #[.agg ⟨vmV d sp ss so⟩] w (KB (VOk d) w) := by
  refine go8 ?_
  unfold W8
  have h := SH.start w
  refine h.alloc (fun w1 h ew1 nw1 => ?_)
  have hlp := hd.pages.len
  have hfp := hd.pages.small
  have hls := hd.spaces.len
  have hfs := hd.spaces.small
  have hol := hd.objs.len
  have hos := hd.objs.small
  refine ⟨_, h.cell 0 rfl rfl, _, h.cell 0 rfl rfl, c25.mono ?_⟩
  rintro _ w5 ⟨rfl, rfl⟩
  refine ⟨_, rfl, ?_⟩
  refine JoinW.cut1 (fun (b : Bool) w' => (b = false ↔ ((1 ≤ d.Frames ∧ d.Frames ≤ 64) ∧ (0 ≤ d.Slots ∧ d.Slots ≤ 64)) ∧ 0 ≤ d.Hand) ∧ w5 = w') ?_ ?_
  · refine BIf.of (fun hb => ⟨⟨(fun hh => by cases hh), fun hh => ?_⟩, rfl⟩) (fun hb => ⟨_, h.cell 0 rfl rfl, ?_, rfl⟩)
    · simp only [Bool.not_eq_true', Bool.and_eq_false_iff, decide_eq_false_iff_not] at hb; omega
    · simp only [Bool.not_eq_false', Bool.and_eq_true, decide_eq_true_eq] at hb
      rw [decide_eq_false_iff_not]; omega
  rintro (b7 : Bool) w' ⟨i7, rfl⟩
  refine JoinW.cut1 (fun (b : Bool) w' => (b = false ↔ (((1 ≤ d.Frames ∧ d.Frames ≤ 64) ∧ (0 ≤ d.Slots ∧ d.Slots ≤ 64)) ∧ 0 ≤ d.Hand) ∧ d.Hand < d.Frames) ∧ w5 = w') ?_ ?_
  · refine BIf.of (fun hb => ⟨⟨(fun hh => by cases hh), fun hh => by rw [i7.2 hh.1] at hb; cases hb⟩, rfl⟩) (fun hb => ⟨_, h.cell 0 rfl rfl, _, h.cell 0 rfl rfl, ?_, rfl⟩)
    have := i7.1 hb
    rw [decide_eq_false_iff_not]; omega
  rintro (b10 : Bool) w' ⟨i10, rfl⟩
  refine JoinW.cut1 (fun (b : Bool) w' => (b = false ↔ ((((1 ≤ d.Frames ∧ d.Frames ≤ 64) ∧ (0 ≤ d.Slots ∧ d.Slots ≤ 64)) ∧ 0 ≤ d.Hand) ∧ d.Hand < d.Frames) ∧ (0 ≤ d.Next ∧ d.Next ≤ 1099511627776)) ∧ w5 = w') ?_ ?_
  · refine BIf.of (fun hb => ⟨⟨(fun hh => by cases hh), fun hh => by rw [i10.2 hh.1] at hb; cases hb⟩, rfl⟩) (fun hb => ⟨_, h.cell 0 rfl rfl, c24.mono ?_⟩)
    rintro _ w88 ⟨rfl, rfl⟩
    have := i10.1 hb
    refine ⟨_, rfl, ?_, rfl⟩
    simp only [Bool.not_eq_false', Bool.and_eq_true, decide_eq_true_eq]; omega
  rintro (b13 : Bool) w' ⟨i13, rfl⟩
  refine JoinW.cut1 (fun (b : Bool) w' => (b = false ↔ (b13 = false) ∧ (0 ≤ d.Faults ∧ d.Faults ≤ 1099511627776)) ∧ w5 = w') ?_ ?_
  · refine BIf.of (fun hb => ⟨⟨(fun hh => by cases hh), fun hh => by rw [hh.1] at hb; cases hb⟩, rfl⟩) (fun hb => ⟨_, h.cell 0 rfl rfl, c24.mono ?_⟩)
    rintro _ w88 ⟨rfl, rfl⟩
    refine ⟨_, rfl, ?_, rfl⟩
    simp only [Bool.not_eq_false', Bool.and_eq_true, decide_eq_true_eq, hb, true_and]
  rintro (b16 : Bool) w' ⟨i16, rfl⟩
  refine JoinW.cut1 (fun (b : Bool) w' => (b = false ↔ (b16 = false) ∧ (0 ≤ d.Ins ∧ d.Ins ≤ 1099511627776)) ∧ w5 = w') ?_ ?_
  · refine BIf.of (fun hb => ⟨⟨(fun hh => by cases hh), fun hh => by rw [hh.1] at hb; cases hb⟩, rfl⟩) (fun hb => ⟨_, h.cell 0 rfl rfl, c24.mono ?_⟩)
    rintro _ w88 ⟨rfl, rfl⟩
    refine ⟨_, rfl, ?_, rfl⟩
    simp only [Bool.not_eq_false', Bool.and_eq_true, decide_eq_true_eq, hb, true_and]
  rintro (b19 : Bool) w' ⟨i19, rfl⟩
  refine JoinW.cut1 (fun (b : Bool) w' => (b = false ↔ (b19 = false) ∧ (0 ≤ d.Outs ∧ d.Outs ≤ 1099511627776)) ∧ w5 = w') ?_ ?_
  · refine BIf.of (fun hb => ⟨⟨(fun hh => by cases hh), fun hh => by rw [hh.1] at hb; cases hb⟩, rfl⟩) (fun hb => ⟨_, h.cell 0 rfl rfl, c24.mono ?_⟩)
    rintro _ w88 ⟨rfl, rfl⟩
    refine ⟨_, rfl, ?_, rfl⟩
    simp only [Bool.not_eq_false', Bool.and_eq_true, decide_eq_true_eq, hb, true_and]
  rintro (b22 : Bool) w' ⟨i22, rfl⟩
  have hhd : b22 = false ↔ HdOk d := by
    rw [i22, i19, i16, i13]
    constructor
    · rintro ⟨⟨⟨⟨⟨⟨⟨a1, a2⟩, a3⟩, a4⟩, a5⟩, a6⟩, a7⟩, a8⟩
      exact ⟨a1, a2, ⟨a3, a4⟩, a5, a6, a7, a8⟩
    · rintro ⟨a1, a2, ⟨a3, a4⟩, a5, a6, a7, a8⟩
      exact ⟨⟨⟨⟨⟨⟨⟨a1, a2⟩, a3⟩, a4⟩, a5⟩, a6⟩, a7⟩, a8⟩
  clear i22 i19 i16 i13 i10 i7
  have bad : ∀ w', Ext w w' → ¬ VOk d → KB (VOk d) w (.bool false) w' := fun w' e hn => kb_f hn e
  refine JoinW.cut1 (fun (b : Bool) w' => (b = false ↔ (HdOk d ∧ d.Spaces.length ≤ 16)) ∧ w5 = w') ?_ ?_
  · refine BIf.of (fun hb => ⟨⟨(fun hh => by cases hh), fun hh => by rw [hhd.2 hh.1] at hb; cases hb⟩, rfl⟩) (fun hb => ⟨ss, h.cell 0 rfl rfl, ?_, rfl⟩)
    have := hhd.1 hb
    rw [decide_eq_false_iff_not, hls]
    exact ⟨fun hh => ⟨this, by omega⟩, fun hh => by omega⟩
  rintro (b25 : Bool) w' ⟨i25, rfl⟩
  refine JoinW.cut1 (fun (b : Bool) w' => (b = false ↔ ((HdOk d ∧ d.Spaces.length ≤ 16) ∧ d.Objs.length ≤ 16)) ∧ w5 = w') ?_ ?_
  · refine BIf.of (fun hb => ⟨⟨(fun hh => by cases hh), fun hh => by rw [i25.2 hh.1] at hb; cases hb⟩, rfl⟩) (fun hb => ⟨so, h.cell 0 rfl rfl, ?_, rfl⟩)
    have := i25.1 hb
    rw [decide_eq_false_iff_not, hol]
    exact ⟨fun hh => ⟨this, by omega⟩, fun hh => by omega⟩
  rintro (b28 : Bool) w' ⟨i28, rfl⟩
  refine BIf.of (fun hb => bad _ h.ext (fun hh => by rw [i28.2 ⟨⟨hh.hd, hh.sps.1⟩, hh.obs.1⟩] at hb; cases hb)) (fun hb => ?_)
  obtain ⟨⟨hhd, hs16⟩, ho16⟩ := i28.1 hb
  clear i28 i25 hb
  have hnext := hhd.next
  have hfr := hhd.frames
  have hsl := hhd.slots
  refine h.newPs (fun w31 h nw31 => ?_)
  refine h.newCnt (fun w32 h nw32 => ?_)
  generalize w5.heap.size = pb at *
  generalize w31.heap.size = cb at *
  refine ⟨sp, h.cell 2 rfl rfl, ?_⟩
  rw [hlp]
  refine LoopW.m1 (fun (i : Int) w' => ∃ k : Nat, i = k ∧ k ≤ d.Pages.length ∧ (∀ (j : Nat) p, j < k → d.Pages[j]? = some p → PgOk d j p) ∧ SH w w' [aCnt cb (cntM ((d.Pages.take k).map (·.Id)) []), aPs pb ((d.Pages.take k).map (fun p => (p.Frame, p.Slot))), aB w.heap.size ((vmV d sp ss so).map Ce.v)]) (fun (i : Int) _ => ((d.Pages.length : Int) - i).toNat) ⟨0, rfl, by omega, (fun j s hj => by omega), h⟩ ?_
  rintro (i : Int) w36 ⟨k, rfl, hk, hok, h⟩ J hJ
  refine BIf.dec (fun hlt => ?_) (fun hge => ?_)
  · obtain ⟨x, hx⟩ : ∃ x, d.Pages[k]? = some x := ⟨_, List.getElem?_eq_getElem (by omega)⟩
    obtain ⟨q, hq, td, p0, p1, p2, p3, p4, hby⟩ := (hd.ext h.ext).pages.get k x hx
    have hbl := hby.len
    refine ⟨by omega, by omega, q, hq, _, p0, _, p1, _, p2, _, p3, td, p4, ?_⟩
    refine h.alloc (fun w40 h ew40 nw40 => ?_)
    refine h.put 0 rfl rfl rfl (fun w41 h nw41 => ?_)
    have h := h.drew
    generalize w36.heap.size = pc at *
    generalize w41.drew = w44 at *
    have badp : ∀ w', Ext w w' → ¬ PgOk d k x → KB (VOk d) w (.bool false) w' := fun w' e hn => bad _ e (fun hh => hn (hh.pgs.pg k x hx))
    refine JoinW.cut1 (fun (b : Bool) w' => (b = false ↔ (1 ≤ x.Id ∧ x.Id ≤ d.Next ∧ (∀ z, 0 < k → d.Pages[k - 1]? = some z → z.Id < x.Id) ∧ x.Data.length = 256)) ∧ w44 = w') ?_ ?_
    · refine ⟨_, h.cell 0 rfl rfl, BIf.dec (fun hb => ⟨⟨(fun hh => by cases hh), fun hh => by omega⟩, rfl⟩) (fun hb => ?_)⟩
      refine ⟨_, h.cell 0 rfl rfl, _, h.cell 3 rfl rfl, BIf.dec (fun hb2 => ⟨⟨(fun hh => by cases hh), fun hh => by omega⟩, rfl⟩) (fun hb2 => ?_)⟩
      refine BIf.dec (fun hi0 => ?_) (fun hi0 => ?_)
      · obtain ⟨z, hz⟩ : ∃ z, d.Pages[k - 1]? = some z := ⟨_, List.getElem?_eq_getElem (by omega)⟩
        obtain ⟨q', hq', t', hc', _⟩ := (hd.ext h.ext).pages.get (k - 1) z hz
        rw [Go.Den.w64 (n := (k : Int) - 1) (by omega) (by omega), show ((k : Int) - 1).toNat = k - 1 by omega]
        refine ⟨_, h.cell 0 rfl rfl, sp, h.cell 3 rfl rfl, by omega, by rw [hlp]; omega, q', hq', _, hc', ?_⟩
        refine BIf.dec (fun hb3 => ⟨⟨(fun hh => by cases hh), fun hh => by have := hh.2.2.1 z (by omega) hz; omega⟩, rfl⟩) (fun hb3 => ?_)
        refine ⟨td, h.cell 0 rfl rfl, ?_, rfl⟩
        rw [bne_eq_false_iff_eq]
        exact ⟨fun hh => ⟨by omega, by omega, fun y _ hy => by rw [hz] at hy; cases hy; omega, by omega⟩, fun hh => by omega⟩
      · refine ⟨td, h.cell 0 rfl rfl, ?_, rfl⟩
        rw [bne_eq_false_iff_eq]
        exact ⟨fun hh => ⟨by omega, by omega, fun y hy _ => by omega, by omega⟩, fun hh => by omega⟩
    rintro (b : Bool) w' ⟨hiff, rfl⟩
    refine BIf.of (fun hb => badp _ h.ext (fun hh => ?_)) (fun hb => ?_)
    · rw [hiff.2 ⟨hh.id1, hh.idN, hh.sorted, hh.data⟩] at hb; cases hb
    obtain ⟨g1, g2, g3, g4⟩ := hiff.1 hb
    clear hiff hb
    refine ⟨_, h.cell 0 rfl rfl, ?_⟩
    refine JoinW.cut1 (fun (b : Bool) w' => b = (decide (0 ≤ x.Frame) && decide (x.Frame < d.Frames)) ∧ w44 = w') ?_ ?_
    · refine BIf.dec (fun hb => ⟨_, h.cell 0 rfl rfl, _, h.cell 3 rfl rfl, by simp [show 0 ≤ x.Frame from hb], rfl⟩) (fun hb => ⟨by simp [show ¬ 0 ≤ x.Frame from hb], rfl⟩)
    rintro (b46 : Bool) w' ⟨hb46, rfl⟩
    refine JoinW.cut1 (fun (b : Bool) w' => (b = true ↔ InP d x) ∧ w44 = w') ?_ ?_
    · refine BIf.of (fun hb => ⟨_, h.cell 0 rfl rfl, ?_, rfl⟩) (fun hb => ⟨?_, rfl⟩)
      · rw [hb46, Bool.and_eq_true, decide_eq_true_eq, decide_eq_true_eq] at hb
        rw [beq_iff_eq]
        exact ⟨fun hh => ⟨hb.1, hb.2, hh⟩, fun hh => hh.2.2⟩
      · refine ⟨(fun hh => by cases hh), fun hh => ?_⟩
        rw [hb46, decide_eq_true hh.1, decide_eq_true hh.2.1] at hb; cases hb
    rintro (b49 : Bool) w' ⟨hin, rfl⟩
    refine ⟨_, h.cell 0 rfl rfl, ?_⟩
    refine JoinW.cut1 (fun (b : Bool) w' => b = (decide (x.Frame = -1) && decide (0 ≤ x.Slot)) ∧ w44 = w') ?_ ?_
    · refine BIf.eq (fun hb => ⟨_, h.cell 0 rfl rfl, by simp [hb], rfl⟩) (fun hb => ⟨by simp [hb], rfl⟩)
    rintro (b53 : Bool) w' ⟨hb53, rfl⟩
    refine JoinW.cut1 (fun (b : Bool) w' => b = (b53 && decide (x.Slot < d.Slots)) ∧ w44 = w') ?_ ?_
    · refine BIf.of (fun hb => ⟨_, h.cell 0 rfl rfl, _, h.cell 3 rfl rfl, by rw [hb]; rfl, rfl⟩) (fun hb => ⟨by rw [hb]; rfl, rfl⟩)
    rintro (b56 : Bool) w' ⟨hb56, rfl⟩
    refine JoinW.cut1 (fun (b : Bool) w' => (b = true ↔ OutP d x) ∧ w44 = w') ?_ ?_
    · refine BIf.of (fun hb => ⟨_, h.cell 0 rfl rfl, ?_, rfl⟩) (fun hb => ⟨?_, rfl⟩)
      · rw [hb56, hb53] at hb
        simp only [Bool.and_eq_true, decide_eq_true_eq] at hb
        exact ⟨fun hh => ⟨hb.1.1, hb.1.2, hb.2, by simpa using hh⟩, fun hh => by rw [hh.2.2.2]; rfl⟩
      · refine ⟨(fun hh => by cases hh), fun hh => ?_⟩
        rw [hb56, hb53, decide_eq_true hh.1, decide_eq_true hh.2.1, decide_eq_true hh.2.2.1] at hb; cases hb
    rintro (b59 : Bool) w' ⟨hout, rfl⟩
    refine ⟨_, h.cell 0 rfl rfl, _, h.cell 0 rfl rfl, ?_⟩
    refine h.alloc (fun w67 h ew67 nw67 => ?_)
    refine h.put 0 rfl rfl rfl (fun w68 h nw68 => ?_)
    generalize w44.heap.size = kb at *
    refine JoinW.cut1 (fun (b : Bool) w' => (b = false ↔ (InP d x ∨ OutP d x)) ∧ w68 = w') ?_ ?_
    · refine BIf.of (fun hb => ⟨?_, rfl⟩) (fun hb => ⟨⟨fun _ => .inl (hin.1 (by simpa using hb)), fun _ => rfl⟩, rfl⟩)
      have hb' : b49 = false := by simpa using hb
      constructor
      · intro hh; exact .inr (hout.1 (by simpa using hh))
      · rintro (hh | hh)
        · rw [hin.2 hh] at hb'; cases hb'
        · rw [hout.2 hh]; rfl
    rintro (b62 : Bool) w' ⟨hpos, rfl⟩
    have halone : (x.Frame, x.Slot) ∉ (d.Pages.take k).map (fun p => (p.Frame, p.Slot)) ↔ ∀ (j : Nat) q, j < k → d.Pages[j]? = some q → ¬ (q.Frame = x.Frame ∧ q.Slot = x.Slot) := by
      constructor
      · intro hh j q hj hq he
        refine hh (List.mem_map.2 ⟨q, List.mem_of_getElem? (i := j) ?_, by rw [he.1, he.2]⟩)
        rw [List.getElem?_take_of_lt hj]; exact hq
      · intro hh hm
        obtain ⟨p, hp, he⟩ := List.mem_map.1 hm
        obtain ⟨j, hj, rfl⟩ := List.getElem_of_mem hp
        rw [List.length_take] at hj
        simp only [Prod.mk.injEq] at he
        refine hh j _ (by omega) ?_ he
        rw [List.getElem_take]; exact List.getElem?_eq_getElem _
    refine JoinW.cut1 (fun (b : Bool) w' => (b = false ↔ ((InP d x ∨ OutP d x) ∧ (x.Frame, x.Slot) ∉ (d.Pages.take k).map (fun p => (p.Frame, p.Slot)))) ∧ w68 = w') ?_ ?_
    · refine BIf.of (fun hb => ⟨⟨(fun hh => by cases hh), fun hh => by rw [hpos.2 hh.1] at hb; cases hb⟩, rfl⟩) (fun hb => ?_)
      refine ⟨_, h.cell 0 rfl rfl, _, h.cell 0 rfl rfl, same54, key54, h.getPs 3 rfl _ _ (fun o ho => ⟨_, ho, ?_, rfl⟩)⟩
      rw [decide_eq_false_iff_not]
      exact ⟨fun hh => ⟨hpos.1 hb, hh⟩, fun hh => hh.2⟩
    rintro (b72 : Bool) w' ⟨i72, rfl⟩
    refine BIf.of (fun hb => badp _ h.ext (fun hh => ?_)) (fun hb => ?_)
    · rw [i72.2 ⟨hh.pos, halone.2 hh.alone⟩] at hb; cases hb
    obtain ⟨hpos', hal⟩ := i72.1 hb
    have hpg : PgOk d k x := ⟨g1, g2, g3, g4, hpos', halone.1 hal⟩
    refine ⟨_, h.cell 0 rfl rfl, _, h.cell 0 rfl rfl, same54, key54, h.putPs 3 rfl _ _ hal (fun w77 h nw77 => ?_)⟩
    refine ⟨_, h.cell 1 rfl rfl, h.putCnt 2 rfl _ _ (fun w79 h nw79 => ?_)⟩
    have hall : ∀ (j : Nat) p, j < k + 1 → d.Pages[j]? = some p → PgOk d j p := fun j p hj hp => by
      by_cases hjk : j = k
      · subst hjk; rw [hx] at hp; cases hp; exact hpg
      · exact hok j p (by omega) hp
    rw [Go.Den.w64 (by omega) (by omega)]
    refine hJ _ _ ⟨k + 1, by omega, by omega, hall, ?_⟩ (by omega)
    have hnew : x.Id ∉ (cntM ((d.Pages.take k).map (·.Id)) []).map (·.1) := fun hm => by
      unfold cntM at hm
      rw [List.map_map] at hm
      obtain ⟨id, hid, he⟩ := List.mem_map.1 hm
      obtain ⟨p, hp, rfl⟩ := List.mem_map.1 hid
      obtain ⟨j, hj, hjp⟩ := List.getElem_of_mem hp
      have hpj : (d.Pages.take k)[j]? = some p := by rw [List.getElem?_eq_getElem hj, hjp]
      rw [List.length_take] at hj
      rw [List.getElem?_take_of_lt (by omega)] at hpj
      have := ids_lt' (d := d) k (fun i p hi hp => (hall i p (by omega) hp).sorted) j p x (by omega) hpj hx
      simp only [Function.comp] at he
      omega
    have h := h.drop.drop
    rw [take_snoc hx, List.map_append, List.map_append]
    rw [putI_new hnew] at h
    have e : cntM ((d.Pages.take k).map (·.Id) ++ [x].map (·.Id)) [] = cntM ((d.Pages.take k).map (·.Id)) [] ++ [(x.Id, 0)] := by unfold cntM; rw [List.map_append]; rfl
    rw [e]
    exact h
  · have hkl : k = d.Pages.length := by omega
    have hkt : d.Pages.take k = d.Pages := List.take_of_length_le (by omega)
    rw [hkt] at h
    have hpg : ∀ (i : Nat) p, d.Pages[i]? = some p → PgOk d i p := fun i p hp => hok i p (by have := (List.getElem?_eq_some_iff.1 hp).1; omega) hp
    have hnd := ids_nodup (d := d) (fun i p hp => (hpg i p hp).sorted)
    have h := h.p1.drop
    clear hJ J hok hge hkt hkl hk
    refine ⟨so, h.cell 1 rfl rfl, ?_⟩
    rw [hol]
    refine LoopW.m1 (fun (i : Int) w' => ∃ k : Nat, i = k ∧ k ≤ d.Objs.length ∧ (∀ (j : Nat) p, j < k → d.Objs[j]? = some p → ObOk d j p) ∧ SH w w' [aCnt cb (cntM (d.Pages.map (·.Id)) []), aB w.heap.size ((vmV d sp ss so).map Ce.v)]) (fun (i : Int) _ => ((d.Objs.length : Int) - i).toNat) ⟨0, rfl, by omega, (fun j s hj => by omega), h⟩ ?_
    rintro (i : Int) w103 ⟨k, rfl, hk, hok, h⟩ J hJ
    refine BIf.dec (fun hlt => ?_) (fun hge => ?_)
    · obtain ⟨x, hx⟩ : ∃ x, d.Objs[k]? = some x := ⟨_, List.getElem?_eq_getElem (by omega)⟩
      obtain ⟨q, hq, tq, hc0, hc1, hc2, hn⟩ := hd.objs.get k x hx
      have hnl := hn.len
      refine ⟨by omega, by omega, q, hq, _, h.ext.cell hc0, _, h.ext.cell hc1, tq, h.ext.cell hc2, ?_⟩
      refine h.alloc (fun w108 h ew11 nw11 => ?_)
      refine h.put 0 rfl rfl rfl (fun w109 h nw12 => ?_)
      have h := h.drew
      generalize w103.heap.size = oc at *
      generalize w109.drew = w110 at *
      obtain ⟨JJ, hJJ⟩ : ∃ JJ : Bool → World → Prop, JJ = fun b w' => (b = false ↔ (0 ≤ x.Id ∧ x.Id < 16 ∧ (∀ z, 0 < k → d.Objs[k - 1]? = some z → z.Id < x.Id) ∧ 1 ≤ x.Held.length ∧ x.Held.length ≤ 32 ∧ (x.Named = true ∨ ∃ r, r ∈ regsOf d ∧ r.Obj = x.Id))) ∧ SH w w' [aB oc ([Value.int .i64 x.Id, .bool x.Named, .slice tq.a tq.len tq.cap].map Ce.v), aCnt cb (cntM (d.Pages.map (·.Id)) []), aB w.heap.size ((vmV d sp ss so).map Ce.v)] := ⟨_, rfl⟩
      have mkJ : ∀ b w', (b = false ↔ (0 ≤ x.Id ∧ x.Id < 16 ∧ (∀ z, 0 < k → d.Objs[k - 1]? = some z → z.Id < x.Id) ∧ 1 ≤ x.Held.length ∧ x.Held.length ≤ 32 ∧ (x.Named = true ∨ ∃ r, r ∈ regsOf d ∧ r.Obj = x.Id))) → SH w w' [aB oc ([Value.int .i64 x.Id, .bool x.Named, .slice tq.a tq.len tq.cap].map Ce.v), aCnt cb (cntM (d.Pages.map (·.Id)) []), aB w.heap.size ((vmV d sp ss so).map Ce.v)] → JJ b w' := fun b w' h1 h2 => by rw [hJJ]; exact ⟨h1, h2⟩
      refine JoinW.cut1 JJ ?_ ?_
      · refine ⟨_, h.cell 0 rfl rfl, BIf.dec (fun hb => mkJ _ _ ⟨(fun hh => by cases hh), fun hh => by omega⟩ h) (fun hb => ?_)⟩
        refine ⟨_, h.cell 0 rfl rfl, BIf.dec (fun hb2 => mkJ _ _ ⟨(fun hh => by cases hh), fun hh => by omega⟩ h) (fun hb2 => ?_)⟩
        refine BIf.dec (fun hi0 => ?_) (fun hi0 => ?_)
        · obtain ⟨z, hz⟩ : ∃ z, d.Objs[k - 1]? = some z := ⟨_, List.getElem?_eq_getElem (by omega)⟩
          obtain ⟨q', hq', t', hc', _⟩ := (hd.ext h.ext).objs.get (k - 1) z hz
          rw [Go.Den.w64 (n := (k : Int) - 1) (by omega) (by omega), show ((k : Int) - 1).toNat = k - 1 by omega]
          refine ⟨_, h.cell 0 rfl rfl, so, h.cell 2 rfl rfl, by omega, by rw [hol]; omega, q', hq', _, hc', ?_⟩
          refine BIf.dec (fun hb3 => mkJ _ _ ⟨(fun hh => by cases hh), fun hh => by have := hh.2.2.1 z (by omega) hz; omega⟩ h) (fun hb3 => ?_)
          refine ⟨tq, h.cell 0 rfl rfl, BIf.dec (fun hb4 => mkJ _ _ ⟨(fun hh => by cases hh), fun hh => by omega⟩ h) (fun hb4 => ?_)⟩
          refine ⟨tq, h.cell 0 rfl rfl, BIf.dec (fun hb5 => mkJ _ _ ⟨(fun hh => by cases hh), fun hh => by omega⟩ h) (fun hb5 => ?_)⟩
          refine ⟨_, h.cell 0 rfl rfl, BIf.of (fun hnm => ?_) (fun hnm => mkJ _ _ ⟨fun _ => ⟨by omega, by omega, fun y _ hy => by rw [hz] at hy; cases hy; omega, by omega, by omega, .inl (by simpa using hnm)⟩, fun _ => rfl⟩ h)⟩
          refine ⟨_, h.cell 0 rfl rfl, (c26 (SH.vmP h 2 rfl (hd.ext h.ext))).mono ?_⟩
          rintro _ w124 ⟨b, rfl, hi, e⟩
          refine ⟨_, rfl, mkJ _ _ ?_ (h.to e)⟩
          have hnm' : x.Named = false := by simpa using hnm
          constructor
          · intro hb; exact ⟨by omega, by omega, fun y _ hy => by rw [hz] at hy; cases hy; omega, by omega, by omega, .inr (hi.1 (by simpa using hb))⟩
          · rintro ⟨_, _, _, _, _, hu | hu⟩
            · rw [hnm'] at hu; cases hu
            · rw [hi.2 hu]; rfl
        · skip
          refine ⟨tq, h.cell 0 rfl rfl, BIf.dec (fun hb4 => mkJ _ _ ⟨(fun hh => by cases hh), fun hh => by omega⟩ h) (fun hb4 => ?_)⟩
          refine ⟨tq, h.cell 0 rfl rfl, BIf.dec (fun hb5 => mkJ _ _ ⟨(fun hh => by cases hh), fun hh => by omega⟩ h) (fun hb5 => ?_)⟩
          refine ⟨_, h.cell 0 rfl rfl, BIf.of (fun hnm => ?_) (fun hnm => mkJ _ _ ⟨fun _ => ⟨by omega, by omega, fun y hy _ => by omega, by omega, by omega, .inl (by simpa using hnm)⟩, fun _ => rfl⟩ h)⟩
          refine ⟨_, h.cell 0 rfl rfl, (c26 (SH.vmP h 2 rfl (hd.ext h.ext))).mono ?_⟩
          rintro _ w124 ⟨b, rfl, hi, e⟩
          refine ⟨_, rfl, mkJ _ _ ?_ (h.to e)⟩
          have hnm' : x.Named = false := by simpa using hnm
          constructor
          · intro hb; exact ⟨by omega, by omega, fun y hy _ => by omega, by omega, by omega, .inr (hi.1 (by simpa using hb))⟩
          · rintro ⟨_, _, _, _, _, hu | hu⟩
            · rw [hnm'] at hu; cases hu
            · rw [hi.2 hu]; rfl
      subst hJJ
      rintro (b : Bool) w112 ⟨hiff, h⟩
      refine BIf.of (fun hb => bad _ h.ext (fun hh => ?_)) (fun hb => ?_)
      · have hs := hh.obs.2 k x hx
        rw [hiff.2 ⟨hs.id0, hs.id1, hs.sorted, hs.h1, hs.h32, hs.used⟩] at hb; cases hb
      obtain ⟨g1, g2, g3, g4, g5, g6⟩ := hiff.1 hb
      rw [Go.Den.w64 (by omega) (by omega)]
      refine hJ _ _ ⟨k + 1, by omega, by omega, fun j s hj hjs => ?_, h.drop⟩ (by omega)
      by_cases hjk : j = k
      · subst hjk; rw [hx] at hjs; cases hjs
        exact ⟨g1, g2, g3, g4, g5, g6⟩
      · exact hok j s (by omega) hjs
    have hobs : ObsOk d := ⟨ho16, fun i s hs => hok i s (by have := (List.getElem?_eq_some_iff.1 hs).1; omega) hs⟩
    clear hJ J hok hge hk
    refine ⟨ss, h.cell 1 rfl rfl, ?_⟩
    rw [hls]
    refine LoopW.m1 (fun (i : Int) w' => ∃ k : Nat, i = k ∧ k ≤ d.Spaces.length ∧ (∀ (j : Nat) s, j < k → d.Spaces[j]? = some s → SpOk d j s) ∧ SH w w' [aCnt cb (cntM (d.Pages.map (·.Id)) []), aB w.heap.size ((vmV d sp ss so).map Ce.v)]) (fun (i : Int) _ => ((d.Spaces.length : Int) - i).toNat) ⟨0, rfl, by omega, (fun j s hj => by omega), h⟩ ?_
    rintro (i : Int) w136 ⟨k, rfl, hk, hok, h⟩ J hJ
    refine BIf.dec (fun hlt => ?_) (fun hge => ?_)
    · obtain ⟨x, hx⟩ : ∃ x, d.Spaces[k]? = some x := ⟨_, List.getElem?_eq_getElem (by omega)⟩
      obtain ⟨q, hq, t, hc0, hc1, hrs⟩ := hd.spaces.get k x hx
      have hrl := hrs.len
      have hrss := hrs.small
      refine ⟨by omega, by omega, q, hq, _, h.ext.cell hc0, t, h.ext.cell hc1, ?_⟩
      refine h.alloc (fun w140 h ew11 nw11 => ?_)
      refine h.put 0 rfl rfl rfl (fun w141 h nw12 => ?_)
      have h := h.drew
      generalize w136.heap.size = oc at *
      generalize w141.drew = w142 at *
      refine JoinW.cut1 (fun (b : Bool) w' => (b = false ↔ (0 ≤ x.Id ∧ x.Id < 16 ∧ (∀ z, 0 < k → d.Spaces[k - 1]? = some z → z.Id < x.Id) ∧ x.Regions.length ≤ 8)) ∧ w142 = w') ?_ ?_
      · refine ⟨_, h.cell 0 rfl rfl, BIf.dec (fun hb => ⟨⟨(fun hh => by cases hh), fun hh => by omega⟩, rfl⟩) (fun hb => ?_)⟩
        refine ⟨_, h.cell 0 rfl rfl, BIf.dec (fun hb2 => ⟨⟨(fun hh => by cases hh), fun hh => by omega⟩, rfl⟩) (fun hb2 => ?_)⟩
        refine BIf.dec (fun hi0 => ?_) (fun hi0 => ?_)
        · obtain ⟨z, hz⟩ : ∃ z, d.Spaces[k - 1]? = some z := ⟨_, List.getElem?_eq_getElem (by omega)⟩
          obtain ⟨q', hq', t', hc', _⟩ := (hd.ext h.ext).spaces.get (k - 1) z hz
          rw [Go.Den.w64 (n := (k : Int) - 1) (by omega) (by omega), show ((k : Int) - 1).toNat = k - 1 by omega]
          refine ⟨_, h.cell 0 rfl rfl, ss, h.cell 2 rfl rfl, by omega, by rw [hls]; omega, q', hq', _, hc', ?_⟩
          refine BIf.dec (fun hb3 => ⟨⟨(fun hh => by cases hh), fun hh => by have := hh.2.2.1 z (by omega) hz; omega⟩, rfl⟩) (fun hb3 => ?_)
          refine ⟨t, h.cell 0 rfl rfl, ?_, rfl⟩
          rw [decide_eq_false_iff_not, hrl]
          exact ⟨fun hh => ⟨by omega, by omega, fun y _ hy => by rw [hz] at hy; cases hy; omega, by omega⟩, fun hh => by omega⟩
        · refine ⟨t, h.cell 0 rfl rfl, ?_, rfl⟩
          rw [decide_eq_false_iff_not, hrl]
          exact ⟨fun hh => ⟨by omega, by omega, fun y hy _ => by omega, by omega⟩, fun hh => by omega⟩
      rintro (b : Bool) w' ⟨hiff, rfl⟩
      refine BIf.of (fun hb => bad _ h.ext (fun hh => ?_)) (fun hb => ?_)
      · have hs := hh.sps.2 k x hx
        rw [hiff.2 ⟨hs.id0, hs.id1, hs.sorted, hs.few⟩] at hb; cases hb
      obtain ⟨g1, g2, g3, g4⟩ := hiff.1 hb
      refine ⟨t, h.cell 0 rfl rfl, ?_⟩
      rw [hrl]
      refine LoopW.m2 (fun (e j : Int) w' => ∃ m : Nat, j = m ∧ m ≤ x.Regions.length ∧ e = finAt x.Regions m ∧ (∀ (j : Nat) r, j < m → x.Regions[j]? = some r → RgOk d (finAt x.Regions j) r) ∧ SH w w' [aB oc ([Value.int .i64 x.Id, .slice t.a t.len t.cap].map Ce.v), aCnt cb (cntM (d.Pages.map (·.Id)) []), aB w.heap.size ((vmV d sp ss so).map Ce.v)]) (fun (e j : Int) _ => ((x.Regions.length : Int) - j).toNat) ⟨0, rfl, by omega, rfl, (fun j s hj => by omega), h⟩ ?_
      rintro (e : Int) (j : Int) w149 ⟨m, rfl, hm, rfl, hrk, h⟩ J2 hJ2
      refine BIf.dec (fun hlt2 => ?_) (fun hge2 => ?_)
      · obtain ⟨y, hy⟩ : ∃ y, x.Regions[m]? = some y := ⟨_, List.getElem?_eq_getElem (by omega)⟩
        obtain ⟨q2, hq2, tf, th, r0, r1, r2, r3, r4, r5, hby, hnm⟩ := (hrs.ext fun _ _ hh => hh.ext h.ext).get m y hy
        have hbyl := hby.len
        have hnml := hnm.len
        have hbys := hby.small
        have hnms := hnm.small
        refine ⟨by omega, by omega, q2, hq2, _, r0, _, r1, _, r2, _, r3, tf, r4, th, r5, ?_⟩
        refine h.alloc (fun w157 h ew29 nw29 => ?_)
        refine h.put 0 rfl rfl rfl (fun w158 h nw30 => ?_)
        generalize w149.heap.size = cr at *
        refine ⟨_, h.cell 0 rfl rfl, _, h.cell 0 rfl rfl, _, h.cell 0 rfl rfl, c27.mono ?_⟩
        rintro _ w163 ⟨b38, rfl, h38, e38⟩
        have h := h.to e38
        have hm1 : IntKind.wrap .i64 ((m : Int) + 1) = (m : Int) + 1 := Go.Den.w64 (by omega) (by omega)
        refine ⟨_, rfl, ?_⟩
        refine JoinW.cut1 (fun (b : Bool) w' => (b = false ↔ (RegOk y.At y.Count y.Prot ∧ finAt x.Regions m ≤ y.At)) ∧ w163 = w') ?_ ?_
        · refine BIf.of (fun hb => ⟨⟨(fun hh => by cases hh), fun hh => ?_⟩, rfl⟩) (fun hb => ⟨_, h.cell 0 rfl rfl, ?_, rfl⟩)
          · rw [h38.2 hh.1] at hb; cases hb
          · have := h38.1 (by simpa using hb)
            rw [decide_eq_false_iff_not]
            exact ⟨fun hh => ⟨this, by omega⟩, fun hh => by omega⟩
        rintro (b : Bool) w' ⟨hib, rfl⟩
        have badr : ∀ w', Ext w w' → ¬ RgOk d (finAt x.Regions m) y → KB (VOk d) w (.bool false) w' := fun w' e hn => bad _ e (fun hh => hn ((hh.sps.2 k x hx).regs m y hy))
        refine BIf.of (fun hb => badr _ h.ext (fun hr => ?_)) (fun hb => ?_)
        · rw [hib.2 ⟨hr.reg, hr.past⟩] at hb; cases hb
        obtain ⟨gr, gp⟩ := hib.1 hb
        have c1 := gr.c1
        have c2 := gr.c2
        have a0 := gr.a0
        have top := gr.top
        have hfin : IntKind.wrap .i64 (y.At + IntKind.wrap .i64 (y.Count * 256)) = finAt x.Regions (m + 1) := by
          rw [Go.Den.w64 (n := y.Count * 256) (by omega) (by omega), Go.Den.w64 (by omega) (by omega), finAt_succ hy]
        refine ⟨_, h.cell 0 rfl rfl, _, h.cell 0 rfl rfl, _, h.cell 0 rfl rfl, ?_⟩
        have next : ∀ w', SH w w' (aB cr ([Value.int .i64 y.At, .int .i64 y.Count, .int .i64 y.Prot, .int .i64 y.Obj, .slice tf.a tf.len tf.cap, .slice th.a th.len th.cap].map Ce.v) :: [aB oc ([Value.int .i64 x.Id, .slice t.a t.len t.cap].map Ce.v), aCnt cb (cntM (d.Pages.map (·.Id)) []), aB w.heap.size ((vmV d sp ss so).map Ce.v)]) → RgOk d (finAt x.Regions m) y → J2 (IntKind.wrap .i64 (y.At + IntKind.wrap .i64 (y.Count * 256))) (IntKind.wrap .i64 ((m : Int) + 1)) w' := fun w' h hr => by
          rw [hm1, hfin]
          refine hJ2 _ _ _ ⟨m + 1, by omega, by omega, rfl, fun j r hj hjr => ?_, h.drop⟩ (by omega)
          by_cases hjm : j = m
          · subst hjm; rw [hy] at hjr; cases hjr; exact hr
          · exact hrk j r (by omega) hjr
        refine BIf.eq (fun he => ?_) (fun he => ?_)
        · refine ⟨tf, h.cell 0 rfl rfl, _, h.cell 0 rfl rfl, ?_⟩
          rw [Go.Den.w64 (n := y.Count * 256) (by omega) (by omega)]
          refine JoinW.cut1 (fun (b : Bool) w' => (b = false ↔ ((y.File.length : Int) ≤ y.Count * 256 ∧ (y.Held.length : Int) = y.Count)) ∧ w163 = w') ?_ ?_
          · refine BIf.dec (fun hb => ⟨⟨(fun hh => by cases hh), fun hh => by omega⟩, rfl⟩) (fun hb => ⟨th, h.cell 0 rfl rfl, _, h.cell 0 rfl rfl, ?_, rfl⟩)
            rw [bne_eq_false_iff_eq]
            exact ⟨fun hh => ⟨by omega, by omega⟩, fun hh => by omega⟩
          rintro (b3 : Bool) w' ⟨hi3, rfl⟩
          refine BIf.of (fun hb => badr _ h.ext (fun hr => ?_)) (fun hb => ?_)
          · rw [hi3.2 ⟨hr.file, hr.own he⟩] at hb; cases hb
          have h3 := hi3.1 hb
          have := next _ h ⟨gr, h3.1, gp, fun _ => h3.2, fun hh => absurd he hh⟩
          rw [Go.Den.w64 (n := y.Count * 256) (by omega) (by omega)] at this
          exact this
        · refine ⟨_, h.cell 0 rfl rfl, (c28 (SH.vmP h 3 rfl (hd.ext h.ext))).mono ?_⟩
          rintro _ w180 ⟨rfl, rfl⟩
          have h := h.drew
          generalize w180.drew = w181 at *
          refine ⟨_, rfl, ?_⟩
          refine JoinW.cut1 (fun (b : Bool) w' => (b = false ↔ ∃ k o, ShOk d y k o) ∧ w181 = w') ?_ ?_
          · by_cases hneg : objIx d y.Obj < 0
            · rw [ptrE_neg hneg]
              refine BIf.of (fun _ => ⟨⟨(fun hh => by cases hh), fun hh => ?_⟩, rfl⟩) (fun hb => by cases hb)
              obtain ⟨k', o', ho'⟩ := hh
              have := ho'.ix
              omega
            obtain ⟨k', o', hix, hat, _⟩ := obj_get (d := d) (id := y.Obj) (by omega)
            obtain ⟨q3, hq3, to, o0, o1, o2, hon⟩ := (hd.ext h.ext).objs.get k' o' hat
            have hk'l := (List.getElem?_eq_some_iff.1 hat).1
            have honl := hon.len
            rw [hix, ptrE_at hq3]
            refine BIf.of (fun hb => by cases hb) (fun _ => ?_)
            refine ⟨_, rfl, to, o2, _, h.cell 0 rfl rfl, ?_⟩
            refine BIf.of (fun hne => ⟨⟨(fun hh => by cases hh), fun hh => ?_⟩, rfl⟩) (fun hne => ?_)
            · obtain ⟨k2, o2', ho2⟩ := hh
              have h1 := ho2.ix
              have h2 := ho2.at_
              have h3 := ho2.len
              have : k2 = k' := by omega
              subst this
              rw [hat] at h2; cases h2
              rw [bne_iff_ne] at hne
              omega
            rw [bne_eq_false_iff_eq] at hne
            refine ⟨tf, h.cell 0 rfl rfl, th, h.cell 0 rfl rfl, ?_, rfl⟩
            rw [Go.Den.w64 (by omega) (by omega), decide_eq_false_iff_not]
            refine ⟨fun hh => ⟨k', o', hix, hat, by omega, List.eq_nil_of_length_eq_zero (by omega), List.eq_nil_of_length_eq_zero (by omega)⟩, ?_⟩
            rintro ⟨k2, o2', ho2⟩
            have f1 := ho2.file
            have f2 := ho2.held
            rw [f1] at hbyl
            rw [f2] at hnml
            simp only [List.length_nil] at hnml hbyl
            omega
          rintro (b : Bool) w' ⟨hs, rfl⟩
          refine BIf.of (fun hb => badr _ h.ext (fun hr => ?_)) (fun hb => ?_)
          · rw [hs.2 (hr.sh he)] at hb; cases hb
          have hsh := hs.1 hb
          refine next _ h ⟨gr, ?_, gp, fun hh => absurd hh he, fun _ => hsh⟩
          obtain ⟨_, _, ho⟩ := hsh
          rw [ho.file]
          simp only [List.length_nil]
          omega
      · have hk1 : IntKind.wrap .i64 ((k : Int) + 1) = (k : Int) + 1 := Go.Den.w64 (by omega) (by omega)
        rw [hk1]
        refine hJ _ _ ⟨k + 1, by omega, by omega, fun j s hj hjs => ?_, h.drop⟩ (by omega)
        by_cases hjk : j = k
        · subst hjk; rw [hx] at hjs; cases hjs
          exact ⟨g1, g2, g3, g4, fun k' r hr => hrk k' r (by have := (List.getElem?_eq_some_iff.1 hr).1; omega) hr⟩
        · exact hok j s (by omega) hjs
    have hsps : SpsOk d := ⟨hs16, fun i s hs => hok i s (by have := (List.getElem?_eq_some_iff.1 hs).1; omega) hs⟩
    clear hJ J hok hge hk
    refine (c29 (SH.vmP h 1 rfl (hd.ext h.ext)) hd h.ext).mono ?_
    rintro _ w200 ⟨t, hs, rfl, hhs, hnu, g⟩
    have h := h.seq g
    have htl : t.len = hs.length := by rw [h.len 0 rfl, recs_len]
    have hb1 := heldL_flat d
    have hpl := hd.pl
    have hhl : hs.length ≤ 2097152 := by
      have h1 := congrArg List.length hhs
      unfold heldL at h1
      rw [List.length_map, List.length_append, List.length_map] at h1
      have h2 := heldP_le (regsOf d)
      have := hd.regs
      omega
    have hhl2 : hs.length = (heldL d).length := by rw [← hhs, List.length_map]
    refine ⟨t, rfl, ?_⟩
    rw [htl]
    have h0ids : (0 : Int) ∉ d.Pages.map (·.Id) := fun hm => by
      obtain ⟨p, hp, hp0⟩ := List.mem_map.1 hm
      obtain ⟨i, hi, rfl⟩ := List.getElem_of_mem hp
      have := (hpg i _ (List.getElem?_eq_getElem hi)).id1
      omega
    have hflat := held_flat hsps
    refine LoopW.m1 (fun (i : Int) w' => ∃ k : Nat, i = k ∧ k ≤ hs.length ∧ (∀ x, x ∈ ((heldL d).take k).flatten → x = 0 ∨ x ∈ d.Pages.map (·.Id)) ∧ SH w w' [aRow t 1 (recs slV hs), aCnt cb (cntM (d.Pages.map (·.Id)) ((heldL d).take k).flatten), aB w.heap.size ((vmV d sp ss so).map Ce.v)]) (fun (i : Int) _ => ((hs.length : Int) - i).toNat) ⟨0, rfl, by omega, (fun x hx => by cases hx), h⟩ ?_
    rintro (i : Int) w204 ⟨k, rfl, hk, hcov, h⟩ J hJ
    refine BIf.dec (fun hlt => ?_) (fun hge => ?_)
    · obtain ⟨x, hx⟩ : ∃ x, hs[k]? = some x := ⟨_, List.getElem?_eq_getElem (by omega)⟩
      obtain ⟨q, hq, hrd⟩ := h.elem0 0 (k := k) (x := .slice x.1.a x.1.len x.1.cap) rfl (recs_get hx) rfl
      have hxn := hnu x (List.mem_of_getElem? hx)
      have hxl := hxn.len
      have hxs := hxn.small
      have hxh : (heldL d)[k]? = some x.2 := by rw [← hhs, List.getElem?_map, hx]; rfl
      have hst : ((heldL d).take (k + 1)).flatten = ((heldL d).take k).flatten ++ x.2 := by rw [take_snoc hxh, List.flatten_append]; simp
      have hb2 := sum_flat (heldL d) (k + 1)
      rw [hst, List.length_append] at hb2
      refine ⟨by omega, by omega, q, hq, x.1, hrd, ?_⟩
      rw [hxl]
      refine LoopW.m1 (fun (i : Int) w' => ∃ m : Nat, i = m ∧ m ≤ x.2.length ∧ (∀ y, y ∈ ((heldL d).take k).flatten ++ x.2.take m → y = 0 ∨ y ∈ d.Pages.map (·.Id)) ∧ SH w w' [aRow t 1 (recs slV hs), aCnt cb (cntM (d.Pages.map (·.Id)) (((heldL d).take k).flatten ++ x.2.take m)), aB w.heap.size ((vmV d sp ss so).map Ce.v)]) (fun (i : Int) _ => ((x.2.length : Int) - i).toNat) ⟨0, rfl, by omega, by simpa using hcov, by simpa using h⟩ ?_
      rintro (i : Int) w209 ⟨m, rfl, hm, hcov2, h⟩ J2 hJ2
      refine BIf.dec (fun hlt2 => ?_) (fun hge2 => ?_)
      · obtain ⟨y, hy⟩ : ∃ y, x.2[m]? = some y := ⟨_, List.getElem?_eq_getElem (by omega)⟩
        obtain ⟨q2, hq2, hrd2⟩ := (hxn.ext h.ext).get hy
        have hts := take_snoc hy
        refine ⟨by omega, by omega, q2, hq2, _, hrd2, ?_⟩
        rw [Go.Den.w64 (n := (m : Int) + 1) (by omega) (by omega)]
        refine BIf.eq (fun h0 => ?_) (fun h0 => ?_)
        · refine hJ2 _ _ ⟨m + 1, by omega, by omega, ?_, ?_⟩ (by omega)
          · rw [hts, ← List.append_assoc]
            intro z hz
            rcases List.mem_append.1 hz with hz | hz
            · exact hcov2 z hz
            · rw [List.mem_singleton.1 hz]; exact .inl h0
          · rw [hts, ← List.append_assoc, h0, cntM_other h0ids]; exact h
        · refine h.getCnt 1 rfl _ (fun o ho hi => ⟨_, ho, ?_⟩)
          rw [hi, lookI_cnt]
          by_cases hmem : y ∈ d.Pages.map (·.Id)
          · rw [if_pos hmem]
            refine BIf.of (fun hb => by cases hb) (fun _ => ?_)
            refine h.getCnt 1 rfl _ (fun o2 ho2 hi2 => ⟨_, ho2, ?_⟩)
            rw [lookI_cnt, if_pos hmem]
            have hc : (((heldL d).take k).flatten ++ x.2.take m).count y ≤ 1048576 := by
              refine Nat.le_trans List.count_le_length ?_
              rw [List.length_append, List.length_take]; omega
            rw [Option.getD_some, Go.Den.w64 (by omega) (by omega)]
            refine h.putCnt 1 rfl _ _ (fun w216 h nw216 => ?_)
            refine hJ2 _ _ ⟨m + 1, by omega, by omega, ?_, ?_⟩ (by omega)
            · rw [hts, ← List.append_assoc]
              intro z hz
              rcases List.mem_append.1 hz with hz | hz
              · exact hcov2 z hz
              · rw [List.mem_singleton.1 hz]; exact .inr hmem
            · rw [hts, ← List.append_assoc, ← putI_cnt hnd hmem]; exact h
          · rw [if_neg hmem]
            refine BIf.of (fun _ => bad _ h.ext (fun hh => ?_)) (fun hb => by cases hb)
            have hin : y ∈ placesOf d := by
              rw [← hflat]
              exact List.mem_flatten.2 ⟨x.2, List.mem_of_getElem? hxh, List.mem_of_getElem? hy⟩
            rcases hh.pgs.cover y hin with h1 | h1
            · exact h0 h1
            · exact hmem h1
      · rw [Go.Den.w64 (by omega) (by omega)]
        have hm' : x.2.take m = x.2 := List.take_of_length_le (by omega)
        rw [hm', ← hst] at h hcov2
        exact hJ _ _ ⟨k + 1, by omega, by omega, hcov2, h⟩ (by omega)
    have hkt : (heldL d).take k = heldL d := List.take_of_length_le (by omega)
    rw [hkt] at h hcov
    have h := h.drop
    clear hJ J hge hk hkt
    refine SH.rangeCnt h 0 rfl (fun x y => y ≠ 0) (fun a x y w' JJ hm hs' hJ => ?_) (fun a w223 h hall => ?_)
    · refine BIf.eq (fun h0 => bad _ hs'.ext (fun hh => ?_)) (fun h0 => hJ h0)
      unfold cntM at hm
      obtain ⟨id, hid, he⟩ := List.mem_map.1 hm
      obtain ⟨p, hp, hpe⟩ := List.mem_map.1 hid
      obtain ⟨j, hj, rfl⟩ := List.getElem_of_mem hp
      have h1 := (hh.pgs.ct j _ (List.getElem?_eq_getElem hj)).one
      rw [hpe, ← hflat] at h1
      simp only [Prod.mk.injEq] at he
      omega
    have hone : ∀ x, x ∈ d.Pages.map (·.Id) → (heldL d).flatten.count x ≠ 0 := fun x hx => by
      have := hall (x, (((heldL d).flatten.count x : Nat) : Int)) (List.mem_map.2 ⟨x, hx, rfl⟩)
      intro h0
      exact this (by show (((heldL d).flatten.count x : Nat) : Int) = 0; omega)
    clear hall
    refine ⟨so, h.cell 1 rfl rfl, ?_⟩
    rw [hol]
    refine LoopW.m1 (fun (i : Int) w' => ∃ k : Nat, i = k ∧ k ≤ d.Objs.length ∧ (∀ (j : Nat) o, j < k → d.Objs[j]? = some o → ∀ x, x ∈ o.Held → x ≠ 0 → (heldL d).flatten.count x ≤ 1) ∧ SH w w' [aCnt cb (cntM (d.Pages.map (·.Id)) (heldL d).flatten), aB w.heap.size ((vmV d sp ss so).map Ce.v)]) (fun (i : Int) _ => ((d.Objs.length : Int) - i).toNat) ⟨0, rfl, by omega, (fun j s hj => by omega), h⟩ ?_
    rintro (i : Int) w229 ⟨k, rfl, hk, hsh, h⟩ J hJ
    refine BIf.dec (fun hlt => ?_) (fun hge => ?_)
    · obtain ⟨x, hx⟩ : ∃ x, d.Objs[k]? = some x := ⟨_, List.getElem?_eq_getElem (by omega)⟩
      obtain ⟨q, hq, tq, hc0, hc1, hc2, hn⟩ := hd.objs.get k x hx
      have hnl := hn.len
      have hns := hn.small
      refine ⟨by omega, by omega, q, hq, _, h.ext.cell hc0, _, h.ext.cell hc1, tq, h.ext.cell hc2, ?_⟩
      refine h.alloc (fun w234 h ew11 nw11 => ?_)
      refine h.put 0 rfl rfl rfl (fun w235 h nw12 => ?_)
      generalize w229.heap.size = oc at *
      refine ⟨tq, h.cell 0 rfl rfl, ?_⟩
      rw [hnl]
      have h := h.drop
      refine LoopW.m1 (fun (i : Int) w' => ∃ m : Nat, i = m ∧ m ≤ x.Held.length ∧ (∀ (j : Nat) z, j < m → x.Held[j]? = some z → z ≠ 0 → (heldL d).flatten.count z ≤ 1) ∧ SH w w' [aCnt cb (cntM (d.Pages.map (·.Id)) (heldL d).flatten), aB w.heap.size ((vmV d sp ss so).map Ce.v)]) (fun (i : Int) _ => ((x.Held.length : Int) - i).toNat) ⟨0, rfl, by omega, (fun j s hj => by omega), h⟩ ?_
      rintro (i : Int) w239 ⟨m, rfl, hm, hsh2, h⟩ J2 hJ2
      refine BIf.dec (fun hlt2 => ?_) (fun hge2 => ?_)
      · obtain ⟨y, hy⟩ : ∃ y, x.Held[m]? = some y := ⟨_, List.getElem?_eq_getElem (by omega)⟩
        obtain ⟨q2, hq2, hrd2⟩ := (hn.ext h.ext).get hy
        have hysh : y ∈ sharedOf d := List.mem_flatMap.2 ⟨x, List.mem_of_getElem? hx, List.mem_of_getElem? hy⟩
        refine ⟨by omega, by omega, q2, hq2, _, hrd2, ?_⟩
        refine JoinW.cut1 (fun (b : Bool) w' => (b = false ↔ (y ≠ 0 → (heldL d).flatten.count y ≤ 1)) ∧ w239 = w') ?_ ?_
        · refine BIf.of (fun hne => ?_) (fun hne => ⟨⟨fun _ hh => absurd (by simpa using hne) hh, fun _ => rfl⟩, rfl⟩)
          refine h.getCnt 0 rfl _ (fun o ho hi => ⟨_, ho, ?_, rfl⟩)
          have hne' : y ≠ 0 := by simpa using hne
          have hmem : y ∈ d.Pages.map (·.Id) := by
            have hin : y ∈ (heldL d).flatten := by rw [hflat]; exact List.mem_append_right _ hysh
            rcases hcov y hin with h1 | h1
            · exact absurd h1 hne'
            · exact h1
          rw [lookI_cnt, if_pos hmem, Option.getD_some, decide_eq_false_iff_not]
          exact ⟨fun hh _ => by omega, fun hh => by have := hh hne'; omega⟩
        rintro (b : Bool) w' ⟨hib, rfl⟩
        refine BIf.of (fun hb => bad _ h.ext (fun hh => ?_)) (fun hb => ?_)
        · have : b = false := hib.2 (fun hy0 => by
            have hin : y ∈ placesOf d := List.mem_append_right _ hysh
            rcases hh.pgs.cover y hin with h1 | h1
            · exact absurd h1 hy0
            · obtain ⟨p, hp, hpe⟩ := List.mem_map.1 h1
              obtain ⟨j, hj, rfl⟩ := List.getElem_of_mem hp
              have hct := hh.pgs.ct j _ (List.getElem?_eq_getElem hj)
              have hs1 : (sharedOf d).count y ≠ 0 := fun h0 => List.count_eq_zero.1 h0 hysh
              have := hct.sh
              rw [hpe] at this
              rw [hflat]
              by_cases hlt : 1 < (placesOf d).count y
              · exact absurd (this hlt) hs1
              · omega)
          rw [this] at hb; cases hb
        · rw [Go.Den.w64 (by omega) (by omega)]
          refine hJ2 _ _ ⟨m + 1, by omega, by omega, fun j z hj hz => ?_, h⟩ (by omega)
          by_cases hjm : j = m
          · subst hjm; rw [hy] at hz; cases hz; exact hib.1 hb
          · exact hsh2 j z (by omega) hz
      · rw [Go.Den.w64 (by omega) (by omega)]
        refine hJ _ _ ⟨k + 1, by omega, by omega, fun j o hj ho z hz => ?_, h⟩ (by omega)
        by_cases hjk : j = k
        · subst hjk; rw [hx] at ho; cases ho
          obtain ⟨i, hi, rfl⟩ := List.getElem_of_mem hz
          exact hsh2 i _ (by omega) (List.getElem?_eq_getElem hi)
        · exact hsh j o (by omega) ho z hz
    have hshr : ∀ x, x ∈ sharedOf d → x ≠ 0 → (heldL d).flatten.count x ≤ 1 := fun x hx h0 => by
      obtain ⟨o, ho, hxo⟩ := List.mem_flatMap.1 hx
      obtain ⟨i, hi, rfl⟩ := List.getElem_of_mem ho
      exact hsh i _ (by omega) (List.getElem?_eq_getElem hi) x hxo h0
    have h := h.drew
    generalize w229.drew = w230 at *
    refine ⟨_, h.cell 1 rfl rfl, _, h.cell 1 rfl rfl, (c30 (SH.vmP h 1 rfl (hd.ext h.ext))).mono ?_⟩
    rintro _ w250 ⟨rfl, e⟩
    have h := h.to e
    refine ⟨_, rfl, ⟨_, h.cell 1 rfl rfl, rfl⟩, ⟨_, h.cell 1 rfl rfl, rfl⟩, _, rfl, ?_, h.ext⟩
    rw [Go.Den.w64 (by omega) (by omega), decide_eq_true_eq]
    exact ⟨fun hh => vok_of hhd hsps hobs hpg hcov hone hshr hh, fun hh => by rw [hflat]; exact hh.pgs.room⟩
end Go.Proofs.Ytagjjhfhfjdcaaa

/- Pages, spaces, objects: the law VmOk, both sides in one form. Conditions: none. -/
set_option linter.unusedVariables false
set_option linter.unusedSimpArgs false
namespace Go.Proofs.Ytagjjhfhfjdcaaa
open Go Go.Den
theorem szs_mem {l : List Dat} {d : Dat} (h : d ∈ l) : d.sz ≤ Dat.szs l := by
  obtain ⟨i, hi, rfl⟩ := List.getElem_of_mem h
  have := szs_get (l := l) (i := i) (d := l[i]) (List.getElem?_eq_getElem hi)
  omega
theorem numAt_of {w : World} {s : Sl} {m : List Int} (h : IsD w (.sl 1 (m.map (Dat.int .i64))) [.slice s.a s.len s.cap]) (hs : m.length ≤ 1048576) : NumAt w s m := ⟨(isD_len h).1, isD_cap h, isD_nums h, hs⟩
theorem sl_sz {α : Type} {f : α → Dat} {z : Nat} {l : List α} : (Dat.sl z (l.map f)).sz = l.length + Dat.szs (l.map f) := by
  show (l.map f).length + Dat.szs (l.map f) = _
  rw [List.length_map]
theorem pages_of {w : World} {s : Sl} {ms : List DVPage} (h : IsD w (.sl 5 (ms.map DVPage.dat)) [.slice s.a s.len s.cap]) (hs : (Dat.sl 5 (ms.map DVPage.dat)).sz ≤ 1048576) : RowsAt PageIn w s 5 ms := by
  rw [sl_sz] at hs
  refine ⟨(isD_len h).1, by omega, fun i x hx => ?_⟩
  obtain ⟨p, es, hp, hl, hc, his⟩ := isD_elem h hx
  obtain ⟨t, rfl, _, _, _, hd⟩ := cells_VPage (show IsD w (.st [.int .i64 x.Id, .int .i64 x.Frame, .int .i64 x.Slot, .bool x.Used, .sl 1 (x.Data.map (Dat.int .u8))]) es from his)
  have h1 : x.dat.sz ≤ Dat.szs (ms.map DVPage.dat) := szs_mem (List.mem_map.2 ⟨x, List.mem_of_getElem? hx, rfl⟩)
  have h2 : x.dat.sz = 0 + (0 + (0 + (0 + ((Dat.sl 1 (x.Data.map (Dat.int .u8))).sz + 0)))) := rfl
  rw [sz_nums] at h2
  exact ⟨p, hp, t, hc 0 _ rfl, hc 1 _ rfl, hc 2 _ rfl, hc 3 _ rfl, hc 4 _ rfl, byAt_of hd (by omega)⟩
theorem regs_of {w : World} {s : Sl} {ms : List DRegion} (h : IsD w (.sl 6 (ms.map DRegion.dat)) [.slice s.a s.len s.cap]) (hs : (Dat.sl 6 (ms.map DRegion.dat)).sz ≤ 1048576) : RowsAt RegIn w s 6 ms := by
  rw [sl_sz] at hs
  refine ⟨(isD_len h).1, by omega, fun i x hx => ?_⟩
  obtain ⟨p, es, hp, hl, hc, his⟩ := isD_elem h hx
  obtain ⟨t, u, rfl, _, _, _, _, hd, he⟩ := cells_Region (show IsD w (.st [.int .i64 x.At, .int .i64 x.Count, .int .i64 x.Prot, .int .i64 x.Obj, .sl 1 (x.File.map (Dat.int .u8)), .sl 1 (x.Held.map (Dat.int .i64))]) es from his)
  have h1 : x.dat.sz ≤ Dat.szs (ms.map DRegion.dat) := szs_mem (List.mem_map.2 ⟨x, List.mem_of_getElem? hx, rfl⟩)
  have h2 : x.dat.sz = 0 + (0 + (0 + (0 + ((Dat.sl 1 (x.File.map (Dat.int .u8))).sz + ((Dat.sl 1 (x.Held.map (Dat.int .i64))).sz + 0))))) := rfl
  rw [sz_nums, sz_nums] at h2
  exact ⟨p, hp, t, u, hc 0 _ rfl, hc 1 _ rfl, hc 2 _ rfl, hc 3 _ rfl, hc 4 _ rfl, hc 5 _ rfl, byAt_of hd (by omega), numAt_of he (by omega)⟩
theorem spaces_of {w : World} {s : Sl} {ms : List DSpace} (h : IsD w (.sl 2 (ms.map DSpace.dat)) [.slice s.a s.len s.cap]) (hs : (Dat.sl 2 (ms.map DSpace.dat)).sz ≤ 1048576) : RowsAt SpaceIn w s 2 ms := by
  rw [sl_sz] at hs
  refine ⟨(isD_len h).1, by omega, fun i x hx => ?_⟩
  obtain ⟨p, es, hp, hl, hc, his⟩ := isD_elem h hx
  obtain ⟨t, rfl, _, hd⟩ := cells_Space (show IsD w (.st [.int .i64 x.Id, .sl 6 (x.Regions.map DRegion.dat)]) es from his)
  have h1 : x.dat.sz ≤ Dat.szs (ms.map DSpace.dat) := szs_mem (List.mem_map.2 ⟨x, List.mem_of_getElem? hx, rfl⟩)
  have h2 : x.dat.sz = 0 + ((Dat.sl 6 (x.Regions.map DRegion.dat)).sz + 0) := rfl
  exact ⟨p, hp, t, hc 0 _ rfl, hc 1 _ rfl, regs_of hd (by omega)⟩
theorem objs_of {w : World} {s : Sl} {ms : List DObj} (h : IsD w (.sl 3 (ms.map DObj.dat)) [.slice s.a s.len s.cap]) (hs : (Dat.sl 3 (ms.map DObj.dat)).sz ≤ 1048576) : RowsAt ObjIn w s 3 ms := by
  rw [sl_sz] at hs
  refine ⟨(isD_len h).1, by omega, fun i x hx => ?_⟩
  obtain ⟨p, es, hp, hl, hc, his⟩ := isD_elem h hx
  obtain ⟨t, rfl, _, hd⟩ := cells_Obj (show IsD w (.st [.int .i64 x.Id, .bool x.Named, .sl 1 (x.Held.map (Dat.int .i64))]) es from his)
  have h1 : x.dat.sz ≤ Dat.szs (ms.map DObj.dat) := szs_mem (List.mem_map.2 ⟨x, List.mem_of_getElem? hx, rfl⟩)
  have h2 : x.dat.sz = 0 + (0 + ((Dat.sl 1 (x.Held.map (Dat.int .i64))).sz + 0)) := rfl
  rw [sz_nums] at h2
  exact ⟨p, hp, t, hc 0 _ rfl, hc 1 _ rfl, hc 2 _ rfl, numAt_of hd (by omega)⟩
theorem reg_szs : ∀ l : List DRegion, (heldR l).length ≤ Dat.szs (l.map DRegion.dat)
  | [] => by simp [heldR]
  | x :: l => by
    have ih := reg_szs l
    have h2 : x.dat.sz = 0 + (0 + (0 + (0 + ((Dat.sl 1 (x.File.map (Dat.int .u8))).sz + ((Dat.sl 1 (x.Held.map (Dat.int .i64))).sz + 0))))) := rfl
    rw [sz_nums, sz_nums] at h2
    have e : heldR (x :: l) = x.Held ++ heldR l := rfl
    rw [e, List.length_append, List.map_cons]
    show _ ≤ x.dat.sz + Dat.szs (l.map DRegion.dat)
    omega
theorem sp_szs : ∀ l : List DSpace, (l.flatMap (·.Regions)).length + (heldR (l.flatMap (·.Regions))).length ≤ Dat.szs (l.map DSpace.dat)
  | [] => by simp [heldR]
  | x :: l => by
    have ih := sp_szs l
    have h1 := reg_szs x.Regions
    have h2 : x.dat.sz = 0 + ((Dat.sl 6 (x.Regions.map DRegion.dat)).sz + 0) := rfl
    rw [sl_sz] at h2
    have e : heldR (x.Regions ++ l.flatMap (·.Regions)) = heldR x.Regions ++ heldR (l.flatMap (·.Regions)) := by unfold heldR; rw [List.flatMap_append]
    rw [List.flatMap_cons, e, List.length_append, List.length_append, List.map_cons]
    show _ ≤ x.dat.sz + Dat.szs (l.map DSpace.dat)
    omega
theorem ob_szs : ∀ l : List DObj, (l.flatMap (·.Held)).length ≤ Dat.szs (l.map DObj.dat)
  | [] => by simp
  | x :: l => by
    have ih := ob_szs l
    have h2 : x.dat.sz = 0 + (0 + ((Dat.sl 1 (x.Held.map (Dat.int .i64))).sz + 0)) := rfl
    rw [sz_nums] at h2
    rw [List.flatMap_cons, List.length_append, List.map_cons]
    show _ ≤ x.dat.sz + Dat.szs (l.map DObj.dat)
    omega
theorem vm_of {w : World} {cs : List Value} {d : DVm} (h : IsD w d.dat cs) (hs : d.dat.sz ≤ 1048576) : ∃ sp ss so : Sl, cs = vmV d sp ss so ∧ VmAt w sp ss so d := by
  obtain ⟨sp, ss, so, rfl, _, _, _, _, _, _, _, hp, hq, ho⟩ := cells_Vm (show IsD w (.st [.int .i64 d.Frames, .int .i64 d.Slots, .int .i64 d.Hand, .int .i64 d.Next, .int .i64 d.Faults, .int .i64 d.Ins, .int .i64 d.Outs, .sl 5 (d.Pages.map DVPage.dat), .sl 2 (d.Spaces.map DSpace.dat), .sl 3 (d.Objs.map DObj.dat)]) cs from h)
  have h1 : d.dat.sz = 0 + (0 + (0 + (0 + (0 + (0 + (0 + ((Dat.sl 5 (d.Pages.map DVPage.dat)).sz + ((Dat.sl 2 (d.Spaces.map DSpace.dat)).sz + ((Dat.sl 3 (d.Objs.map DObj.dat)).sz + 0))))))))) := rfl
  have a1 := sp_szs d.Spaces
  have a2 := ob_szs d.Objs
  have b1 : (Dat.sl 2 (d.Spaces.map DSpace.dat)).sz = _ := sl_sz
  have b2 : (Dat.sl 3 (d.Objs.map DObj.dat)).sz = _ := sl_sz
  refine ⟨sp, ss, so, rfl, pages_of hp (by omega), spaces_of hq (by omega), objs_of ho (by omega), ?_, ?_⟩
  · unfold regsOf; omega
  · unfold placesOf sharedOf
    rw [List.length_append]
    show (heldR (d.Spaces.flatMap (·.Regions))).length + _ ≤ _
    omega
/-! ## How many marks -/
end Go.Proofs.Ytagjjhfhfjdcaaa
