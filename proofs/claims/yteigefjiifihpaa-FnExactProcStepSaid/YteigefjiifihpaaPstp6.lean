/- Part 6 of 8: plain readings of code, rules for them, and a proof over them, joined by a program. Conditions: none. -/
import Derived.Test.YteigefjiifihpaaPstp5
/- The law's own functions over trees: copies, sizes, comparisons, marks; printed by a program. Conditions: none. -/
set_option linter.unusedVariables false
set_option linter.unusedSimpArgs false
set_option maxRecDepth 4000
namespace Go.Proofs.Yteigefjiifihpaa
open Go Go.Den

theorem has_ProcOp {d : Dat} (h : Has TyProcOp d) : ∃ x_0 : Int, ∃ x_1 : Int, ∃ x_2 : Int, ∃ x_3 : Int, d = .st [.int .i64 x_0, .int .i64 x_1, .int .i64 x_2, .int .i64 x_3] := by
  obtain ⟨_, rfl, g⟩ := has_st h
  obtain ⟨_, _, rfl, h_0, g⟩ := hasF_cons g
  obtain ⟨_, _, rfl, h_1, g⟩ := hasF_cons g
  obtain ⟨_, _, rfl, h_2, g⟩ := hasF_cons g
  obtain ⟨_, _, rfl, h_3, g⟩ := hasF_cons g
  obtain rfl := hasF_nil g
  obtain ⟨x_0, rfl⟩ := has_int h_0
  obtain ⟨x_1, rfl⟩ := has_int h_1
  obtain ⟨x_2, rfl⟩ := has_int h_2
  obtain ⟨x_3, rfl⟩ := has_int h_3
  exact ⟨x_0, x_1, x_2, x_3, rfl⟩
theorem cells_ProcOp {w : World} {x_0 : Int} {x_1 : Int} {x_2 : Int} {x_3 : Int} {cs : List Value} (h : IsD w (.st [.int .i64 x_0, .int .i64 x_1, .int .i64 x_2, .int .i64 x_3]) cs) : cs = [.int .i64 x_0, .int .i64 x_1, .int .i64 x_2, .int .i64 x_3] ∧ ((Lit.int .i64 x_0).wf = true) ∧ ((Lit.int .i64 x_1).wf = true) ∧ ((Lit.int .i64 x_2).wf = true) ∧ ((Lit.int .i64 x_3).wf = true) := by
  have q := isD_st h
  obtain ⟨_, _, rfl, i_0, q⟩ := isF_cons q
  obtain ⟨_, _, rfl, i_1, q⟩ := isF_cons q
  obtain ⟨_, _, rfl, i_2, q⟩ := isF_cons q
  obtain ⟨_, _, rfl, i_3, q⟩ := isF_cons q
  obtain rfl := isF_nil q
  obtain ⟨rfl, ws_0⟩ := isD_int i_0
  obtain ⟨rfl, ws_1⟩ := isD_int i_1
  obtain ⟨rfl, ws_2⟩ := isD_int i_2
  obtain ⟨rfl, ws_3⟩ := isD_int i_3
  exact ⟨rfl, ws_0, ws_1, ws_2, ws_3⟩
theorem has_ProcRes {d : Dat} (h : Has TyProcRes d) : ∃ x_0 : Int, ∃ x_1 : Int, ∃ x_2 : Int, d = .st [.int .i64 x_0, .int .i64 x_1, .int .i64 x_2] := by
  obtain ⟨_, rfl, g⟩ := has_st h
  obtain ⟨_, _, rfl, h_0, g⟩ := hasF_cons g
  obtain ⟨_, _, rfl, h_1, g⟩ := hasF_cons g
  obtain ⟨_, _, rfl, h_2, g⟩ := hasF_cons g
  obtain rfl := hasF_nil g
  obtain ⟨x_0, rfl⟩ := has_int h_0
  obtain ⟨x_1, rfl⟩ := has_int h_1
  obtain ⟨x_2, rfl⟩ := has_int h_2
  exact ⟨x_0, x_1, x_2, rfl⟩
theorem cells_ProcRes {w : World} {x_0 : Int} {x_1 : Int} {x_2 : Int} {cs : List Value} (h : IsD w (.st [.int .i64 x_0, .int .i64 x_1, .int .i64 x_2]) cs) : cs = [.int .i64 x_0, .int .i64 x_1, .int .i64 x_2] ∧ ((Lit.int .i64 x_0).wf = true) ∧ ((Lit.int .i64 x_1).wf = true) ∧ ((Lit.int .i64 x_2).wf = true) := by
  have q := isD_st h
  obtain ⟨_, _, rfl, i_0, q⟩ := isF_cons q
  obtain ⟨_, _, rfl, i_1, q⟩ := isF_cons q
  obtain ⟨_, _, rfl, i_2, q⟩ := isF_cons q
  obtain rfl := isF_nil q
  obtain ⟨rfl, ws_0⟩ := isD_int i_0
  obtain ⟨rfl, ws_1⟩ := isD_int i_1
  obtain ⟨rfl, ws_2⟩ := isD_int i_2
  exact ⟨rfl, ws_0, ws_1, ws_2⟩
theorem has_Proc {d : Dat} (h : Has TyProc d) : ∃ x_0 : Int, ∃ x_1 : Int, ∃ x_2 : Int, ∃ x_3 : Int, ∃ x_4 : Int, ∃ x_5 : Int, ∃ x_6 : Int, ∃ x_7 : Int, ∃ x_8 : Int, ∃ x_9 : Int, d = .st [.int .i64 x_0, .int .i64 x_1, .int .i64 x_2, .int .i64 x_3, .int .i64 x_4, .int .i64 x_5, .int .i64 x_6, .int .i64 x_7, .int .i64 x_8, .int .i64 x_9] := by
  obtain ⟨_, rfl, g⟩ := has_st h
  obtain ⟨_, _, rfl, h_0, g⟩ := hasF_cons g
  obtain ⟨_, _, rfl, h_1, g⟩ := hasF_cons g
  obtain ⟨_, _, rfl, h_2, g⟩ := hasF_cons g
  obtain ⟨_, _, rfl, h_3, g⟩ := hasF_cons g
  obtain ⟨_, _, rfl, h_4, g⟩ := hasF_cons g
  obtain ⟨_, _, rfl, h_5, g⟩ := hasF_cons g
  obtain ⟨_, _, rfl, h_6, g⟩ := hasF_cons g
  obtain ⟨_, _, rfl, h_7, g⟩ := hasF_cons g
  obtain ⟨_, _, rfl, h_8, g⟩ := hasF_cons g
  obtain ⟨_, _, rfl, h_9, g⟩ := hasF_cons g
  obtain rfl := hasF_nil g
  obtain ⟨x_0, rfl⟩ := has_int h_0
  obtain ⟨x_1, rfl⟩ := has_int h_1
  obtain ⟨x_2, rfl⟩ := has_int h_2
  obtain ⟨x_3, rfl⟩ := has_int h_3
  obtain ⟨x_4, rfl⟩ := has_int h_4
  obtain ⟨x_5, rfl⟩ := has_int h_5
  obtain ⟨x_6, rfl⟩ := has_int h_6
  obtain ⟨x_7, rfl⟩ := has_int h_7
  obtain ⟨x_8, rfl⟩ := has_int h_8
  obtain ⟨x_9, rfl⟩ := has_int h_9
  exact ⟨x_0, x_1, x_2, x_3, x_4, x_5, x_6, x_7, x_8, x_9, rfl⟩
theorem cells_Proc {w : World} {x_0 : Int} {x_1 : Int} {x_2 : Int} {x_3 : Int} {x_4 : Int} {x_5 : Int} {x_6 : Int} {x_7 : Int} {x_8 : Int} {x_9 : Int} {cs : List Value} (h : IsD w (.st [.int .i64 x_0, .int .i64 x_1, .int .i64 x_2, .int .i64 x_3, .int .i64 x_4, .int .i64 x_5, .int .i64 x_6, .int .i64 x_7, .int .i64 x_8, .int .i64 x_9]) cs) : cs = [.int .i64 x_0, .int .i64 x_1, .int .i64 x_2, .int .i64 x_3, .int .i64 x_4, .int .i64 x_5, .int .i64 x_6, .int .i64 x_7, .int .i64 x_8, .int .i64 x_9] ∧ ((Lit.int .i64 x_0).wf = true) ∧ ((Lit.int .i64 x_1).wf = true) ∧ ((Lit.int .i64 x_2).wf = true) ∧ ((Lit.int .i64 x_3).wf = true) ∧ ((Lit.int .i64 x_4).wf = true) ∧ ((Lit.int .i64 x_5).wf = true) ∧ ((Lit.int .i64 x_6).wf = true) ∧ ((Lit.int .i64 x_7).wf = true) ∧ ((Lit.int .i64 x_8).wf = true) ∧ ((Lit.int .i64 x_9).wf = true) := by
  have q := isD_st h
  obtain ⟨_, _, rfl, i_0, q⟩ := isF_cons q
  obtain ⟨_, _, rfl, i_1, q⟩ := isF_cons q
  obtain ⟨_, _, rfl, i_2, q⟩ := isF_cons q
  obtain ⟨_, _, rfl, i_3, q⟩ := isF_cons q
  obtain ⟨_, _, rfl, i_4, q⟩ := isF_cons q
  obtain ⟨_, _, rfl, i_5, q⟩ := isF_cons q
  obtain ⟨_, _, rfl, i_6, q⟩ := isF_cons q
  obtain ⟨_, _, rfl, i_7, q⟩ := isF_cons q
  obtain ⟨_, _, rfl, i_8, q⟩ := isF_cons q
  obtain ⟨_, _, rfl, i_9, q⟩ := isF_cons q
  obtain rfl := isF_nil q
  obtain ⟨rfl, ws_0⟩ := isD_int i_0
  obtain ⟨rfl, ws_1⟩ := isD_int i_1
  obtain ⟨rfl, ws_2⟩ := isD_int i_2
  obtain ⟨rfl, ws_3⟩ := isD_int i_3
  obtain ⟨rfl, ws_4⟩ := isD_int i_4
  obtain ⟨rfl, ws_5⟩ := isD_int i_5
  obtain ⟨rfl, ws_6⟩ := isD_int i_6
  obtain ⟨rfl, ws_7⟩ := isD_int i_7
  obtain ⟨rfl, ws_8⟩ := isD_int i_8
  obtain ⟨rfl, ws_9⟩ := isD_int i_9
  exact ⟨rfl, ws_0, ws_1, ws_2, ws_3, ws_4, ws_5, ws_6, ws_7, ws_8, ws_9⟩
theorem has_Procs {d : Dat} (h : Has TyProcs d) : ∃ l_0 : List Dat, d = .st [.sl 10 l_0] ∧ (∀ e, e ∈ l_0 → Has TyProc e) := by
  obtain ⟨_, rfl, g⟩ := has_st h
  obtain ⟨_, _, rfl, h_0, g⟩ := hasF_cons g
  obtain rfl := hasF_nil g
  obtain ⟨l_0, rfl, t_0⟩ := has_sl h_0
  exact ⟨l_0, rfl, t_0⟩
theorem cells_Procs {w : World} {l_0 : List Dat} {cs : List Value} (h : IsD w (.st [.sl 10 l_0]) cs) : ∃ s_0 : Sl, cs = [.slice s_0.a s_0.len s_0.cap] ∧ (IsD w (.sl 10 l_0) [.slice s_0.a s_0.len s_0.cap]) := by
  have q := isD_st h
  obtain ⟨_, _, rfl, i_0, q⟩ := isF_cons q
  obtain rfl := isF_nil q
  obtain ⟨s_0, rfl⟩ := isD_sl_s i_0
  have is_0 := i_0
  exact ⟨s_0, rfl, is_0⟩
/- szProcOpS -/
/- toProcOp -/
theorem c50 {d : Dat} {cs : List Value} {w : World} (ht : Has TyProcOp d) (h : IsD w d cs) (hs : d.sz ≤ 4194304) : CallW Try.prog 50 #[.agg ⟨cs⟩] w (fun v w' => ∃ cs', v = .agg ⟨cs'⟩ ∧ Fr w.heap.size w'.heap.size w' d cs' ∧ Ext w w') := by
  obtain ⟨x_0, x_1, x_2, x_3, rfl⟩ := has_ProcOp ht
  obtain ⟨rfl, ws_0, ws_1, ws_2, ws_3⟩ := cells_ProcOp h
  show CallW Try.prog 50 #[.agg #[.int .i64 x_0, .int .i64 x_1, .int .i64 x_2, .int .i64 x_3]] w _
  refine go50 ?_
  unfold W50
  refine alloc_step (fun w1 e1 ha n1 => ?_)
  refine alloc_step (fun w2 e2 hc n2 => ?_)
  have ha := ha.ext e2
  refine alloc_step (fun w3 e3 hb n3 => ?_)
  have ha := ha.ext e3
  have hc := hc.ext e3
  have e := Only.trans e1 (Only.trans e2 e3)
  refine ⟨_, ha.cell 0, ?_⟩
  refine set_step hb (by simp) (fun w4 o4 hb n4 => ?_)
  have ha := ha.only o4 (by omega)
  have hc := hc.only o4 (by omega)
  have e := Ext.own e o4 (fun k hk => by omega)
  refine ⟨_, ha.cell 1, ?_⟩
  refine set_step hb (by simp) (fun w5 o5 hb n5 => ?_)
  have ha := ha.only o5 (by omega)
  have hc := hc.only o5 (by omega)
  have e := Ext.own e o5 (fun k hk => by omega)
  refine ⟨_, ha.cell 2, ?_⟩
  refine set_step hb (by simp) (fun w6 o6 hb n6 => ?_)
  have ha := ha.only o6 (by omega)
  have hc := hc.only o6 (by omega)
  have e := Ext.own e o6 (fun k hk => by omega)
  refine ⟨_, ha.cell 3, ?_⟩
  refine set_step hb (by simp) (fun w7 o7 hb n7 => ?_)
  have ha := ha.only o7 (by omega)
  have hc := hc.only o7 (by omega)
  have e := Ext.own e o7 (fun k hk => by omega)
  refine ⟨_, hb.cell 0, _, hb.cell 1, _, hb.cell 2, _, hb.cell 3, ?_⟩
  refine put_step hc rfl rfl (fun w8 o8 hc n8 => ?_)
  have e := Ext.own e o8 (fun k hk => by omega)
  refine ⟨_, hc.cell 0, _, hc.cell 1, _, hc.cell 2, _, hc.cell 3, ?_⟩
  exact ⟨[.int .i64 x_0, .int .i64 x_1, .int .i64 x_2, .int .i64 x_3], rfl, frF_st (frF_cons (m := w.heap.size) (fr_int ws_0) (frF_cons (m := w.heap.size) (fr_int ws_1) (frF_cons (m := w.heap.size) (fr_int ws_2) (frF_cons (m := w.heap.size) (fr_int ws_3) (frF_nil) (by omega) (by omega)) (by omega) (by omega)) (by omega) (by omega)) (by omega) (by omega)), e⟩

/- toProcOpS -/
/- eqProcRes -/
theorem c53 {d : Dat} {cs1 cs2 : List Value} {w : World} (ht : Has TyProcRes d) (h : IsD w d cs1) (h2 : IsD w d cs2) : CallW Try.prog 53 #[.agg ⟨cs1⟩, .agg ⟨cs2⟩] w (fun v w' => v = .bool true ∧ Ext w w') := by
  obtain ⟨x_0, x_1, x_2, rfl⟩ := has_ProcRes ht
  obtain ⟨rfl, ws_0, ws_1, ws_2⟩ := cells_ProcRes h
  obtain ⟨rfl, wu_0, wu_1, wu_2⟩ := cells_ProcRes h2
  show CallW Try.prog 53 #[.agg #[.int .i64 x_0, .int .i64 x_1, .int .i64 x_2], .agg #[.int .i64 x_0, .int .i64 x_1, .int .i64 x_2]] w _
  refine go53 ?_
  unfold W53
  refine alloc_step (fun w1 e1 ha n1 => ?_)
  refine alloc_step (fun w2 e2 hb n2 => ?_)
  have ha := ha.ext e2
  have e := Only.trans e1 e2
  refine ⟨_, ha.cell 0, _, hb.cell 0, BIf.f (by simp) ?_⟩
  refine ⟨_, ha.cell 1, _, hb.cell 1, BIf.f (by simp) ?_⟩
  refine ⟨_, ha.cell 2, _, hb.cell 2, BIf.f (by simp) ?_⟩
  exact ⟨rfl, e⟩

/- eqProcResS -/
/- eqProcOp -/
/- eqProcOpS -/
/- markProcOpS -/
/- markProcResS -/
/- heldProcResS -/
/- szProcS -/
theorem c93 {l : List Dat} {a0 : Sl} {left : Int} {w : World} (ht : ∀ e, e ∈ l → Has TyProc e) (h : IsD w (.sl 10 l) [.slice a0.a a0.len a0.cap]) (h0 : 0 ≤ left) (hl : left ≤ 4611686018427387904) : CallW Try.prog 93 #[.slice a0.a a0.len a0.cap, .int .i64 left] w (fun v w' => SzPost (Dat.sl 10 l).sz left v ∧ Ext w w') := by
  refine go93 ?_
  unfold W93
  obtain ⟨hlen, hmax, hel⟩ := isD_sl h
  have hmx : maxLen = 9223372036854775807 := rfl
  rw [hlen, w64 (by omega) (by omega)]
  have hz : Dat.szs l = 0 := by
    refine szs_zero (fun d hd => ?_)
    have ht0 := ht d hd
    obtain ⟨x_0, x_1, x_2, x_3, x_4, x_5, x_6, x_7, x_8, x_9, rfl⟩ := has_Proc ht0
    rfl
  refine BIf.dec (fun hn => ⟨⟨_, rfl, .inr ⟨by omega, by simp only [Dat.sz]; omega⟩⟩, Only.refl _ _⟩) (fun hp => ⟨⟨_, rfl, .inl ⟨by simp only [Dat.sz]; omega, by omega⟩⟩, Only.refl _ _⟩)

/- szProcs -/
theorem c47 {d : Dat} {cs : List Value} {left : Int} {w : World} (ht : Has TyProcs d) (h : IsD w d cs) (h0 : 0 ≤ left) (hl : left ≤ 4611686018427387904) : CallW Try.prog 47 #[.agg ⟨cs⟩, .int .i64 left] w (fun v w' => SzPost d.sz left v ∧ Ext w w') := by
  obtain ⟨l_0, rfl, t_0⟩ := has_Procs ht
  obtain ⟨s_0, rfl, is_0⟩ := cells_Procs h
  show CallW Try.prog 47 #[.agg #[.slice s_0.a s_0.len s_0.cap], .int .i64 left] w _
  refine go47 ?_
  unfold W47
  refine alloc_step (fun w1 e ha n1 => ?_)
  have hmx : maxLen = 9223372036854775807 := rfl
  have hx : (0 : Int) ≤ left ∧ left ≤ left := ⟨h0, Int.le_refl _⟩
  have hd := Int.sub_zero left
  refine ⟨s_0, ha.cell 0, (c93 t_0 (IsD.ext e _ _ is_0) (by omega) (by omega)).mono ?_⟩
  rintro _ w2 ⟨⟨r2, rfl, hr2⟩, e2⟩
  have ha := ha.ext e2
  have e := Only.trans e e2
  refine ⟨r2, rfl, BIf.dec (fun hn => ⟨⟨_, rfl, .inr ⟨by omega, by simp only [Dat.sz, Dat.szs] at *; omega⟩⟩, e⟩) (fun hp2 => ?_)⟩
  exact ⟨⟨_, rfl, .inl ⟨by simp only [Dat.sz, Dat.szs] at *; omega, by omega⟩⟩, e⟩

/- toProc -/
theorem c135 {d : Dat} {cs : List Value} {w : World} (ht : Has TyProc d) (h : IsD w d cs) (hs : d.sz ≤ 4194304) : CallW Try.prog 135 #[.agg ⟨cs⟩] w (fun v w' => ∃ cs', v = .agg ⟨cs'⟩ ∧ Fr w.heap.size w'.heap.size w' d cs' ∧ Ext w w') := by
  obtain ⟨x_0, x_1, x_2, x_3, x_4, x_5, x_6, x_7, x_8, x_9, rfl⟩ := has_Proc ht
  obtain ⟨rfl, ws_0, ws_1, ws_2, ws_3, ws_4, ws_5, ws_6, ws_7, ws_8, ws_9⟩ := cells_Proc h
  show CallW Try.prog 135 #[.agg #[.int .i64 x_0, .int .i64 x_1, .int .i64 x_2, .int .i64 x_3, .int .i64 x_4, .int .i64 x_5, .int .i64 x_6, .int .i64 x_7, .int .i64 x_8, .int .i64 x_9]] w _
  refine go135 ?_
  unfold W135
  refine alloc_step (fun w1 e1 ha n1 => ?_)
  refine alloc_step (fun w2 e2 hc n2 => ?_)
  have ha := ha.ext e2
  refine alloc_step (fun w3 e3 hb n3 => ?_)
  have ha := ha.ext e3
  have hc := hc.ext e3
  have e := Only.trans e1 (Only.trans e2 e3)
  refine ⟨_, ha.cell 0, ?_⟩
  refine set_step hb (by simp) (fun w4 o4 hb n4 => ?_)
  have ha := ha.only o4 (by omega)
  have hc := hc.only o4 (by omega)
  have e := Ext.own e o4 (fun k hk => by omega)
  refine ⟨_, ha.cell 1, ?_⟩
  refine set_step hb (by simp) (fun w5 o5 hb n5 => ?_)
  have ha := ha.only o5 (by omega)
  have hc := hc.only o5 (by omega)
  have e := Ext.own e o5 (fun k hk => by omega)
  refine ⟨_, ha.cell 2, ?_⟩
  refine set_step hb (by simp) (fun w6 o6 hb n6 => ?_)
  have ha := ha.only o6 (by omega)
  have hc := hc.only o6 (by omega)
  have e := Ext.own e o6 (fun k hk => by omega)
  refine ⟨_, ha.cell 3, ?_⟩
  refine set_step hb (by simp) (fun w7 o7 hb n7 => ?_)
  have ha := ha.only o7 (by omega)
  have hc := hc.only o7 (by omega)
  have e := Ext.own e o7 (fun k hk => by omega)
  refine ⟨_, ha.cell 4, ?_⟩
  refine set_step hb (by simp) (fun w8 o8 hb n8 => ?_)
  have ha := ha.only o8 (by omega)
  have hc := hc.only o8 (by omega)
  have e := Ext.own e o8 (fun k hk => by omega)
  refine ⟨_, ha.cell 5, ?_⟩
  refine set_step hb (by simp) (fun w9 o9 hb n9 => ?_)
  have ha := ha.only o9 (by omega)
  have hc := hc.only o9 (by omega)
  have e := Ext.own e o9 (fun k hk => by omega)
  refine ⟨_, ha.cell 6, ?_⟩
  refine set_step hb (by simp) (fun w10 o10 hb n10 => ?_)
  have ha := ha.only o10 (by omega)
  have hc := hc.only o10 (by omega)
  have e := Ext.own e o10 (fun k hk => by omega)
  refine ⟨_, ha.cell 7, ?_⟩
  refine set_step hb (by simp) (fun w11 o11 hb n11 => ?_)
  have ha := ha.only o11 (by omega)
  have hc := hc.only o11 (by omega)
  have e := Ext.own e o11 (fun k hk => by omega)
  refine ⟨_, ha.cell 8, ?_⟩
  refine set_step hb (by simp) (fun w12 o12 hb n12 => ?_)
  have ha := ha.only o12 (by omega)
  have hc := hc.only o12 (by omega)
  have e := Ext.own e o12 (fun k hk => by omega)
  refine ⟨_, ha.cell 9, ?_⟩
  refine set_step hb (by simp) (fun w13 o13 hb n13 => ?_)
  have ha := ha.only o13 (by omega)
  have hc := hc.only o13 (by omega)
  have e := Ext.own e o13 (fun k hk => by omega)
  refine ⟨_, hb.cell 0, _, hb.cell 1, _, hb.cell 2, _, hb.cell 3, _, hb.cell 4, _, hb.cell 5, _, hb.cell 6, _, hb.cell 7, _, hb.cell 8, _, hb.cell 9, ?_⟩
  refine put_step hc rfl rfl (fun w14 o14 hc n14 => ?_)
  have e := Ext.own e o14 (fun k hk => by omega)
  refine ⟨_, hc.cell 0, _, hc.cell 1, _, hc.cell 2, _, hc.cell 3, _, hc.cell 4, _, hc.cell 5, _, hc.cell 6, _, hc.cell 7, _, hc.cell 8, _, hc.cell 9, ?_⟩
  exact ⟨[.int .i64 x_0, .int .i64 x_1, .int .i64 x_2, .int .i64 x_3, .int .i64 x_4, .int .i64 x_5, .int .i64 x_6, .int .i64 x_7, .int .i64 x_8, .int .i64 x_9], rfl, frF_st (frF_cons (m := w.heap.size) (fr_int ws_0) (frF_cons (m := w.heap.size) (fr_int ws_1) (frF_cons (m := w.heap.size) (fr_int ws_2) (frF_cons (m := w.heap.size) (fr_int ws_3) (frF_cons (m := w.heap.size) (fr_int ws_4) (frF_cons (m := w.heap.size) (fr_int ws_5) (frF_cons (m := w.heap.size) (fr_int ws_6) (frF_cons (m := w.heap.size) (fr_int ws_7) (frF_cons (m := w.heap.size) (fr_int ws_8) (frF_cons (m := w.heap.size) (fr_int ws_9) (frF_nil) (by omega) (by omega)) (by omega) (by omega)) (by omega) (by omega)) (by omega) (by omega)) (by omega) (by omega)) (by omega) (by omega)) (by omega) (by omega)) (by omega) (by omega)) (by omega) (by omega)) (by omega) (by omega)), e⟩

/- toProcS -/
theorem c95 {l : List Dat} {a0 : Sl} {w : World} (ht : ∀ e, e ∈ l → Has TyProc e) (h : IsD w (.sl 10 l) [.slice a0.a a0.len a0.cap]) (hs : (Dat.sl 10 l).sz ≤ 4194304) : CallW Try.prog 95 #[.slice a0.a a0.len a0.cap] w (fun v w' => ∃ s : Sl, v = .slice s.a s.len s.cap ∧ Fr w.heap.size w'.heap.size w' (.sl 10 l) [.slice s.a s.len s.cap] ∧ Ext w w') := by
  refine go95 ?_
  unfold W95
  obtain ⟨hlen, hmax, hel⟩ := isD_sl h
  simp only [Dat.sz] at hs
  rw [hlen]; simp only [Int.toNat_natCast]
  refine ⟨by omega, by omega, by omega, by omega, LetW_iff.2 ?_⟩
  have hs0 := ToInv.start (w := w) (z := 10) (zero := ti100.zero) (e := 100) l rfl
  generalize w.alloc (.cells ⟨zerosOf ti100.zero l.length⟩ 100) = w1 at *
  refine LoopW.m1 (fun (i : Int) w' => ∃ (k : Nat) (bs : List Nat) (vs : List Value), i = k ∧ ToInv w w' w.heap.size 10 l k bs vs) (fun (i : Int) _ => (l.length - i).toNat) ⟨0, [], _, rfl, hs0⟩ ?_
  rintro (i : Int) w4 ⟨k, bs, vs, rfl, hi⟩ J hJ
  refine BIf.dec (fun hlt => ?_) (fun hge => ?_)
  · obtain ⟨d, hd⟩ : ∃ d, l[k]? = some d := ⟨_, List.getElem?_eq_getElem (by omega)⟩
    have hsz := szs_get hd
    obtain ⟨p, es, hp, he, hc, his⟩ := isD_at (IsD.ext hi.ext _ _ h) hd
    have ht0 := ht d (mem_get hd)
    obtain ⟨x_0, x_1, x_2, x_3, x_4, x_5, x_6, x_7, x_8, x_9, rfl⟩ := has_Proc ht0
    have his0 := his
    obtain ⟨rfl, ws_0, ws_1, ws_2, ws_3, ws_4, ws_5, ws_6, ws_7, ws_8, ws_9⟩ := cells_Proc his
    refine ⟨by omega, by omega, p, hp, _, hc 0 _ rfl, _, hc 1 _ rfl, _, hc 2 _ rfl, _, hc 3 _ rfl, _, hc 4 _ rfl, _, hc 5 _ rfl, _, hc 6 _ rfl, _, hc 7 _ rfl, _, hc 8 _ rfl, _, hc 9 _ rfl, (c135 (cs := [.int .i64 x_0, .int .i64 x_1, .int .i64 x_2, .int .i64 x_3, .int .i64 x_4, .int .i64 x_5, .int .i64 x_6, .int .i64 x_7, .int .i64 x_8, .int .i64 x_9]) ht0 his0 (by omega)).mono ?_⟩
    rintro _ w9 ⟨r, rfl, f, e9⟩
    have hr := f.is
    obtain ⟨rfl, wr_0, wr_1, wr_2, wr_3, wr_4, wr_5, wr_6, wr_7, wr_8, wr_9⟩ := cells_Proc hr
    obtain ⟨b1, ho, hn, hb⟩ := f
    obtain ⟨hm, hi2⟩ := hi.step hd e9 ho hn (fun c hc => (hb c hc).1) rfl
    refine ⟨_, _, _, _, _, _, _, _, _, _, rfl, by omega, by omega, _, rfl, hm, LetW_iff.2 ?_⟩
    rw [w64 (by omega) (by omega)]
    exact hJ _ _ ⟨k + 1, _, _, by omega, hi2⟩ (by omega)
  · exact ⟨⟨some ⟨w.heap.size, 0, none⟩, l.length, l.length⟩, rfl, (hi.done (by omega) hmax).fr, hi.ext⟩

/- toProcs -/
theorem c49 {d : Dat} {cs : List Value} {w : World} (ht : Has TyProcs d) (h : IsD w d cs) (hs : d.sz ≤ 4194304) : CallW Try.prog 49 #[.agg ⟨cs⟩] w (fun v w' => ∃ cs', v = .agg ⟨cs'⟩ ∧ Fr w.heap.size w'.heap.size w' d cs' ∧ Ext w w') := by
  obtain ⟨l_0, rfl, t_0⟩ := has_Procs ht
  obtain ⟨s_0, rfl, is_0⟩ := cells_Procs h
  show CallW Try.prog 49 #[.agg #[.slice s_0.a s_0.len s_0.cap]] w _
  refine go49 ?_
  unfold W49
  refine alloc_step (fun w1 e1 ha n1 => ?_)
  refine alloc_step (fun w2 e2 hc n2 => ?_)
  have ha := ha.ext e2
  refine alloc_step (fun w3 e3 hb n3 => ?_)
  have ha := ha.ext e3
  have hc := hc.ext e3
  have e := Only.trans e1 (Only.trans e2 e3)
  refine ⟨s_0, ha.cell 0, ?_⟩
  refine (c95 t_0 (IsD.ext e _ _ is_0) (by simp only [Dat.sz, Dat.szs] at hs ⊢; omega)).mono ?_
  rintro _ w4 ⟨r_0, rfl, f_0, e4⟩
  refine ⟨r_0, rfl, ?_⟩
  have ha := ha.ext e4
  have hb := hb.ext e4
  have hc := hc.ext e4
  have e := Only.trans e e4
  have z4 := e4.size
  refine set_step hb (by simp) (fun w5 o5 hb n5 => ?_)
  have ha := ha.only o5 (by omega)
  have hc := hc.only o5 (by omega)
  have e := Ext.own e o5 (fun k hk => by omega)
  have f_0 := f_0.only o5 (fun k _ _ => by omega)
  refine ⟨r_0, hb.cell 0, ?_⟩
  refine set_step hc (by simp) (fun w6 o6 hc n6 => ?_)
  have e := Ext.own e o6 (fun k hk => by omega)
  have f_0 := f_0.only o6 (fun k _ _ => by omega)
  refine ⟨r_0, hc.cell 0, ?_⟩
  exact ⟨[.slice r_0.a r_0.len r_0.cap], rfl, frF_st (frF_cons (m := w4.heap.size) (f_0.mono (by omega) (Nat.le_refl _)) (frF_nil) (by omega) (by omega)), e⟩

/- eqProc -/
theorem c141 {d : Dat} {cs1 cs2 : List Value} {w : World} (ht : Has TyProc d) (h : IsD w d cs1) (h2 : IsD w d cs2) : CallW Try.prog 141 #[.agg ⟨cs1⟩, .agg ⟨cs2⟩] w (fun v w' => v = .bool true ∧ Ext w w') := by
  obtain ⟨x_0, x_1, x_2, x_3, x_4, x_5, x_6, x_7, x_8, x_9, rfl⟩ := has_Proc ht
  obtain ⟨rfl, ws_0, ws_1, ws_2, ws_3, ws_4, ws_5, ws_6, ws_7, ws_8, ws_9⟩ := cells_Proc h
  obtain ⟨rfl, wu_0, wu_1, wu_2, wu_3, wu_4, wu_5, wu_6, wu_7, wu_8, wu_9⟩ := cells_Proc h2
  show CallW Try.prog 141 #[.agg #[.int .i64 x_0, .int .i64 x_1, .int .i64 x_2, .int .i64 x_3, .int .i64 x_4, .int .i64 x_5, .int .i64 x_6, .int .i64 x_7, .int .i64 x_8, .int .i64 x_9], .agg #[.int .i64 x_0, .int .i64 x_1, .int .i64 x_2, .int .i64 x_3, .int .i64 x_4, .int .i64 x_5, .int .i64 x_6, .int .i64 x_7, .int .i64 x_8, .int .i64 x_9]] w _
  refine go141 ?_
  unfold W141
  refine alloc_step (fun w1 e1 ha n1 => ?_)
  refine alloc_step (fun w2 e2 hb n2 => ?_)
  have ha := ha.ext e2
  have e := Only.trans e1 e2
  refine ⟨_, ha.cell 0, _, hb.cell 0, BIf.f (by simp) ?_⟩
  refine ⟨_, ha.cell 1, _, hb.cell 1, BIf.f (by simp) ?_⟩
  refine ⟨_, ha.cell 2, _, hb.cell 2, BIf.f (by simp) ?_⟩
  refine ⟨_, ha.cell 3, _, hb.cell 3, BIf.f (by simp) ?_⟩
  refine ⟨_, ha.cell 4, _, hb.cell 4, BIf.f (by simp) ?_⟩
  refine ⟨_, ha.cell 5, _, hb.cell 5, BIf.f (by simp) ?_⟩
  refine ⟨_, ha.cell 6, _, hb.cell 6, BIf.f (by simp) ?_⟩
  refine ⟨_, ha.cell 7, _, hb.cell 7, BIf.f (by simp) ?_⟩
  refine ⟨_, ha.cell 8, _, hb.cell 8, BIf.f (by simp) ?_⟩
  refine ⟨_, ha.cell 9, _, hb.cell 9, BIf.f (by simp) ?_⟩
  exact ⟨rfl, e⟩

/- eqProcS -/
theorem c97 {l : List Dat} {a0 a1 : Sl} {w : World} (ht : ∀ e, e ∈ l → Has TyProc e) (h : IsD w (.sl 10 l) [.slice a0.a a0.len a0.cap]) (h2 : IsD w (.sl 10 l) [.slice a1.a a1.len a1.cap]) : CallW Try.prog 97 #[.slice a0.a a0.len a0.cap, .slice a1.a a1.len a1.cap] w (fun v w' => v = .bool true ∧ Ext w w') := by
  refine go97 ?_
  unfold W97
  obtain ⟨hlen, hmax, hel⟩ := isD_sl h
  obtain ⟨hlen2, _, hel2⟩ := isD_sl h2
  have hmx : maxLen = 9223372036854775807 := rfl
  rw [hlen, hlen2]
  refine BIf.f (by simp) ?_
  refine LoopW.m1 (fun (i : Int) w' => ∃ k : Nat, i = k ∧ k ≤ l.length ∧ Ext w w') (fun (i : Int) _ => (l.length - i).toNat) ⟨0, rfl, by omega, Only.refl _ _⟩ ?_
  rintro (i : Int) w4 ⟨k, rfl, hk, e4⟩ J hJ
  refine BIf.dec (fun hlt => ?_) (fun hge => ⟨rfl, e4⟩)
  obtain ⟨d, hd⟩ : ∃ d, l[k]? = some d := ⟨_, List.getElem?_eq_getElem (by omega)⟩
  have e4 := Only.trans e4 (ext_drew w4)
  obtain ⟨p, es, hp, he, hc, his⟩ := isD_at (IsD.ext e4 _ _ h) hd
  obtain ⟨p2, es2, hp2, he2, hc2, his2⟩ := isD_at (IsD.ext e4 _ _ h2) hd
  have ht0 := ht d (mem_get hd)
  have ht1 := ht0
  obtain ⟨x_0, x_1, x_2, x_3, x_4, x_5, x_6, x_7, x_8, x_9, rfl⟩ := has_Proc ht1
  have his0 := his
  have his20 := his2
  obtain ⟨rfl, ws_0, ws_1, ws_2, ws_3, ws_4, ws_5, ws_6, ws_7, ws_8, ws_9⟩ := cells_Proc his
  obtain ⟨rfl, wu_0, wu_1, wu_2, wu_3, wu_4, wu_5, wu_6, wu_7, wu_8, wu_9⟩ := cells_Proc his2
  refine ⟨by omega, by omega, p, hp, _, hc 0 _ rfl, _, hc 1 _ rfl, _, hc 2 _ rfl, _, hc 3 _ rfl, _, hc 4 _ rfl, _, hc 5 _ rfl, _, hc 6 _ rfl, _, hc 7 _ rfl, _, hc 8 _ rfl, _, hc 9 _ rfl, by omega, by omega, p2, hp2, _, hc2 0 _ rfl, _, hc2 1 _ rfl, _, hc2 2 _ rfl, _, hc2 3 _ rfl, _, hc2 4 _ rfl, _, hc2 5 _ rfl, _, hc2 6 _ rfl, _, hc2 7 _ rfl, _, hc2 8 _ rfl, _, hc2 9 _ rfl, (c141 (cs1 := [.int .i64 x_0, .int .i64 x_1, .int .i64 x_2, .int .i64 x_3, .int .i64 x_4, .int .i64 x_5, .int .i64 x_6, .int .i64 x_7, .int .i64 x_8, .int .i64 x_9]) (cs2 := [.int .i64 x_0, .int .i64 x_1, .int .i64 x_2, .int .i64 x_3, .int .i64 x_4, .int .i64 x_5, .int .i64 x_6, .int .i64 x_7, .int .i64 x_8, .int .i64 x_9]) ht0 his0 his20).mono ?_⟩
  rintro _ w9 ⟨rfl, e9⟩
  refine ⟨true, rfl, BIf.f rfl ?_⟩
  rw [w64 (by omega) (by omega)]
  exact hJ _ _ ⟨k + 1, by omega, by omega, Only.trans e4 e9⟩ (by omega)

/- eqProcs -/
theorem c52 {d : Dat} {cs1 cs2 : List Value} {w : World} (ht : Has TyProcs d) (h : IsD w d cs1) (h2 : IsD w d cs2) : CallW Try.prog 52 #[.agg ⟨cs1⟩, .agg ⟨cs2⟩] w (fun v w' => v = .bool true ∧ Ext w w') := by
  obtain ⟨l_0, rfl, t_0⟩ := has_Procs ht
  obtain ⟨s_0, rfl, is_0⟩ := cells_Procs h
  obtain ⟨u_0, rfl, iu_0⟩ := cells_Procs h2
  show CallW Try.prog 52 #[.agg #[.slice s_0.a s_0.len s_0.cap], .agg #[.slice u_0.a u_0.len u_0.cap]] w _
  refine go52 ?_
  unfold W52
  refine alloc_step (fun w1 e1 ha n1 => ?_)
  refine alloc_step (fun w2 e2 hb n2 => ?_)
  have ha := ha.ext e2
  have e := Only.trans e1 e2
  refine ⟨s_0, ha.cell 0, u_0, hb.cell 0, (c97 t_0 (IsD.ext e _ _ is_0) (IsD.ext e _ _ iu_0)).mono ?_⟩
  rintro _ w3 ⟨rfl, e3⟩
  have ha := ha.ext e3
  have hb := hb.ext e3
  have e := Only.trans e e3
  refine ⟨true, rfl, BIf.f rfl ?_⟩
  exact ⟨rfl, e⟩

/- markProcS -/
theorem c98 {l : List Dat} {a0 : Sl} {bs : List Nat} {k0 : Int} {w : World} (ht : ∀ e, e ∈ l → Has TyProc e) (h : OwnD w (.sl 10 l) bs [.slice a0.a a0.len a0.cap]) (hn : bs.Nodup) (h0 : 1 ≤ k0) (hk : k0 + Dat.cnts l ≤ 1099511627776) : CallW Try.prog 98 #[.slice a0.a a0.len a0.cap, .int .i64 k0] w (fun v w' => v = .int .i64 (k0 + Dat.cnts l) ∧ ∃ l', l'.length = l.length ∧ Dat.cnts l' = Dat.cnts l ∧ (∀ e, e ∈ l' → Has TyProc e) ∧ MarkedF TXT l' k0 ∧ OwnD w' (.sl 10 l') bs [.slice a0.a a0.len a0.cap] ∧ Only (fun k => k ∈ bs) w w') := by
  refine go98 ?_
  unfold W98
  obtain ⟨hlen, hmax⟩ := ownD_len h
  have hmx : maxLen = 9223372036854775807 := rfl
  rw [hlen]
  refine LoopW.m2 (fun (x i : Int) w' => ∃ (k : Nat) (l' : List Dat), i = k ∧ k ≤ l.length ∧ l'.length = k ∧ x = k0 + Dat.cnts l' ∧ Dat.cnts l' = Dat.cnts (l.take k) ∧ (∀ e, e ∈ l' → Has TyProc e) ∧ MarkedF TXT l' k0 ∧ OwnD w' (.sl 10 (l' ++ l.drop k)) bs [.slice a0.a a0.len a0.cap] ∧ Only (fun k => k ∈ bs) w w') (fun _ (i : Int) _ => (l.length - i).toNat) ⟨0, [], rfl, by omega, rfl, by simp [Dat.cnts], by simp [Dat.cnts], fun e he => (by cases he), markedF_nil, by simpa using h, Only.refl _ _⟩ ?_
  rintro (kx : Int) (i : Int) w4 ⟨k, l', rfl, hkl, hl', hx, hcn, hty, hmk, ho, o4⟩ J hJ
  refine BIf.dec (fun hlt => ?_) (fun hge => ?_)
  · obtain ⟨d, hd⟩ : ∃ d, l[k]? = some d := ⟨_, List.getElem?_eq_getElem (by omega)⟩
    have hcg := cnts_get hd
    have hct := cnts_take hd
    have ht0 := ht d (mem_get hd)
    obtain ⟨x_0, x_1, x_2, x_3, x_4, x_5, x_6, x_7, x_8, x_9, rfl⟩ := has_Proc ht0
    simp only [Dat.cnt, Dat.cnts] at hcg hct
    obtain ⟨b, bp, b1, bq, vp, v1, vq, ha, hbs, hvp, hod, hm, hvl, hlc, _⟩ := ownD_at ho (get_app hl' hd)
    rw [(take_app hl').1, (take_app hl').2] at hm
    have hv0 := hm.len
    have hbs0 := hbs
    rw [Int.toNat_natCast, ← hvp]
    simp (disch := omega) only [w64]
    have hbs : bs = b :: (bp ++ (([] ++ b1) ++ bq)) := hbs
    have me : ME w4 b 10 l' (l.drop (k + 1)) bp bq vp vq [] _ [] b1 [] v1 := ⟨hm, by unfold OwnF; exact ⟨rfl, rfl⟩, ownD_st hod, by rw [← hbs]; exact hn⟩
    refine ⟨by omega, by omega, _, ha, ?_⟩
    refine me.sc (d' := .int .i64 (kx)) sc_int (fun w => own_int (wf_i64 (by omega) (by omega))) rfl (fun w5 cr5 o5 me => ?_)
    have o4 := Only.trans o4 (o5.mono (fun c _ hc => by subst hc; rw [hbs]; simp))
    refine ⟨by omega, by omega, _, ha, ?_⟩
    refine me.sc (d' := .int .i64 (kx + 1)) sc_int (fun w => own_int (wf_i64 (by omega) (by omega))) rfl (fun w6 cr6 o6 me => ?_)
    have o4 := Only.trans o4 (o6.mono (fun c _ hc => by subst hc; rw [hbs]; simp))
    refine ⟨by omega, by omega, _, ha, ?_⟩
    refine me.sc (d' := .int .i64 (kx + 1 + 1)) sc_int (fun w => own_int (wf_i64 (by omega) (by omega))) rfl (fun w7 cr7 o7 me => ?_)
    have o4 := Only.trans o4 (o7.mono (fun c _ hc => by subst hc; rw [hbs]; simp))
    refine ⟨by omega, by omega, _, ha, ?_⟩
    refine me.sc (d' := .int .i64 (kx + 1 + 1 + 1)) sc_int (fun w => own_int (wf_i64 (by omega) (by omega))) rfl (fun w8 cr8 o8 me => ?_)
    have o4 := Only.trans o4 (o8.mono (fun c _ hc => by subst hc; rw [hbs]; simp))
    refine ⟨by omega, by omega, _, ha, ?_⟩
    refine me.sc (d' := .int .i64 (kx + 1 + 1 + 1 + 1)) sc_int (fun w => own_int (wf_i64 (by omega) (by omega))) rfl (fun w9 cr9 o9 me => ?_)
    have o4 := Only.trans o4 (o9.mono (fun c _ hc => by subst hc; rw [hbs]; simp))
    refine ⟨by omega, by omega, _, ha, ?_⟩
    refine me.sc (d' := .int .i64 (kx + 1 + 1 + 1 + 1 + 1)) sc_int (fun w => own_int (wf_i64 (by omega) (by omega))) rfl (fun w10 cr10 o10 me => ?_)
    have o4 := Only.trans o4 (o10.mono (fun c _ hc => by subst hc; rw [hbs]; simp))
    refine ⟨by omega, by omega, _, ha, ?_⟩
    refine me.sc (d' := .int .i64 (kx + 1 + 1 + 1 + 1 + 1 + 1)) sc_int (fun w => own_int (wf_i64 (by omega) (by omega))) rfl (fun w11 cr11 o11 me => ?_)
    have o4 := Only.trans o4 (o11.mono (fun c _ hc => by subst hc; rw [hbs]; simp))
    refine ⟨by omega, by omega, _, ha, ?_⟩
    refine me.sc (d' := .int .i64 (kx + 1 + 1 + 1 + 1 + 1 + 1 + 1)) sc_int (fun w => own_int (wf_i64 (by omega) (by omega))) rfl (fun w12 cr12 o12 me => ?_)
    have o4 := Only.trans o4 (o12.mono (fun c _ hc => by subst hc; rw [hbs]; simp))
    refine ⟨by omega, by omega, _, ha, ?_⟩
    refine me.sc (d' := .int .i64 (kx + 1 + 1 + 1 + 1 + 1 + 1 + 1 + 1)) sc_int (fun w => own_int (wf_i64 (by omega) (by omega))) rfl (fun w13 cr13 o13 me => ?_)
    have o4 := Only.trans o4 (o13.mono (fun c _ hc => by subst hc; rw [hbs]; simp))
    refine ⟨by omega, by omega, _, ha, ?_⟩
    refine me.sc (d' := .int .i64 (kx + 1 + 1 + 1 + 1 + 1 + 1 + 1 + 1 + 1)) sc_int (fun w => own_int (wf_i64 (by omega) (by omega))) rfl (fun w14 cr14 o14 me => ?_)
    have o4 := Only.trans o4 (o14.mono (fun c _ hc => by subst hc; rw [hbs]; simp))
    obtain ⟨hm2, hod2, hbr⟩ := me.fin
    subst hbr
    have hrow := row_close (bs := bs) (a0 := a0) hm2 hod2 hvp hl' (by omega) ha (by rw [hlen]) (by rw [hbs, List.append_nil]) (by have : (l' ++ l.drop k).length = l.length := (by simp; omega); omega) hmax hv0 hvl
    have hmkd : Marked TXT (.st [.int .i64 (kx), .int .i64 (kx + 1), .int .i64 (kx + 1 + 1), .int .i64 (kx + 1 + 1 + 1), .int .i64 (kx + 1 + 1 + 1 + 1), .int .i64 (kx + 1 + 1 + 1 + 1 + 1), .int .i64 (kx + 1 + 1 + 1 + 1 + 1 + 1), .int .i64 (kx + 1 + 1 + 1 + 1 + 1 + 1 + 1), .int .i64 (kx + 1 + 1 + 1 + 1 + 1 + 1 + 1 + 1), .int .i64 (kx + 1 + 1 + 1 + 1 + 1 + 1 + 1 + 1 + 1)]) kx := marked_st (markedF_cons (k := kx) (k' := kx + 1) (marked_int (by rw [w64 (by omega) (by omega)])) (markedF_cons (k := kx + 1) (k' := kx + 1 + 1) (marked_int (by rw [w64 (by omega) (by omega)])) (markedF_cons (k := kx + 1 + 1) (k' := kx + 1 + 1 + 1) (marked_int (by rw [w64 (by omega) (by omega)])) (markedF_cons (k := kx + 1 + 1 + 1) (k' := kx + 1 + 1 + 1 + 1) (marked_int (by rw [w64 (by omega) (by omega)])) (markedF_cons (k := kx + 1 + 1 + 1 + 1) (k' := kx + 1 + 1 + 1 + 1 + 1) (marked_int (by rw [w64 (by omega) (by omega)])) (markedF_cons (k := kx + 1 + 1 + 1 + 1 + 1) (k' := kx + 1 + 1 + 1 + 1 + 1 + 1) (marked_int (by rw [w64 (by omega) (by omega)])) (markedF_cons (k := kx + 1 + 1 + 1 + 1 + 1 + 1) (k' := kx + 1 + 1 + 1 + 1 + 1 + 1 + 1) (marked_int (by rw [w64 (by omega) (by omega)])) (markedF_cons (k := kx + 1 + 1 + 1 + 1 + 1 + 1 + 1) (k' := kx + 1 + 1 + 1 + 1 + 1 + 1 + 1 + 1) (marked_int (by rw [w64 (by omega) (by omega)])) (markedF_cons (k := kx + 1 + 1 + 1 + 1 + 1 + 1 + 1 + 1) (k' := kx + 1 + 1 + 1 + 1 + 1 + 1 + 1 + 1 + 1) (marked_int (by rw [w64 (by omega) (by omega)])) (markedF_cons (k := kx + 1 + 1 + 1 + 1 + 1 + 1 + 1 + 1 + 1) (k' := kx + 1 + 1 + 1 + 1 + 1 + 1 + 1 + 1 + 1 + 1) (marked_int (by rw [w64 (by omega) (by omega)])) (markedF_nil (k := kx + 1 + 1 + 1 + 1 + 1 + 1 + 1 + 1 + 1 + 1)) (by simp only [Dat.cnt]; omega)) (by simp only [Dat.cnt]; omega)) (by simp only [Dat.cnt]; omega)) (by simp only [Dat.cnt]; omega)) (by simp only [Dat.cnt]; omega)) (by simp only [Dat.cnt]; omega)) (by simp only [Dat.cnt]; omega)) (by simp only [Dat.cnt]; omega)) (by simp only [Dat.cnt]; omega)) (by simp only [Dat.cnt]; omega))
    have hhas : Has TyProc (.st [.int .i64 (kx), .int .i64 (kx + 1), .int .i64 (kx + 1 + 1), .int .i64 (kx + 1 + 1 + 1), .int .i64 (kx + 1 + 1 + 1 + 1), .int .i64 (kx + 1 + 1 + 1 + 1 + 1), .int .i64 (kx + 1 + 1 + 1 + 1 + 1 + 1), .int .i64 (kx + 1 + 1 + 1 + 1 + 1 + 1 + 1), .int .i64 (kx + 1 + 1 + 1 + 1 + 1 + 1 + 1 + 1), .int .i64 (kx + 1 + 1 + 1 + 1 + 1 + 1 + 1 + 1 + 1)]) := mk_st (mkF_cons mk_int (mkF_cons mk_int (mkF_cons mk_int (mkF_cons mk_int (mkF_cons mk_int (mkF_cons mk_int (mkF_cons mk_int (mkF_cons mk_int (mkF_cons mk_int (mkF_cons mk_int (mkF_nil)))))))))))
    refine hJ _ _ _ ⟨k + 1, l' ++ [_], by omega, by omega, by simp; omega, ?_, ?_, has_snoc hty hhas, markedF_snoc hmk hmkd hx, hrow, o4⟩ (by omega)
    · rw [cnts_snoc]; simp only [Dat.cnt, Dat.cnts]; omega
    · rw [cnts_snoc, hct]; simp only [Dat.cnt, Dat.cnts]; omega
  · have hkl2 : k = l.length := by omega
    subst hkl2
    rw [List.take_length] at hcn
    rw [List.drop_length, List.append_nil, hlen] at ho
    exact ⟨by rw [hx, hcn], l', hl', hcn, hty, hmk, ho, o4⟩

/- markProcs -/
theorem c54 {d : Dat} {cs : List Value} {bs : List Nat} {k0 : Int} {w : World} (ht : Has TyProcs d) (h : OwnD w d bs cs) (hn : bs.Nodup) (h0 : 1 ≤ k0) (hk : k0 + d.cntT ≤ 1099511627776) : CallW Try.prog 54 #[.agg ⟨cs⟩, .int .i64 k0] w (fun v w' => v = .int .i64 (k0 + d.cntT) ∧ ∃ d', d'.cntT = d.cntT ∧ Has TyProcs d' ∧ MarkedT TXT d' k0 ∧ OwnD w' d' bs cs ∧ Only (fun k => k ∈ bs) w w') := by
 obtain ⟨l_0, rfl, t_0⟩ := has_Procs ht
 simp only [Dat.cntT, Dat.cntTs] at hk
 have f_ := ownD_st h
 obtain ⟨b_0, r_0, c_0, u_0, rfl, rfl, h_0, f_0⟩ := ownF_cons f_
 obtain ⟨rfl, rfl⟩ := ownF_nil f_0
 obtain ⟨s_0, rfl⟩ := ownD_sl_s h_0
 have nd0 := (List.nodup_append.1 hn).1
 have dj0 := (List.nodup_append.1 hn).2.2
 have hn0 := (List.nodup_append.1 hn).2.1
 have lt0 := OwnD.lt _ _ _ h_0
 show CallW Try.prog 54 #[.agg #[.slice s_0.a s_0.len s_0.cap], .int .i64 k0] w _
 refine go54 ?_
 unfold W54
 refine alloc_step (fun w1 e1 hb n1 => ?_)
 have o_0 := OwnD.only e1 _ _ _ (fun _ _ x => x) h_0
 have ot : Only (fun k => k ∈ b_0) w w1 := Ext.any e1
 refine ⟨s_0, hb.cell 0, (c98 t_0 o_0 nd0 (by omega) (by omega)).mono ?_⟩
 rintro _ w2 ⟨rfl, m_0, _, cn_0, hs_0, mk_0, ow_0, oo⟩
 refine ⟨_, rfl, ?_⟩
 have hb := hb.only oo (fun hk => by have := lt0 _ hk; omega)
 have ot := Only.trans ot (oo.mono (fun c _ hc => by (try simp only [List.mem_append, List.not_mem_nil, or_false, false_or] at hc); (try simp only [List.mem_append, List.not_mem_nil, or_false, false_or]); first | (simp [hc]; done) | (rcases hc with hc | hc <;> simp [hc]; done) | (rcases hc with hc | hc | hc <;> simp [hc])))
 refine ⟨by congr 1 <;> simp only [Dat.cntT, Dat.cntTs] <;> omega, .st [.sl 10 m_0], by simp only [Dat.cntT, Dat.cntTs]; omega, mk_st (mkF_cons (mk_sl hs_0) (mkF_nil)), markedT_st (markedTF_cons (k' := k0 + (Dat.cnts l_0 : Nat)) (marked_slT mk_0) (markedTF_nil) (by simp only [Dat.cntT, Dat.cntTs] at *; omega)), ownD_mkSt (ownF_mk ow_0 (ownF_mk0)), ot.mono (fun c _ hc => by (try simp only [List.mem_append, List.not_mem_nil, or_false, false_or] at hc); (try simp only [List.mem_append, List.not_mem_nil, or_false, false_or]); first | (simp [hc]; done) | (rcases hc with hc | hc <;> simp [hc]; done) | (rcases hc with hc | hc | hc <;> simp [hc]))⟩

/- heldProcS -/
theorem c99 {l : List Dat} {a0 : Sl} {k0 : Int} {w : World} (ht : ∀ e, e ∈ l → Has TyProc e) (h : IsD w (.sl 10 l) [.slice a0.a a0.len a0.cap]) (hm : MarkedF TXT l k0) (h0 : 1 ≤ k0) (hk : k0 + Dat.cnts l ≤ 1099511627776) : CallW Try.prog 99 #[.slice a0.a a0.len a0.cap, .int .i64 k0] w (fun v w' => v = .int .i64 (k0 + Dat.cnts l) ∧ Ext w w') := by
  refine go99 ?_
  unfold W99
  obtain ⟨hlen, hmax, _⟩ := isD_sl h
  have hmx : maxLen = 9223372036854775807 := rfl
  rw [hlen]
  refine LoopW.m2 (fun (x i : Int) w' => ∃ k : Nat, i = k ∧ k ≤ l.length ∧ x = k0 + Dat.cnts (l.take k) ∧ Ext w w') (fun _ (i : Int) _ => (l.length - i).toNat) ⟨0, rfl, by omega, by simp [Dat.cnts], Only.refl _ _⟩ ?_
  rintro (kx : Int) (i : Int) w4 ⟨k, rfl, hkl, hx, e4⟩ J hJ
  refine BIf.dec (fun hlt => ?_) (fun hge => ?_)
  · obtain ⟨d, hd⟩ : ∃ d, l[k]? = some d := ⟨_, List.getElem?_eq_getElem (by omega)⟩
    have hcg := cnts_get hd
    have hct := cnts_take hd
    have hmd := markedF_get hm hd
    rw [← hx] at hmd
    have ht0 := ht d (mem_get hd)
    obtain ⟨p, es, hp, he, hc, his⟩ := isD_at (IsD.ext e4 _ _ h) hd
    obtain ⟨x_0, x_1, x_2, x_3, x_4, x_5, x_6, x_7, x_8, x_9, rfl⟩ := has_Proc ht0
    obtain ⟨rfl, ws_0, ws_1, ws_2, ws_3, ws_4, ws_5, ws_6, ws_7, ws_8, ws_9⟩ := cells_Proc his
    simp only [Dat.cnt, Dat.cnts] at hcg hct
    simp only [Marked, MarkedF, Dat.cnt, Dat.cnts] at hmd
    obtain ⟨m_0, m_1, m_2, m_3, m_4, m_5, m_6, m_7, m_8, m_9, _⟩ := hmd
    try simp (disch := omega) only [w64]
    refine ⟨by omega, by omega, p, hp, _, hc 0 _ rfl, BIf.f (by rw [m_0, w64 (by omega) (by omega)]; first | (simp; done) | (simp; omega)) ?_⟩
    refine ⟨by omega, by omega, p, hp, _, hc 1 _ rfl, BIf.f (by rw [m_1, w64 (by omega) (by omega)]; first | (simp; done) | (simp; omega)) ?_⟩
    refine ⟨by omega, by omega, p, hp, _, hc 2 _ rfl, BIf.f (by rw [m_2, w64 (by omega) (by omega)]; first | (simp; done) | (simp; omega)) ?_⟩
    refine ⟨by omega, by omega, p, hp, _, hc 3 _ rfl, BIf.f (by rw [m_3, w64 (by omega) (by omega)]; first | (simp; done) | (simp; omega)) ?_⟩
    refine ⟨by omega, by omega, p, hp, _, hc 4 _ rfl, BIf.f (by rw [m_4, w64 (by omega) (by omega)]; first | (simp; done) | (simp; omega)) ?_⟩
    refine ⟨by omega, by omega, p, hp, _, hc 5 _ rfl, BIf.f (by rw [m_5, w64 (by omega) (by omega)]; first | (simp; done) | (simp; omega)) ?_⟩
    refine ⟨by omega, by omega, p, hp, _, hc 6 _ rfl, BIf.f (by rw [m_6, w64 (by omega) (by omega)]; first | (simp; done) | (simp; omega)) ?_⟩
    refine ⟨by omega, by omega, p, hp, _, hc 7 _ rfl, BIf.f (by rw [m_7, w64 (by omega) (by omega)]; first | (simp; done) | (simp; omega)) ?_⟩
    refine ⟨by omega, by omega, p, hp, _, hc 8 _ rfl, BIf.f (by rw [m_8, w64 (by omega) (by omega)]; first | (simp; done) | (simp; omega)) ?_⟩
    refine ⟨by omega, by omega, p, hp, _, hc 9 _ rfl, BIf.f (by rw [m_9, w64 (by omega) (by omega)]; first | (simp; done) | (simp; omega)) ?_⟩
    exact hJ _ _ _ ⟨k + 1, by omega, by omega, by rw [hct]; omega, e4⟩ (by omega)
  · rw [List.take_of_length_le (by omega)] at hx
    exact ⟨by rw [hx], e4⟩

/- heldProcs -/
theorem c55 {d : Dat} {cs : List Value} {k0 : Int} {w : World} (ht : Has TyProcs d) (h : IsD w d cs) (hm : MarkedT TXT d k0) (h0 : 1 ≤ k0) (hk : k0 + d.cntT ≤ 1099511627776) : CallW Try.prog 55 #[.agg ⟨cs⟩, .int .i64 k0] w (fun v w' => v = .int .i64 (k0 + d.cntT) ∧ Ext w w') := by
 obtain ⟨l_0, rfl, t_0⟩ := has_Procs ht
 obtain ⟨s_0, rfl, is_0⟩ := cells_Procs h
 simp only [Dat.cntT, Dat.cntTs] at hk
 simp only [MarkedT, MarkedTF, Dat.cntT, Dat.cntTs] at hm
 obtain ⟨m_0, _⟩ := hm
 refine go55 ?_
 unfold W55
 refine alloc_step (fun w1 e hb n1 => ?_)
 refine ⟨s_0, hb.cell 0, (c99 (k0 := k0) t_0 (IsD.ext e _ _ is_0) (markedF_at m_0 (by omega)) (by omega) (by omega)).mono ?_⟩
 rintro _ w2 ⟨rfl, e2⟩
 have hb := hb.ext e2
 have e := Only.trans e e2
 refine ⟨_, rfl, BIf.f (decide_eq_false (by omega)) ?_⟩
 exact ⟨by congr 1 <;> simp only [Dat.cntT, Dat.cntTs] <;> omega, e⟩

end Go.Proofs.Yteigefjiifihpaa
