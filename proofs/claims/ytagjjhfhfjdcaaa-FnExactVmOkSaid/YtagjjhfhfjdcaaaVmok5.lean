/- Part 5 of 5: plain readings of code, rules for them, and a proof over them, joined by a program. Conditions: none. -/
import Derived.Test.YtagjjhfhfjdcaaaVmok4
import Derived.Test.YtagjjhfhfjdcaaaRows
import Derived.WalkKit
import Derived.ProofKit
import Derived.OpenShut
import Derived.ShutString
import Derived.ChangeOld
import Derived.Below
import Derived.Carry
import Derived.SizedLaws
/- The walk of a law: copies, both sides, comparisons; printed by a program. Conditions: none. -/
set_option linter.unusedVariables false
set_option linter.unusedSimpArgs false
set_option maxRecDepth 4000
namespace Go.Proofs.Ytagjjhfhfjdcaaa
open Go Go.Den
theorem goc3 {a0_0 : Int} {a0_1 : Int} {a0_2 : Int} {a0_3 : Int} {a0_4 : Int} {a0_5 : Int} {a0_6 : Int} {a0_7 : Sl} {a0_8 : Sl} {a0_9 : Sl} {w : World} {K : Value → World → Prop} (h : W3 a0_0 a0_1 a0_2 a0_3 a0_4 a0_5 a0_6 a0_7 a0_8 a0_9 w K) : Calls Try.prog 3 #[.agg #[.int .i64 a0_0, .int .i64 a0_1, .int .i64 a0_2, .int .i64 a0_3, .int .i64 a0_4, .int .i64 a0_5, .int .i64 a0_6, .slice a0_7.a a0_7.len a0_7.cap, .slice a0_8.a a0_8.len a0_8.cap, .slice a0_9.a a0_9.len a0_9.cap]] w (fun e w' => ∃ v, e = .returned v ∧ K v w') :=
 denFn_sound tt_ok mix Try.func3 (by kernel_rfl) (eq3 a0_0 a0_1 a0_2 a0_3 a0_4 a0_5 a0_6 a0_7 a0_8 a0_9 w K ▸ h)
set_option maxHeartbeats 8000000 in
theorem walk3 {w : World} {x : DVm} {cs0 : List Value} (h0 : IsD w (x.dat) cs0) : Calls Try.prog 3 #[.agg ⟨cs0⟩] w (fun e w' => ∃ v, e = .returned v ∧ (v = .bool true ∧ Ext w w')) := by
 obtain ⟨p0_7, p0_8, p0_9, rfl, _, _, _, _, _, _, _, _, _, _⟩ := cells_Vm h0
 refine goc3 ?_
 unfold W3
 refine alloc_step (fun w1 ew1 hbw1 nw1 => ?_)
 have e := ew1
 have zw1 := ew1.size
 refine ⟨_, hbw1.cell 0, ?_⟩
 refine ⟨_, hbw1.cell 1, ?_⟩
 refine ⟨_, hbw1.cell 2, ?_⟩
 refine ⟨_, hbw1.cell 3, ?_⟩
 refine ⟨_, hbw1.cell 4, ?_⟩
 refine ⟨_, hbw1.cell 5, ?_⟩
 refine ⟨_, hbw1.cell 6, ?_⟩
 refine ⟨p0_7, hbw1.cell 7, ?_⟩
 refine ⟨p0_8, hbw1.cell 8, ?_⟩
 refine ⟨p0_9, hbw1.cell 9, ?_⟩
 refine (c5 (DVm.has _) (IsD.ext e _ _ h0) (by omega) (by omega)).mono ?_
 rintro _ w13 ⟨⟨rw13, rfl, hrw13⟩, ew13⟩
 have hbw1 := hbw1.ext ew13
 have e := Only.trans e ew13
 have zw13 := ew13.size
 refine ⟨_, rfl, ?_⟩
 refine BIf.dec (fun hn => ⟨rfl, e⟩) (fun hpw13 => ?_)
 have sz0 : (x.dat).sz ≤ 1048576 := by omega
 refine ⟨_, hbw1.cell 0, ?_⟩
 refine ⟨_, hbw1.cell 1, ?_⟩
 refine ⟨_, hbw1.cell 2, ?_⟩
 refine ⟨_, hbw1.cell 3, ?_⟩
 refine ⟨_, hbw1.cell 4, ?_⟩
 refine ⟨_, hbw1.cell 5, ?_⟩
 refine ⟨_, hbw1.cell 6, ?_⟩
 refine ⟨p0_7, hbw1.cell 7, ?_⟩
 refine ⟨p0_8, hbw1.cell 8, ?_⟩
 refine ⟨p0_9, hbw1.cell 9, ?_⟩
 refine (c7 (DVm.has _) (IsD.ext e _ _ h0) (by have := sz0; omega)).mono ?_
 rintro _ w26 ⟨yw26, rfl, fw26, ew26⟩
 have hbw1 := hbw1.ext ew26
 have e := Only.trans e ew26
 have zw26 := ew26.size
 have hiyw26 := fw26.is
 obtain ⟨ryw26_7, ryw26_8, ryw26_9, rfl, _, _, _, _, _, _, _, _, _, _⟩ := cells_Vm hiyw26
 refine ⟨_, _, _, _, _, _, _, ryw26_7, ryw26_8, ryw26_9, rfl, ?_⟩
 refine (specVmOk fw26.is sz0).mono ?_
 rintro _ w38 ⟨rfl, ew38⟩
 have hbw1 := hbw1.ext ew38
 have fw26 := fw26.ext ew38
 have e := Only.trans e ew38
 have zw38 := ew38.size
 refine ⟨_, rfl, ?_⟩
 refine ⟨_, hbw1.cell 0, ?_⟩
 refine ⟨_, hbw1.cell 1, ?_⟩
 refine ⟨_, hbw1.cell 2, ?_⟩
 refine ⟨_, hbw1.cell 3, ?_⟩
 refine ⟨_, hbw1.cell 4, ?_⟩
 refine ⟨_, hbw1.cell 5, ?_⟩
 refine ⟨_, hbw1.cell 6, ?_⟩
 refine ⟨p0_7, hbw1.cell 7, ?_⟩
 refine ⟨p0_8, hbw1.cell 8, ?_⟩
 refine ⟨p0_9, hbw1.cell 9, ?_⟩
 refine (c7 (DVm.has _) (IsD.ext e _ _ h0) (by have := sz0; omega)).mono ?_
 rintro _ w51 ⟨yw51, rfl, fw51, ew51⟩
 have hbw1 := hbw1.ext ew51
 have fw26 := fw26.ext ew51
 have e := Only.trans e ew51
 have zw51 := ew51.size
 have hiyw51 := fw51.is
 obtain ⟨ryw51_7, ryw51_8, ryw51_9, rfl, _, _, _, _, _, _, _, _, _, _⟩ := cells_Vm hiyw51
 refine ⟨_, _, _, _, _, _, _, ryw51_7, ryw51_8, ryw51_9, rfl, ?_⟩
 refine alloc_step (fun w62 ew62 hbw62 nw62 => ?_)
 have hbw1 := hbw1.ext ew62
 have fw26 := fw26.ext ew62
 have fw51 := fw51.ext ew62
 have e := Only.trans e ew62
 have zw62 := ew62.size
 refine put_step hbw62 rfl rfl (fun w63 ow63 hbw62q nw63 => ?_)
 have hbw1 := hbw1.only ow63 (by omega)
 have fw26 := fw26.only ow63 (fun k h1 h2 => by omega)
 have fw51 := fw51.only ow63 (fun k h1 h2 => by omega)
 have e := Ext.own e ow63 (fun k hk => by omega)
 have hbw62 := hbw62q
 refine ⟨_, hbw62.cell 0, ?_⟩
 refine ⟨_, hbw62.cell 1, ?_⟩
 refine ⟨_, hbw62.cell 2, ?_⟩
 refine ⟨_, hbw62.cell 3, ?_⟩
 refine ⟨_, hbw62.cell 4, ?_⟩
 refine ⟨_, hbw62.cell 5, ?_⟩
 refine ⟨_, hbw62.cell 6, ?_⟩
 refine ⟨ryw51_7, hbw62.cell 7, ?_⟩
 refine ⟨ryw51_8, hbw62.cell 8, ?_⟩
 refine ⟨ryw51_9, hbw62.cell 9, ?_⟩
 refine (implVmOk fw51.is sz0).mono ?_
 rintro _ w75 ⟨rfl, ew75⟩
 have hbw1 := hbw1.ext ew75
 have hbw62 := hbw62.ext ew75
 have fw26 := fw26.ext ew75
 have fw51 := fw51.ext ew75
 have e := Only.trans e ew75
 have zw75 := ew75.size
 refine ⟨_, rfl, ?_⟩
 refine BIf.f (by first | (simp; done) | (simp; omega)) ?_
 have ed := ext_drew w75
 have hbw1 := hbw1.ext ed
 have hbw62 := hbw62.ext ed
 have fw26 := fw26.ext ed
 have fw51 := fw51.ext ed
 have e := Only.trans e ed
 have zw75_drew := ed.size
 refine ⟨_, hbw62.cell 0, ?_⟩
 refine ⟨_, hbw62.cell 1, ?_⟩
 refine ⟨_, hbw62.cell 2, ?_⟩
 refine ⟨_, hbw62.cell 3, ?_⟩
 refine ⟨_, hbw62.cell 4, ?_⟩
 refine ⟨_, hbw62.cell 5, ?_⟩
 refine ⟨_, hbw62.cell 6, ?_⟩
 refine ⟨ryw51_7, hbw62.cell 7, ?_⟩
 refine ⟨ryw51_8, hbw62.cell 8, ?_⟩
 refine ⟨ryw51_9, hbw62.cell 9, ?_⟩
 refine ⟨_, hbw1.cell 0, ?_⟩
 refine ⟨_, hbw1.cell 1, ?_⟩
 refine ⟨_, hbw1.cell 2, ?_⟩
 refine ⟨_, hbw1.cell 3, ?_⟩
 refine ⟨_, hbw1.cell 4, ?_⟩
 refine ⟨_, hbw1.cell 5, ?_⟩
 refine ⟨_, hbw1.cell 6, ?_⟩
 refine ⟨p0_7, hbw1.cell 7, ?_⟩
 refine ⟨p0_8, hbw1.cell 8, ?_⟩
 refine ⟨p0_9, hbw1.cell 9, ?_⟩
 refine (c7 (DVm.has _) (IsD.ext e _ _ h0) (by have := sz0; omega)).mono ?_
 rintro _ w98 ⟨yw98, rfl, fw98, ew98⟩
 have hbw1 := hbw1.ext ew98
 have hbw62 := hbw62.ext ew98
 have fw26 := fw26.ext ew98
 have fw51 := fw51.ext ew98
 have e := Only.trans e ew98
 have zw98 := ew98.size
 have hiyw98 := fw98.is
 obtain ⟨ryw98_7, ryw98_8, ryw98_9, rfl, _, _, _, _, _, _, _, _, _, _⟩ := cells_Vm hiyw98
 refine ⟨_, _, _, _, _, _, _, ryw98_7, ryw98_8, ryw98_9, rfl, ?_⟩
 refine ⟨⟨_, hbw62.cell 0, _, hbw62.cell 1, _, hbw62.cell 2, _, hbw62.cell 3, _, hbw62.cell 4, _, hbw62.cell 5, _, hbw62.cell 6, ryw51_7, hbw62.cell 7, ryw51_8, hbw62.cell 8, ryw51_9, hbw62.cell 9, rfl⟩, ?_⟩
 refine (c9 (DVm.has _) fw51.is fw98.is).mono ?_
 rintro _ w120 ⟨rfl, ew120⟩
 have hbw1 := hbw1.ext ew120
 have hbw62 := hbw62.ext ew120
 have fw26 := fw26.ext ew120
 have fw51 := fw51.ext ew120
 have fw98 := fw98.ext ew120
 have e := Only.trans e ew120
 have zw120 := ew120.size
 refine ⟨_, rfl, ?_⟩
 refine BIf.f rfl ?_
 exact ⟨by trivial, e⟩
open Go.RowKit in
theorem law_calls3 {w : World} {c0 : Array Value} {x : DVm} (h0 : cDVm.is w c0.toList x) : Calls Try.prog 3 #[.agg c0] w (fun e w' => e = .returned (.bool true) ∧ Below w.heap.size w w') :=
 (walk3 (cDVm_dat h0)).mono (by rintro e w' ⟨v, rfl, rfl, he⟩; exact ⟨rfl, he.below⟩)
end Go.Proofs.Ytagjjhfhfjdcaaa

/- The row of the law FnExactVmOk: what its walk shows is what the statement says. Conditions: none. -/
namespace Go.Proofs.Ytagjjhfhfjdcaaa.fnExactVmOk
open Go.ChangeShapes Go.WideShapes Go.ChangeAt Go.RowKit
open Go.ChangeMaps (open_string shut_string)
set_option linter.unusedVariables false
theorem own : ownKnob Try.prog.godebug = none := by kernel_rfl
theorem laidOut : laidOutB Try.prog = true := by kernel_rfl
set_option maxRecDepth 100000 in
theorem lifted (os : Os) (started : os.Started) (H : Type) (enc : TypeId × Value → H) :
    ReturnsInHanded {} Try.checked os 3 .any (Rows.fnExactVmOkSpec.pre6 enc Try.prog Try.f3 Rows.fnExactVmOkRow.domain false) (Rows.fnExactVmOkSpec.post enc Try.prog Try.f3 false true false false) := by
  refine returnsInHanded_of_change_sized (C := Try.checked) own started (by kernel_rfl) Try.func3
    (ChangeSpec.witness6 (enc := enc) (C := Try.checked) false ⟨#[], #[.agg #[.int .i64 0, .int .i64 0, .int .i64 0, .int .i64 0, .int .i64 0, .int .i64 0, .int .i64 0, .slice none 0 0, .slice none 0 0, .slice none 0 0]], []⟩ 8 (by kernel_rfl) (by kernel_rfl) (by kernel_rfl) (by kernel_rfl)) ?_
  intro W base args ds gs before hval0 hW hcnd hsz0 _
  have hsz : (DataW.weightsEach Try.prog (Try.f3.params.toList ++ Rows.fnExactVmOkSpec.plain.varTypes Try.prog) (ds ++ gs)).all (· ≤ reachBytes) = true := hsz0
  have hval : ∀ (j : Nat) t v, Try.f3.params[j]? = some t → args[j]? = some v → Value.okWide Try.prog W .any base t v := hval0
  have hW' := hW
  obtain ⟨p, q, hA0, hV, rfl, hfz, hnd⟩ := hW
  have hA : DataW.TrodAll enc Try.prog W 0 (fun _ => true) true Try.f3.params.toList args.toList ds p := hA0
  rw [Try.params3] at hA hval hsz
  obtain ⟨v0, vs0, d0, ds0, p0, q0, hargs, rfl, rfl, h0, r0⟩ := trodAll_cons hA
  obtain ⟨rfl, rfl, rfl⟩ := trodAll_nil r0
  obtain rfl : args = #[v0] := by cases args; simp_all
  obtain ⟨rfl, rfl⟩ := trodVars_none hV
  have k0 := h0
  have lt0 : ∀ x ∈ p0, x.block < W.heap.size := by obtain ⟨m, hm⟩ := k0; exact DataW.trod_lt m _ _ _ hm
  obtain ⟨c0, rfl⟩ : ∃ cs, v0 = .agg cs := by have hv := (hval 0 26 v0 rfl rfl); unfold Value.okWide at hv; rw [Try.underlying26] at hv; exact ⟨hv.choose, hv.choose_spec.1⟩
  obtain ⟨x0, w0⟩ : ∃ x, (cDVm).is W c0.toList x := by obtain ⟨fuel, hf⟩ := h0; exact ((o26).at_ enc W fuel _ _ hf).2
  clear hA0 hval0 hsz0 hsz
  refine (law_calls3 w0).mono fun e W' ⟨he, bel⟩ => ?_
  subst he
  exact ⟨_, rfl, _, _, _, [], _, [], hW', trodAll_mk1 (shut_bool Try.underlying4 _), (trodAll_cons_mk (Below.trod laidOut (by kernel_rfl) (of_decide_eq_true (by kernel_rfl)) k0 bel lt0) trodAll_mk0), rfl, bel.frame _, fun h => by cases h⟩
theorem over : Rows.fnExactVmOkRow.holds Try.pinned (OpenSpec.ofChange Rows.fnExactVmOkSpec) :=
  OpenClaim.holds_of_wide 3 Try.f3 rfl rfl rfl rfl rfl rfl rfl ⟨rfl, rfl, rfl, rfl, rfl⟩ rfl rfl rfl rfl rfl (by kernel_rfl) Try.func3 (by kernel_rfl)
    (of_decide_eq_true (by kernel_rfl)) (by unfold Func.isWrapper; first | (rw [if_pos (by decide +kernel)]; kernel_rfl) | (rw [if_neg (by decide +kernel)]; exact ⟨rfl, rfl⟩))
    (fun os started H enc _ => lifted os started H enc)
theorem proved : Rows.FnExactVmOkSaid := over
#print axioms proved
end Go.Proofs.Ytagjjhfhfjdcaaa.fnExactVmOk
namespace Go.Proofs.Ytagjjhfhfjdcaaa
/-- The row, under a short name, for the claim. -/
theorem fnExactVmOk_holds : Rows.FnExactVmOkSaid := fnExactVmOk.proved
end Go.Proofs.Ytagjjhfhfjdcaaa
