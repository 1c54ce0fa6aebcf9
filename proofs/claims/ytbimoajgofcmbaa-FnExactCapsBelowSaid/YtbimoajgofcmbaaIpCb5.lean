/- Part 5 of 5: plain readings of code, rules for them, and a proof over them, joined by a program. Conditions: none. -/
import Derived.Test.YtbimoajgofcmbaaIpCb4
import Derived.Test.YtbimoajgofcmbaaRows
import Derived.WalkKit
import Derived.ProofKit
import Derived.OpenShut
import Derived.ShutString
import Derived.ChangeOld
import Derived.Below
import Derived.Carry
import Derived.SizedLaws
/- The walk of a law: copies, both sides, comparisons; printed by a program. Conditions: none. -/
set_option linter.unusedVariables false
set_option linter.unusedSimpArgs false
set_option maxRecDepth 4000
namespace Go.Proofs.Ytbimoajgofcmbaa
open Go Go.Den
theorem goc5 {a0_0 : Int} {a0_1 : Sl} {a0_2 : Sl} {a0_3 : Sl} {a1 : Int} {w : World} {K : Value → World → Prop} (h : W5 a0_0 a0_1 a0_2 a0_3 a1 w K) : Calls Try.prog 5 #[.agg #[.int .i64 a0_0, .slice a0_1.a a0_1.len a0_1.cap, .slice a0_2.a a0_2.len a0_2.cap, .slice a0_3.a a0_3.len a0_3.cap], .int .i64 a1] w (fun e w' => ∃ v, e = .returned v ∧ K v w') :=
  denFn_sound tt_ok mix Try.func5 (by kernel_rfl) (eq5 a0_0 a0_1 a0_2 a0_3 a1 w K ▸ h)
theorem walk5 {w : World} {x : DIpc} {cs0 : List Value} (h0 : IsD w (x.dat) cs0) {top : Int} (wf1 : (Lit.int .i64 top).wf = true) : Calls Try.prog 5 #[.agg ⟨cs0⟩, .int .i64 top] w (fun e w' => ∃ v, e = .returned v ∧ (v = .bool true ∧ Ext w w')) := by
  obtain ⟨p0_1, p0_2, p0_3, rfl, _, _, _, _⟩ := cells_Ipc h0
  refine goc5 ?_
  unfold W5
  refine alloc_step (fun w1 ew1 hbw1 nw1 => ?_)
  have e := ew1
  have zw1 := ew1.size
  refine ⟨_, hbw1.cell 0, ?_⟩
  refine ⟨p0_1, hbw1.cell 1, ?_⟩
  refine ⟨p0_2, hbw1.cell 2, ?_⟩
  refine ⟨p0_3, hbw1.cell 3, ?_⟩
  refine (c9 (DIpc.has _) (IsD.ext e _ _ h0) (by omega) (by omega)).mono ?_
  rintro _ w7 ⟨⟨rw7, rfl, hrw7⟩, ew7⟩
  have hbw1 := hbw1.ext ew7
  have e := Only.trans e ew7
  have zw7 := ew7.size
  refine ⟨_, rfl, ?_⟩
  refine BIf.dec (fun hn => ⟨rfl, e⟩) (fun hpw7 => ?_)
  have sz0 : (x.dat).sz ≤ 1048576 := by omega
  refine ⟨_, hbw1.cell 0, ?_⟩
  refine ⟨p0_1, hbw1.cell 1, ?_⟩
  refine ⟨p0_2, hbw1.cell 2, ?_⟩
  refine ⟨p0_3, hbw1.cell 3, ?_⟩
  refine (c11 (DIpc.has _) (IsD.ext e _ _ h0) (by have := sz0; omega)).mono ?_
  rintro _ w14 ⟨yw14, rfl, fw14, ew14⟩
  have hbw1 := hbw1.ext ew14
  have e := Only.trans e ew14
  have zw14 := ew14.size
  have hiyw14 := fw14.is
  obtain ⟨ryw14_1, ryw14_2, ryw14_3, rfl, _, _, _, _⟩ := cells_Ipc hiyw14
  refine ⟨_, ryw14_1, ryw14_2, ryw14_3, rfl, ?_⟩
  refine (specCapsBelow (top := top) fw14.is sz0).mono ?_
  rintro _ w20 ⟨yw20_0, rfl, fw20_0, ew20⟩
  have hbw1 := hbw1.ext ew20
  have fw14 := fw14.ext ew20
  have e := Only.trans e ew20
  have zw20 := ew20.size
  refine ⟨yw20_0, rfl, ?_⟩
  refine ⟨_, hbw1.cell 0, ?_⟩
  refine ⟨p0_1, hbw1.cell 1, ?_⟩
  refine ⟨p0_2, hbw1.cell 2, ?_⟩
  refine ⟨p0_3, hbw1.cell 3, ?_⟩
  refine (c11 (DIpc.has _) (IsD.ext e _ _ h0) (by have := sz0; omega)).mono ?_
  rintro _ w27 ⟨yw27, rfl, fw27, ew27⟩
  have hbw1 := hbw1.ext ew27
  have fw14 := fw14.ext ew27
  have fw20_0 := fw20_0.ext ew27
  have e := Only.trans e ew27
  have zw27 := ew27.size
  have hiyw27 := fw27.is
  obtain ⟨ryw27_1, ryw27_2, ryw27_3, rfl, _, _, _, _⟩ := cells_Ipc hiyw27
  refine ⟨_, ryw27_1, ryw27_2, ryw27_3, rfl, ?_⟩
  refine alloc_step (fun w32 ew32 hbw32 nw32 => ?_)
  have hbw1 := hbw1.ext ew32
  have fw14 := fw14.ext ew32
  have fw20_0 := fw20_0.ext ew32
  have fw27 := fw27.ext ew32
  have e := Only.trans e ew32
  have zw32 := ew32.size
  refine put_step hbw32 rfl rfl (fun w33 ow33 hbw32q nw33 => ?_)
  have hbw1 := hbw1.only ow33 (by omega)
  have fw14 := fw14.only ow33 (fun k h1 h2 => by omega)
  have fw20_0 := fw20_0.only ow33 (fun k h1 h2 => by omega)
  have fw27 := fw27.only ow33 (fun k h1 h2 => by omega)
  have e := Ext.own e ow33 (fun k hk => by omega)
  have hbw32 := hbw32q
  refine ⟨_, hbw32.cell 0, ?_⟩
  refine ⟨ryw27_1, hbw32.cell 1, ?_⟩
  refine ⟨ryw27_2, hbw32.cell 2, ?_⟩
  refine ⟨ryw27_3, hbw32.cell 3, ?_⟩
  refine (implCapsBelow (top := top) fw27.is sz0).mono ?_
  rintro _ w39 ⟨yw39_0, rfl, fw39_0, ew39⟩
  have hbw1 := hbw1.ext ew39
  have hbw32 := hbw32.ext ew39
  have fw14 := fw14.ext ew39
  have fw20_0 := fw20_0.ext ew39
  have fw27 := fw27.ext ew39
  have e := Only.trans e ew39
  have zw39 := ew39.size
  refine ⟨yw39_0, rfl, ?_⟩
  refine (c22 (below_has x top) fw39_0.is fw20_0.is).mono ?_
  rintro _ w42 ⟨rfl, ew42⟩
  have hbw1 := hbw1.ext ew42
  have hbw32 := hbw32.ext ew42
  have fw14 := fw14.ext ew42
  have fw20_0 := fw20_0.ext ew42
  have fw27 := fw27.ext ew42
  have fw39_0 := fw39_0.ext ew42
  have e := Only.trans e ew42
  have zw42 := ew42.size
  refine ⟨_, rfl, ?_⟩
  refine BIf.f rfl ?_
  have ed := ext_drew w42
  have hbw1 := hbw1.ext ed
  have hbw32 := hbw32.ext ed
  have fw14 := fw14.ext ed
  have fw20_0 := fw20_0.ext ed
  have fw27 := fw27.ext ed
  have fw39_0 := fw39_0.ext ed
  have e := Only.trans e ed
  have zw42_drew := ed.size
  refine ⟨_, hbw32.cell 0, ?_⟩
  refine ⟨ryw27_1, hbw32.cell 1, ?_⟩
  refine ⟨ryw27_2, hbw32.cell 2, ?_⟩
  refine ⟨ryw27_3, hbw32.cell 3, ?_⟩
  refine ⟨_, hbw1.cell 0, ?_⟩
  refine ⟨p0_1, hbw1.cell 1, ?_⟩
  refine ⟨p0_2, hbw1.cell 2, ?_⟩
  refine ⟨p0_3, hbw1.cell 3, ?_⟩
  refine (c11 (DIpc.has _) (IsD.ext e _ _ h0) (by have := sz0; omega)).mono ?_
  rintro _ w53 ⟨yw53, rfl, fw53, ew53⟩
  have hbw1 := hbw1.ext ew53
  have hbw32 := hbw32.ext ew53
  have fw14 := fw14.ext ew53
  have fw20_0 := fw20_0.ext ew53
  have fw27 := fw27.ext ew53
  have fw39_0 := fw39_0.ext ew53
  have e := Only.trans e ew53
  have zw53 := ew53.size
  have hiyw53 := fw53.is
  obtain ⟨ryw53_1, ryw53_2, ryw53_3, rfl, _, _, _, _⟩ := cells_Ipc hiyw53
  refine ⟨_, ryw53_1, ryw53_2, ryw53_3, rfl, ?_⟩
  refine ⟨⟨_, hbw32.cell 0, ryw27_1, hbw32.cell 1, ryw27_2, hbw32.cell 2, ryw27_3, hbw32.cell 3, rfl⟩, ?_⟩
  refine (c13 (DIpc.has _) fw27.is fw53.is).mono ?_
  rintro _ w63 ⟨rfl, ew63⟩
  have hbw1 := hbw1.ext ew63
  have hbw32 := hbw32.ext ew63
  have fw14 := fw14.ext ew63
  have fw20_0 := fw20_0.ext ew63
  have fw27 := fw27.ext ew63
  have fw39_0 := fw39_0.ext ew63
  have fw53 := fw53.ext ew63
  have e := Only.trans e ew63
  have zw63 := ew63.size
  refine ⟨_, rfl, ?_⟩
  refine BIf.f rfl ?_
  refine ⟨_, hbw32.cell 0, ?_⟩
  refine ⟨ryw27_1, hbw32.cell 1, ?_⟩
  refine ⟨ryw27_2, hbw32.cell 2, ?_⟩
  refine ⟨ryw27_3, hbw32.cell 3, ?_⟩
  obtain ⟨bsw70, oww70, ndw70, rgw70⟩ := fw27
  refine (c17 (DIpc.has _) oww70 ndw70 (by omega) (by have := sz0; have := ipc_cnt sz0; (try simp only [Dat.cntT, Dat.cntTs] at *); omega)).mono ?_
  rintro _ w70 ⟨rfl, dw70, cnw70, hsw70, mkw70, oww70, ow70⟩
  have hbw1 := hbw1.only ow70 (fun hk => by have := rgw70 _ hk; omega)
  have hbw32 := hbw32.only ow70 (fun hk => by have := rgw70 _ hk; omega)
  have fw14 := fw14.only ow70 (fun k h1 h2 hk => by have := rgw70 k hk; omega)
  have fw20_0 := fw20_0.only ow70 (fun k h1 h2 hk => by have := rgw70 k hk; omega)
  have fw39_0 := fw39_0.only ow70 (fun k h1 h2 hk => by have := rgw70 k hk; omega)
  have fw53 := fw53.only ow70 (fun k h1 h2 hk => by have := rgw70 k hk; omega)
  have e := Ext.own e ow70 (fun k hk => by have := rgw70 k hk; omega)
  have zw70 := ow70.size
  have fw70 : Fr _ _ w70 dw70 _ := ⟨bsw70, oww70, ndw70, rgw70⟩
  refine ⟨_, rfl, ?_⟩
  refine JoinW.each ?_
  refine BIf.f (decide_eq_false (by omega)) ?_
  refine (c22 (below_has x top) fw39_0.is fw20_0.is).mono ?_
  rintro _ w101 ⟨rfl, ew101⟩
  have hbw1 := hbw1.ext ew101
  have hbw32 := hbw32.ext ew101
  have fw14 := fw14.ext ew101
  have fw20_0 := fw20_0.ext ew101
  have fw39_0 := fw39_0.ext ew101
  have fw53 := fw53.ext ew101
  have fw70 := fw70.ext ew101
  have e := Only.trans e ew101
  have zw101 := ew101.size
  refine ⟨_, rfl, ?_⟩
  refine BIf.f (by first | (simp; done) | (simp; omega)) ?_
  obtain ⟨bsw76, oww76, ndw76, rgw76⟩ := fw39_0
  refine (c23 (below_has x top) oww76 ndw76 (by omega) (by have := below_cnt (x := x) (top := top) sz0; omega)).mono ?_
  rintro _ w76 ⟨rfl, dw76, _, cnw76, hsw76, mkw76, oww76, ow76⟩
  have hbw1 := hbw1.only ow76 (fun hk => by have := rgw76 _ hk; omega)
  have hbw32 := hbw32.only ow76 (fun hk => by have := rgw76 _ hk; omega)
  have fw14 := fw14.only ow76 (fun k h1 h2 hk => by have := rgw76 k hk; omega)
  have fw20_0 := fw20_0.only ow76 (fun k h1 h2 hk => by have := rgw76 k hk; omega)
  have fw53 := fw53.only ow76 (fun k h1 h2 hk => by have := rgw76 k hk; omega)
  have fw70 := fw70.only ow76 (fun k h1 h2 hk => by have := rgw76 k hk; omega)
  have e := Ext.own e ow76 (fun k hk => by have := rgw76 k hk; omega)
  have zw76 := ow76.size
  have fw76 : Fr _ _ w76 (.sl 1 dw76) _ := ⟨bsw76, oww76, ndw76, rgw76⟩
  refine ⟨_, rfl, ?_⟩
  refine (c24 hsw76 fw76.is mkw76 (by omega) (by have := cnw76; have := below_cnt (x := x) (top := top) sz0; omega)).mono ?_
  rintro _ w79 ⟨rfl, ew79⟩
  have hbw1 := hbw1.ext ew79
  have hbw32 := hbw32.ext ew79
  have fw14 := fw14.ext ew79
  have fw20_0 := fw20_0.ext ew79
  have fw53 := fw53.ext ew79
  have fw70 := fw70.ext ew79
  have fw76 := fw76.ext ew79
  have e := Only.trans e ew79
  have zw79 := ew79.size
  refine ⟨_, rfl, ?_⟩
  refine BIf.f (decide_eq_false (by omega)) ?_
  refine BIf.f (by first | (simp; done) | (simp; omega)) ?_
  refine ⟨_, hbw1.cell 0, ?_⟩
  refine ⟨p0_1, hbw1.cell 1, ?_⟩
  refine ⟨p0_2, hbw1.cell 2, ?_⟩
  refine ⟨p0_3, hbw1.cell 3, ?_⟩
  refine (c11 (DIpc.has _) (IsD.ext e _ _ h0) (by have := sz0; omega)).mono ?_
  rintro _ w86 ⟨yw86, rfl, fw86, ew86⟩
  have hbw1 := hbw1.ext ew86
  have hbw32 := hbw32.ext ew86
  have fw14 := fw14.ext ew86
  have fw20_0 := fw20_0.ext ew86
  have fw53 := fw53.ext ew86
  have fw70 := fw70.ext ew86
  have fw76 := fw76.ext ew86
  have e := Only.trans e ew86
  have zw86 := ew86.size
  have hiyw86 := fw86.is
  obtain ⟨ryw86_1, ryw86_2, ryw86_3, rfl, _, _, _, _⟩ := cells_Ipc hiyw86
  refine ⟨_, ryw86_1, ryw86_2, ryw86_3, rfl, ?_⟩
  refine (implCapsBelow (top := top) fw86.is sz0).mono ?_
  rintro _ w92 ⟨yw92_0, rfl, fw92_0, ew92⟩
  have hbw1 := hbw1.ext ew92
  have hbw32 := hbw32.ext ew92
  have fw14 := fw14.ext ew92
  have fw20_0 := fw20_0.ext ew92
  have fw53 := fw53.ext ew92
  have fw70 := fw70.ext ew92
  have fw76 := fw76.ext ew92
  have fw86 := fw86.ext ew92
  have e := Only.trans e ew92
  have zw92 := ew92.size
  refine ⟨yw92_0, rfl, ?_⟩
  refine (c22 (below_has x top) fw92_0.is fw20_0.is).mono ?_
  rintro _ w95 ⟨rfl, ew95⟩
  have hbw1 := hbw1.ext ew95
  have hbw32 := hbw32.ext ew95
  have fw14 := fw14.ext ew95
  have fw20_0 := fw20_0.ext ew95
  have fw53 := fw53.ext ew95
  have fw70 := fw70.ext ew95
  have fw76 := fw76.ext ew95
  have fw86 := fw86.ext ew95
  have fw92_0 := fw92_0.ext ew95
  have e := Only.trans e ew95
  have zw95 := ew95.size
  refine ⟨_, rfl, ?_⟩
  refine BIf.f rfl ?_
  refine (c24 hsw76 fw76.is mkw76 (by omega) (by have := cnw76; have := below_cnt (x := x) (top := top) sz0; omega)).mono ?_
  rintro _ w98 ⟨rfl, ew98⟩
  have hbw1 := hbw1.ext ew98
  have hbw32 := hbw32.ext ew98
  have fw14 := fw14.ext ew98
  have fw20_0 := fw20_0.ext ew98
  have fw53 := fw53.ext ew98
  have fw70 := fw70.ext ew98
  have fw76 := fw76.ext ew98
  have fw86 := fw86.ext ew98
  have fw92_0 := fw92_0.ext ew98
  have e := Only.trans e ew98
  have zw98 := ew98.size
  refine ⟨_, rfl, ?_⟩
  refine BIf.f (decide_eq_false (by omega)) ?_
  refine BIf.f (by first | (simp; done) | (simp; omega)) ?_
  exact ⟨by trivial, e⟩
open Go.RowKit in
theorem law_calls5 {w : World} {c0 : Array Value} {x : DIpc} (h0 : cDIpc.is w c0.toList x) {top : Int} (wf1 : (Lit.int .i64 top).wf = true) : Calls Try.prog 5 #[.agg c0, .int .i64 top] w (fun e w' => e = .returned (.bool true) ∧ Below w.heap.size w w') :=
  (walk5 (cDIpc_dat h0) (top := top) wf1).mono (by rintro e w' ⟨v, rfl, rfl, he⟩; exact ⟨rfl, he.below⟩)
end Go.Proofs.Ytbimoajgofcmbaa

/- The row of the law FnExactCapsBelow: what its walk shows is what the statement says. Conditions: none. -/
namespace Go.Proofs.Ytbimoajgofcmbaa.fnExactCapsBelow
open Go.ChangeShapes Go.WideShapes Go.ChangeAt Go.RowKit
open Go.ChangeMaps (open_string shut_string)
set_option linter.unusedVariables false
theorem own : ownKnob Try.prog.godebug = none := by kernel_rfl
theorem laidOut : laidOutB Try.prog = true := by kernel_rfl
set_option maxRecDepth 100000 in
theorem lifted (os : Os) (started : os.Started) (H : Type) (enc : TypeId × Value → H) :
    ReturnsInHanded {} Try.checked os 5 .any (Rows.fnExactCapsBelowSpec.pre6 enc Try.prog Try.f5 Rows.fnExactCapsBelowRow.domain false) (Rows.fnExactCapsBelowSpec.post enc Try.prog Try.f5 false true false false) := by
  refine returnsInHanded_of_change_sized (C := Try.checked) own started (by kernel_rfl) Try.func5
    (ChangeSpec.witness6 (enc := enc) (C := Try.checked) false ⟨#[], #[.agg #[.int .i64 0, .slice none 0 0, .slice none 0 0, .slice none 0 0], .int .i64 0], []⟩ 8 (by kernel_rfl) (by kernel_rfl) (by kernel_rfl) (by kernel_rfl)) ?_
  intro W base args ds gs before hval0 hW hcnd hsz0 _
  have hsz : (DataW.weightsEach Try.prog (Try.f5.params.toList ++ Rows.fnExactCapsBelowSpec.plain.varTypes Try.prog) (ds ++ gs)).all (· ≤ reachBytes) = true := hsz0
  have hval : ∀ (j : Nat) t v, Try.f5.params[j]? = some t → args[j]? = some v → Value.okWide Try.prog W .any base t v := hval0
  have hW' := hW
  obtain ⟨p, q, hA0, hV, rfl, hfz, hnd⟩ := hW
  have hA : DataW.TrodAll enc Try.prog W 0 (fun _ => true) true Try.f5.params.toList args.toList ds p := hA0
  rw [Try.params5] at hA hval hsz
  obtain ⟨v0, vs0, d0, ds0, p0, q0, hargs, rfl, rfl, h0, r0⟩ := trodAll_cons hA
  obtain ⟨v1, vs1, d1, ds1, p1, q1, rfl, rfl, rfl, h1, r1⟩ := trodAll_cons r0
  obtain ⟨rfl, rfl, rfl⟩ := trodAll_nil r1
  obtain rfl : args = #[v0, v1] := by cases args; simp_all
  obtain ⟨rfl, rfl⟩ := trodVars_none hV
  have k0 := h0
  have lt0 : ∀ x ∈ p0, x.block < W.heap.size := by obtain ⟨m, hm⟩ := k0; exact DataW.trod_lt m _ _ _ hm
  obtain ⟨c0, rfl⟩ : ∃ cs, v0 = .agg cs := by have hv := (hval 0 26 v0 rfl rfl); unfold Value.okWide at hv; rw [Try.underlying26] at hv; exact ⟨hv.choose, hv.choose_spec.1⟩
  obtain ⟨x0, w0⟩ : ∃ x, (cDIpc).is W c0.toList x := by obtain ⟨fuel, hf⟩ := h0; exact ((o26).at_ enc W fuel _ _ hf).2
  obtain ⟨a1, rfl, rfl, rfl, w1⟩ := open_int Try.underlying2 (hval 1 2 v1 rfl rfl) h1
  clear hA0 hval0 hsz0 hsz
  refine (law_calls5 w0 w1).mono fun e W' ⟨he, bel⟩ => ?_
  subst he
  exact ⟨_, rfl, _, _, _, [], _, [], hW', trodAll_mk1 (shut_bool Try.underlying4 _), (trodAll_cons_mk (Below.trod laidOut (by kernel_rfl) (of_decide_eq_true (by kernel_rfl)) k0 bel lt0) (trodAll_cons_mk (shut_int Try.underlying2 w1) trodAll_mk0)), rfl, bel.frame _, fun h => by cases h⟩
theorem over : Rows.fnExactCapsBelowRow.holds Try.pinned (OpenSpec.ofChange Rows.fnExactCapsBelowSpec) :=
  OpenClaim.holds_of_wide 5 Try.f5 rfl rfl rfl rfl rfl rfl rfl ⟨rfl, rfl, rfl, rfl, rfl⟩ rfl rfl rfl rfl rfl (by kernel_rfl) Try.func5 (by kernel_rfl)
    (of_decide_eq_true (by kernel_rfl)) (by unfold Func.isWrapper; first | (rw [if_pos (by decide +kernel)]; kernel_rfl) | (rw [if_neg (by decide +kernel)]; exact ⟨rfl, rfl⟩))
    (fun os started H enc _ => lifted os started H enc)
theorem proved : Rows.FnExactCapsBelowSaid := over
#print axioms proved
end Go.Proofs.Ytbimoajgofcmbaa.fnExactCapsBelow
namespace Go.Proofs.Ytbimoajgofcmbaa
/-- The row, under a short name, for the claim. -/
theorem fnExactCapsBelow_holds : Rows.FnExactCapsBelowSaid := fnExactCapsBelow.proved
end Go.Proofs.Ytbimoajgofcmbaa
