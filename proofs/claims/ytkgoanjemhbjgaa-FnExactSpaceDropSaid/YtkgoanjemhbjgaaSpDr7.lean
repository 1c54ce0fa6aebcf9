/- Part 7 of 7: plain readings of code, rules for them, and a proof over them, joined by a program. Conditions: none. -/
import Derived.Test.YtkgoanjemhbjgaaSpDr6
import Derived.Test.YtkgoanjemhbjgaaRows
import Derived.WalkKit
import Derived.ProofKit
import Derived.OpenShut
import Derived.ShutString
import Derived.ChangeOld
import Derived.Below
import Derived.Carry
import Derived.SizedLaws
/- The walk of a law: copies, both sides, comparisons; printed by a program. Conditions: none. -/
set_option linter.unusedVariables false
set_option linter.unusedSimpArgs false
set_option maxRecDepth 4000
namespace Go.Proofs.Ytkgoanjemhbjgaa
open Go Go.Den
theorem goc8 {a0_0 : Sl} {a0_1 : Int} {a0_2 : Sl} {a1 : Int} {w : World} {K : Value → World → Prop} (h : W8 a0_0 a0_1 a0_2 a1 w K) : Calls Try.prog 8 #[.agg #[.slice a0_0.a a0_0.len a0_0.cap, .int .i64 a0_1, .slice a0_2.a a0_2.len a0_2.cap], .int .i64 a1] w (fun e w' => ∃ v, e = .returned v ∧ K v w') :=
  denFn_sound tt_ok mix Try.func8 (by kernel_rfl) (eq8 a0_0 a0_1 a0_2 a1 w K ▸ h)
theorem walk8 {w : World} {x : DPool} {cs0 : List Value} (h0 : IsD w (x.dat) cs0) {root : Int} (wf1 : (Lit.int .i64 root).wf = true) : Calls Try.prog 8 #[.agg ⟨cs0⟩, .int .i64 root] w (fun e w' => ∃ v, e = .returned v ∧ (v = .bool true ∧ Ext w w')) := by
  obtain ⟨p0_0, p0_1_1, rfl, _, _, _, _⟩ := cells_Pool h0
  refine goc8 ?_
  unfold W8
  refine alloc_step (fun w1 ew1 hbw1 nw1 => ?_)
  have e := ew1
  have zw1 := ew1.size
  refine ⟨p0_0, hbw1.cell 0, ?_⟩
  refine ⟨_, hbw1.cell 1, ?_⟩
  refine ⟨p0_1_1, hbw1.cell 2, ?_⟩
  refine (c32 (DPool.has _) (IsD.ext e _ _ h0) (by omega) (by omega)).mono ?_
  rintro _ w6 ⟨⟨rw6, rfl, hrw6⟩, ew6⟩
  have hbw1 := hbw1.ext ew6
  have e := Only.trans e ew6
  have zw6 := ew6.size
  refine ⟨_, rfl, ?_⟩
  refine BIf.dec (fun hn => ⟨rfl, e⟩) (fun hpw6 => ?_)
  have sz0 : (x.dat).sz ≤ 1048576 := by omega
  refine ⟨p0_0, hbw1.cell 0, ?_⟩
  refine ⟨_, hbw1.cell 1, ?_⟩
  refine ⟨p0_1_1, hbw1.cell 2, ?_⟩
  refine (c34 (DPool.has _) (IsD.ext e _ _ h0) (by have := sz0; omega)).mono ?_
  rintro _ w12 ⟨yw12, rfl, fw12, ew12⟩
  have hbw1 := hbw1.ext ew12
  have e := Only.trans e ew12
  have zw12 := ew12.size
  have hiyw12 := fw12.is
  obtain ⟨ryw12_0, ryw12_1_1, rfl, _, _, _, _⟩ := cells_Pool hiyw12
  refine ⟨ryw12_0, _, ryw12_1_1, rfl, ?_⟩
  refine (specSpaceDrop fw12.is sz0).mono ?_
  rintro _ w17 ⟨yw17_0, rfl, fw17_0, ew17⟩
  have hbw1 := hbw1.ext ew17
  have fw12 := fw12.ext ew17
  have e := Only.trans e ew17
  have zw17 := ew17.size
  have hiyw17_0 := fw17_0.is
  obtain ⟨ryw17_0_0, ryw17_0_1_1, rfl, _, _, _, _⟩ := cells_Pool hiyw17_0
  refine ⟨ryw17_0_0, _, ryw17_0_1_1, _, rfl, ?_⟩
  refine alloc_step (fun w22 ew22 hbw22 nw22 => ?_)
  have hbw1 := hbw1.ext ew22
  have fw12 := fw12.ext ew22
  have fw17_0 := fw17_0.ext ew22
  have e := Only.trans e ew22
  have zw22 := ew22.size
  refine put_step hbw22 rfl rfl (fun w23 ow23 hbw22q nw23 => ?_)
  have hbw1 := hbw1.only ow23 (by omega)
  have fw12 := fw12.only ow23 (fun k h1 h2 => by omega)
  have fw17_0 := fw17_0.only ow23 (fun k h1 h2 => by omega)
  have e := Ext.own e ow23 (fun k hk => by omega)
  have hbw22 := hbw22q
  refine ⟨p0_0, hbw1.cell 0, ?_⟩
  refine ⟨_, hbw1.cell 1, ?_⟩
  refine ⟨p0_1_1, hbw1.cell 2, ?_⟩
  refine (c34 (DPool.has _) (IsD.ext e _ _ h0) (by have := sz0; omega)).mono ?_
  rintro _ w28 ⟨yw28, rfl, fw28, ew28⟩
  have hbw1 := hbw1.ext ew28
  have hbw22 := hbw22.ext ew28
  have fw12 := fw12.ext ew28
  have fw17_0 := fw17_0.ext ew28
  have e := Only.trans e ew28
  have zw28 := ew28.size
  have hiyw28 := fw28.is
  obtain ⟨ryw28_0, ryw28_1_1, rfl, _, _, _, _⟩ := cells_Pool hiyw28
  refine ⟨ryw28_0, _, ryw28_1_1, rfl, ?_⟩
  refine alloc_step (fun w32 ew32 hbw32 nw32 => ?_)
  have hbw1 := hbw1.ext ew32
  have hbw22 := hbw22.ext ew32
  have fw12 := fw12.ext ew32
  have fw17_0 := fw17_0.ext ew32
  have fw28 := fw28.ext ew32
  have e := Only.trans e ew32
  have zw32 := ew32.size
  refine put_step hbw32 rfl rfl (fun w33 ow33 hbw32q nw33 => ?_)
  have hbw1 := hbw1.only ow33 (by omega)
  have hbw22 := hbw22.only ow33 (by omega)
  have fw12 := fw12.only ow33 (fun k h1 h2 => by omega)
  have fw17_0 := fw17_0.only ow33 (fun k h1 h2 => by omega)
  have fw28 := fw28.only ow33 (fun k h1 h2 => by omega)
  have e := Ext.own e ow33 (fun k hk => by omega)
  have hbw32 := hbw32q
  refine ⟨ryw28_0, hbw32.cell 0, ?_⟩
  refine ⟨_, hbw32.cell 1, ?_⟩
  refine ⟨ryw28_1_1, hbw32.cell 2, ?_⟩
  refine (implSpaceDrop fw28.is sz0).mono ?_
  rintro _ w38 ⟨yw38_0, rfl, fw38_0, ew38⟩
  have hbw1 := hbw1.ext ew38
  have hbw22 := hbw22.ext ew38
  have hbw32 := hbw32.ext ew38
  have fw12 := fw12.ext ew38
  have fw17_0 := fw17_0.ext ew38
  have fw28 := fw28.ext ew38
  have e := Only.trans e ew38
  have zw38 := ew38.size
  have hiyw38_0 := fw38_0.is
  obtain ⟨ryw38_0_0, ryw38_0_1_1, rfl, _, _, _, _⟩ := cells_Pool hiyw38_0
  refine ⟨ryw38_0_0, _, ryw38_0_1_1, _, rfl, ?_⟩
  refine alloc_step (fun w43 ew43 hbw43 nw43 => ?_)
  have hbw1 := hbw1.ext ew43
  have hbw22 := hbw22.ext ew43
  have hbw32 := hbw32.ext ew43
  have fw12 := fw12.ext ew43
  have fw17_0 := fw17_0.ext ew43
  have fw28 := fw28.ext ew43
  have fw38_0 := fw38_0.ext ew43
  have e := Only.trans e ew43
  have zw43 := ew43.size
  refine put_step hbw43 rfl rfl (fun w44 ow44 hbw43q nw44 => ?_)
  have hbw1 := hbw1.only ow44 (by omega)
  have hbw22 := hbw22.only ow44 (by omega)
  have hbw32 := hbw32.only ow44 (by omega)
  have fw12 := fw12.only ow44 (fun k h1 h2 => by omega)
  have fw17_0 := fw17_0.only ow44 (fun k h1 h2 => by omega)
  have fw28 := fw28.only ow44 (fun k h1 h2 => by omega)
  have fw38_0 := fw38_0.only ow44 (fun k h1 h2 => by omega)
  have e := Ext.own e ow44 (fun k hk => by omega)
  have hbw43 := hbw43q
  refine ⟨ryw38_0_0, hbw43.cell 0, ?_⟩
  refine ⟨_, hbw43.cell 1, ?_⟩
  refine ⟨ryw38_0_1_1, hbw43.cell 2, ?_⟩
  refine ⟨ryw17_0_0, hbw22.cell 0, ?_⟩
  refine ⟨_, hbw22.cell 1, ?_⟩
  refine ⟨ryw17_0_1_1, hbw22.cell 2, ?_⟩
  refine (c36 (DPool.has _) fw38_0.is fw17_0.is).mono ?_
  rintro _ w52 ⟨rfl, ew52⟩
  have hbw1 := hbw1.ext ew52
  have hbw22 := hbw22.ext ew52
  have hbw32 := hbw32.ext ew52
  have hbw43 := hbw43.ext ew52
  have fw12 := fw12.ext ew52
  have fw17_0 := fw17_0.ext ew52
  have fw28 := fw28.ext ew52
  have fw38_0 := fw38_0.ext ew52
  have e := Only.trans e ew52
  have zw52 := ew52.size
  refine ⟨_, rfl, ?_⟩
  refine JoinW.each ?_
  refine BIf.f rfl ?_
  refine BIf.f (by first | (simp; done) | (simp; omega)) ?_
  have ed := ext_drew w52
  have hbw1 := hbw1.ext ed
  have hbw22 := hbw22.ext ed
  have hbw32 := hbw32.ext ed
  have hbw43 := hbw43.ext ed
  have fw12 := fw12.ext ed
  have fw17_0 := fw17_0.ext ed
  have fw28 := fw28.ext ed
  have fw38_0 := fw38_0.ext ed
  have e := Only.trans e ed
  have zw52_drew := ed.size
  refine ⟨ryw28_0, hbw32.cell 0, ?_⟩
  refine ⟨_, hbw32.cell 1, ?_⟩
  refine ⟨ryw28_1_1, hbw32.cell 2, ?_⟩
  refine ⟨p0_0, hbw1.cell 0, ?_⟩
  refine ⟨_, hbw1.cell 1, ?_⟩
  refine ⟨p0_1_1, hbw1.cell 2, ?_⟩
  refine (c34 (DPool.has _) (IsD.ext e _ _ h0) (by have := sz0; omega)).mono ?_
  rintro _ w64 ⟨yw64, rfl, fw64, ew64⟩
  have hbw1 := hbw1.ext ew64
  have hbw22 := hbw22.ext ew64
  have hbw32 := hbw32.ext ew64
  have hbw43 := hbw43.ext ew64
  have fw12 := fw12.ext ew64
  have fw17_0 := fw17_0.ext ew64
  have fw28 := fw28.ext ew64
  have fw38_0 := fw38_0.ext ew64
  have e := Only.trans e ew64
  have zw64 := ew64.size
  have hiyw64 := fw64.is
  obtain ⟨ryw64_0, ryw64_1_1, rfl, _, _, _, _⟩ := cells_Pool hiyw64
  refine ⟨ryw64_0, _, ryw64_1_1, rfl, ?_⟩
  refine ⟨⟨ryw28_0, hbw32.cell 0, _, hbw32.cell 1, ryw28_1_1, hbw32.cell 2, rfl⟩, ?_⟩
  refine (c36 (DPool.has _) fw28.is fw64.is).mono ?_
  rintro _ w72 ⟨rfl, ew72⟩
  have hbw1 := hbw1.ext ew72
  have hbw22 := hbw22.ext ew72
  have hbw32 := hbw32.ext ew72
  have hbw43 := hbw43.ext ew72
  have fw12 := fw12.ext ew72
  have fw17_0 := fw17_0.ext ew72
  have fw28 := fw28.ext ew72
  have fw38_0 := fw38_0.ext ew72
  have fw64 := fw64.ext ew72
  have e := Only.trans e ew72
  have zw72 := ew72.size
  refine ⟨_, rfl, ?_⟩
  refine BIf.f rfl ?_
  refine ⟨ryw28_0, hbw32.cell 0, ?_⟩
  refine ⟨_, hbw32.cell 1, ?_⟩
  refine ⟨ryw28_1_1, hbw32.cell 2, ?_⟩
  obtain ⟨bsw78, oww78, ndw78, rgw78⟩ := fw28
  refine (c39 (DPool.has _) oww78 ndw78 (by omega) (by have := sz0; have := pool_cnt sz0; (try simp only [Dat.cntT, Dat.cntTs] at *); omega)).mono ?_
  rintro _ w78 ⟨rfl, dw78, cnw78, hsw78, mkw78, oww78, ow78⟩
  have hbw1 := hbw1.only ow78 (fun hk => by have := rgw78 _ hk; omega)
  have hbw22 := hbw22.only ow78 (fun hk => by have := rgw78 _ hk; omega)
  have hbw32 := hbw32.only ow78 (fun hk => by have := rgw78 _ hk; omega)
  have hbw43 := hbw43.only ow78 (fun hk => by have := rgw78 _ hk; omega)
  have fw12 := fw12.only ow78 (fun k h1 h2 hk => by have := rgw78 k hk; omega)
  have fw17_0 := fw17_0.only ow78 (fun k h1 h2 hk => by have := rgw78 k hk; omega)
  have fw38_0 := fw38_0.only ow78 (fun k h1 h2 hk => by have := rgw78 k hk; omega)
  have fw64 := fw64.only ow78 (fun k h1 h2 hk => by have := rgw78 k hk; omega)
  have e := Ext.own e ow78 (fun k hk => by have := rgw78 k hk; omega)
  have zw78 := ow78.size
  have fw78 : Fr _ _ w78 dw78 _ := ⟨bsw78, oww78, ndw78, rgw78⟩
  refine ⟨_, rfl, ?_⟩
  refine JoinW.each ?_
  refine BIf.f (decide_eq_false (by omega)) ?_
  refine ⟨ryw38_0_0, hbw43.cell 0, ?_⟩
  refine ⟨_, hbw43.cell 1, ?_⟩
  refine ⟨ryw38_0_1_1, hbw43.cell 2, ?_⟩
  refine ⟨ryw17_0_0, hbw22.cell 0, ?_⟩
  refine ⟨_, hbw22.cell 1, ?_⟩
  refine ⟨ryw17_0_1_1, hbw22.cell 2, ?_⟩
  refine (c36 (DPool.has _) fw38_0.is fw17_0.is).mono ?_
  rintro _ w139 ⟨rfl, ew139⟩
  have hbw1 := hbw1.ext ew139
  have hbw22 := hbw22.ext ew139
  have hbw32 := hbw32.ext ew139
  have hbw43 := hbw43.ext ew139
  have fw12 := fw12.ext ew139
  have fw17_0 := fw17_0.ext ew139
  have fw38_0 := fw38_0.ext ew139
  have fw64 := fw64.ext ew139
  have fw78 := fw78.ext ew139
  have e := Only.trans e ew139
  have zw139 := ew139.size
  refine ⟨_, rfl, ?_⟩
  refine JoinW.each ?_
  refine BIf.f (by first | (simp; done) | (simp; omega)) ?_
  refine BIf.f (by first | (simp; done) | (simp; omega)) ?_
  refine ⟨ryw38_0_0, hbw43.cell 0, ?_⟩
  refine ⟨_, hbw43.cell 1, ?_⟩
  refine ⟨ryw38_0_1_1, hbw43.cell 2, ?_⟩
  obtain ⟨bsw90, oww90, ndw90, rgw90⟩ := fw38_0
  refine (c39 (DPool.has _) oww90 ndw90 (by omega) (by have := dropP_cnt (root := root) h0 sz0; omega)).mono ?_
  rintro _ w90 ⟨rfl, dw90, cnw90, hsw90, mkw90, oww90, ow90⟩
  have hbw1 := hbw1.only ow90 (fun hk => by have := rgw90 _ hk; omega)
  have hbw22 := hbw22.only ow90 (fun hk => by have := rgw90 _ hk; omega)
  have hbw32 := hbw32.only ow90 (fun hk => by have := rgw90 _ hk; omega)
  have hbw43 := hbw43.only ow90 (fun hk => by have := rgw90 _ hk; omega)
  have fw12 := fw12.only ow90 (fun k h1 h2 hk => by have := rgw90 k hk; omega)
  have fw17_0 := fw17_0.only ow90 (fun k h1 h2 hk => by have := rgw90 k hk; omega)
  have fw64 := fw64.only ow90 (fun k h1 h2 hk => by have := rgw90 k hk; omega)
  have fw78 := fw78.only ow90 (fun k h1 h2 hk => by have := rgw90 k hk; omega)
  have e := Ext.own e ow90 (fun k hk => by have := rgw90 k hk; omega)
  have zw90 := ow90.size
  have fw90 : Fr _ _ w90 dw90 _ := ⟨bsw90, oww90, ndw90, rgw90⟩
  refine ⟨_, rfl, ?_⟩
  refine ⟨ryw38_0_0, hbw43.cell 0, ?_⟩
  refine ⟨_, hbw43.cell 1, ?_⟩
  refine ⟨ryw38_0_1_1, hbw43.cell 2, ?_⟩
  refine (c40 hsw90 fw90.is mkw90 (by omega) (by have := cnw90; have := dropP_cnt (root := root) h0 sz0; omega)).mono ?_
  rintro _ w96 ⟨rfl, ew96⟩
  have hbw1 := hbw1.ext ew96
  have hbw22 := hbw22.ext ew96
  have hbw32 := hbw32.ext ew96
  have hbw43 := hbw43.ext ew96
  have fw12 := fw12.ext ew96
  have fw17_0 := fw17_0.ext ew96
  have fw64 := fw64.ext ew96
  have fw78 := fw78.ext ew96
  have fw90 := fw90.ext ew96
  have e := Only.trans e ew96
  have zw96 := ew96.size
  refine ⟨_, rfl, ?_⟩
  refine BIf.f (decide_eq_false (by omega)) ?_
  refine BIf.f (by first | (simp; done) | (simp; omega)) ?_
  refine ⟨p0_0, hbw1.cell 0, ?_⟩
  refine ⟨_, hbw1.cell 1, ?_⟩
  refine ⟨p0_1_1, hbw1.cell 2, ?_⟩
  refine (c34 (DPool.has _) (IsD.ext e _ _ h0) (by have := sz0; omega)).mono ?_
  rintro _ w102 ⟨yw102, rfl, fw102, ew102⟩
  have hbw1 := hbw1.ext ew102
  have hbw22 := hbw22.ext ew102
  have hbw32 := hbw32.ext ew102
  have hbw43 := hbw43.ext ew102
  have fw12 := fw12.ext ew102
  have fw17_0 := fw17_0.ext ew102
  have fw64 := fw64.ext ew102
  have fw78 := fw78.ext ew102
  have fw90 := fw90.ext ew102
  have e := Only.trans e ew102
  have zw102 := ew102.size
  have hiyw102 := fw102.is
  obtain ⟨ryw102_0, ryw102_1_1, rfl, _, _, _, _⟩ := cells_Pool hiyw102
  refine ⟨ryw102_0, _, ryw102_1_1, rfl, ?_⟩
  refine (implSpaceDrop fw102.is sz0).mono ?_
  rintro _ w107 ⟨yw107_0, rfl, fw107_0, ew107⟩
  have hbw1 := hbw1.ext ew107
  have hbw22 := hbw22.ext ew107
  have hbw32 := hbw32.ext ew107
  have hbw43 := hbw43.ext ew107
  have fw12 := fw12.ext ew107
  have fw17_0 := fw17_0.ext ew107
  have fw64 := fw64.ext ew107
  have fw78 := fw78.ext ew107
  have fw90 := fw90.ext ew107
  have fw102 := fw102.ext ew107
  have e := Only.trans e ew107
  have zw107 := ew107.size
  have hiyw107_0 := fw107_0.is
  obtain ⟨ryw107_0_0, ryw107_0_1_1, rfl, _, _, _, _⟩ := cells_Pool hiyw107_0
  refine ⟨ryw107_0_0, _, ryw107_0_1_1, _, rfl, ?_⟩
  refine alloc_step (fun w112 ew112 hbw112 nw112 => ?_)
  have hbw1 := hbw1.ext ew112
  have hbw22 := hbw22.ext ew112
  have hbw32 := hbw32.ext ew112
  have hbw43 := hbw43.ext ew112
  have fw12 := fw12.ext ew112
  have fw17_0 := fw17_0.ext ew112
  have fw64 := fw64.ext ew112
  have fw78 := fw78.ext ew112
  have fw90 := fw90.ext ew112
  have fw102 := fw102.ext ew112
  have fw107_0 := fw107_0.ext ew112
  have e := Only.trans e ew112
  have zw112 := ew112.size
  refine put_step hbw112 rfl rfl (fun w113 ow113 hbw112q nw113 => ?_)
  have hbw1 := hbw1.only ow113 (by omega)
  have hbw22 := hbw22.only ow113 (by omega)
  have hbw32 := hbw32.only ow113 (by omega)
  have hbw43 := hbw43.only ow113 (by omega)
  have fw12 := fw12.only ow113 (fun k h1 h2 => by omega)
  have fw17_0 := fw17_0.only ow113 (fun k h1 h2 => by omega)
  have fw64 := fw64.only ow113 (fun k h1 h2 => by omega)
  have fw78 := fw78.only ow113 (fun k h1 h2 => by omega)
  have fw90 := fw90.only ow113 (fun k h1 h2 => by omega)
  have fw102 := fw102.only ow113 (fun k h1 h2 => by omega)
  have fw107_0 := fw107_0.only ow113 (fun k h1 h2 => by omega)
  have e := Ext.own e ow113 (fun k hk => by omega)
  have hbw112 := hbw112q
  refine ⟨ryw107_0_0, hbw112.cell 0, ?_⟩
  refine ⟨_, hbw112.cell 1, ?_⟩
  refine ⟨ryw107_0_1_1, hbw112.cell 2, ?_⟩
  refine ⟨ryw17_0_0, hbw22.cell 0, ?_⟩
  refine ⟨_, hbw22.cell 1, ?_⟩
  refine ⟨ryw17_0_1_1, hbw22.cell 2, ?_⟩
  refine (c36 (DPool.has _) fw107_0.is fw17_0.is).mono ?_
  rintro _ w121 ⟨rfl, ew121⟩
  have hbw1 := hbw1.ext ew121
  have hbw22 := hbw22.ext ew121
  have hbw32 := hbw32.ext ew121
  have hbw43 := hbw43.ext ew121
  have hbw112 := hbw112.ext ew121
  have fw12 := fw12.ext ew121
  have fw17_0 := fw17_0.ext ew121
  have fw64 := fw64.ext ew121
  have fw78 := fw78.ext ew121
  have fw90 := fw90.ext ew121
  have fw102 := fw102.ext ew121
  have fw107_0 := fw107_0.ext ew121
  have e := Only.trans e ew121
  have zw121 := ew121.size
  refine ⟨_, rfl, ?_⟩
  refine JoinW.each ?_
  refine BIf.f rfl ?_
  refine BIf.f (by first | (simp; done) | (simp; omega)) ?_
  refine ⟨ryw38_0_0, hbw43.cell 0, ?_⟩
  refine ⟨_, hbw43.cell 1, ?_⟩
  refine ⟨ryw38_0_1_1, hbw43.cell 2, ?_⟩
  refine (c40 hsw90 fw90.is mkw90 (by omega) (by have := cnw90; have := dropP_cnt (root := root) h0 sz0; omega)).mono ?_
  rintro _ w130 ⟨rfl, ew130⟩
  have hbw1 := hbw1.ext ew130
  have hbw22 := hbw22.ext ew130
  have hbw32 := hbw32.ext ew130
  have hbw43 := hbw43.ext ew130
  have hbw112 := hbw112.ext ew130
  have fw12 := fw12.ext ew130
  have fw17_0 := fw17_0.ext ew130
  have fw64 := fw64.ext ew130
  have fw78 := fw78.ext ew130
  have fw90 := fw90.ext ew130
  have fw102 := fw102.ext ew130
  have fw107_0 := fw107_0.ext ew130
  have e := Only.trans e ew130
  have zw130 := ew130.size
  refine ⟨_, rfl, ?_⟩
  refine BIf.f (decide_eq_false (by omega)) ?_
  refine BIf.f (by first | (simp; done) | (simp; omega)) ?_
  exact ⟨by trivial, e⟩
open Go.RowKit in
theorem law_calls8 {w : World} {c0 : Array Value} {x : DPool} (h0 : cDPool.is w c0.toList x) {root : Int} (wf1 : (Lit.int .i64 root).wf = true) : Calls Try.prog 8 #[.agg c0, .int .i64 root] w (fun e w' => e = .returned (.bool true) ∧ Below w.heap.size w w') :=
  (walk8 (cDPool_dat h0) (root := root) wf1).mono (by rintro e w' ⟨v, rfl, rfl, he⟩; exact ⟨rfl, he.below⟩)
end Go.Proofs.Ytkgoanjemhbjgaa

/- The row of the law FnExactSpaceDrop: what its walk shows is what the statement says. Conditions: none. -/
namespace Go.Proofs.Ytkgoanjemhbjgaa.fnExactSpaceDrop
open Go.ChangeShapes Go.WideShapes Go.ChangeAt Go.RowKit
open Go.ChangeMaps (open_string shut_string)
set_option linter.unusedVariables false
theorem own : ownKnob Try.prog.godebug = none := by kernel_rfl
theorem laidOut : laidOutB Try.prog = true := by kernel_rfl
set_option maxRecDepth 100000 in
theorem lifted (os : Os) (started : os.Started) (H : Type) (enc : TypeId × Value → H) :
    ReturnsInHanded {} Try.checked os 8 .any (Rows.fnExactSpaceDropSpec.pre6 enc Try.prog Try.f8 Rows.fnExactSpaceDropRow.domain false) (Rows.fnExactSpaceDropSpec.post enc Try.prog Try.f8 false true false false) := by
  refine returnsInHanded_of_change_sized (C := Try.checked) own started (by kernel_rfl) Try.func8
    (ChangeSpec.witness6 (enc := enc) (C := Try.checked) false ⟨#[], #[.agg #[.slice none 0 0, .int .i64 0, .slice none 0 0], .int .i64 0], []⟩ 8 (by kernel_rfl) (by kernel_rfl) (by kernel_rfl) (by kernel_rfl)) ?_
  intro W base args ds gs before hval0 hW hcnd hsz0 _
  have hsz : (DataW.weightsEach Try.prog (Try.f8.params.toList ++ Rows.fnExactSpaceDropSpec.plain.varTypes Try.prog) (ds ++ gs)).all (· ≤ reachBytes) = true := hsz0
  have hval : ∀ (j : Nat) t v, Try.f8.params[j]? = some t → args[j]? = some v → Value.okWide Try.prog W .any base t v := hval0
  have hW' := hW
  obtain ⟨p, q, hA0, hV, rfl, hfz, hnd⟩ := hW
  have hA : DataW.TrodAll enc Try.prog W 0 (fun _ => true) true Try.f8.params.toList args.toList ds p := hA0
  rw [Try.params8] at hA hval hsz
  obtain ⟨v0, vs0, d0, ds0, p0, q0, hargs, rfl, rfl, h0, r0⟩ := trodAll_cons hA
  obtain ⟨v1, vs1, d1, ds1, p1, q1, rfl, rfl, rfl, h1, r1⟩ := trodAll_cons r0
  obtain ⟨rfl, rfl, rfl⟩ := trodAll_nil r1
  obtain rfl : args = #[v0, v1] := by cases args; simp_all
  obtain ⟨rfl, rfl⟩ := trodVars_none hV
  have k0 := h0
  have lt0 : ∀ x ∈ p0, x.block < W.heap.size := by obtain ⟨m, hm⟩ := k0; exact DataW.trod_lt m _ _ _ hm
  obtain ⟨c0, rfl⟩ : ∃ cs, v0 = .agg cs := by have hv := (hval 0 58 v0 rfl rfl); unfold Value.okWide at hv; rw [Try.underlying58] at hv; exact ⟨hv.choose, hv.choose_spec.1⟩
  obtain ⟨x0, w0⟩ : ∃ x, (cDPool).is W c0.toList x := by obtain ⟨fuel, hf⟩ := h0; exact ((o58).at_ enc W fuel _ _ hf).2
  obtain ⟨a1, rfl, rfl, rfl, w1⟩ := open_int Try.underlying2 (hval 1 2 v1 rfl rfl) h1
  clear hA0 hval0 hsz0 hsz
  refine (law_calls8 w0 w1).mono fun e W' ⟨he, bel⟩ => ?_
  subst he
  exact ⟨_, rfl, _, _, _, [], _, [], hW', trodAll_mk1 (shut_bool Try.underlying4 _), (trodAll_cons_mk (Below.trod laidOut (by kernel_rfl) (of_decide_eq_true (by kernel_rfl)) k0 bel lt0) (trodAll_cons_mk (shut_int Try.underlying2 w1) trodAll_mk0)), rfl, bel.frame _, fun h => by cases h⟩
theorem over : Rows.fnExactSpaceDropRow.holds Try.pinned (OpenSpec.ofChange Rows.fnExactSpaceDropSpec) :=
  OpenClaim.holds_of_wide 8 Try.f8 rfl rfl rfl rfl rfl rfl rfl ⟨rfl, rfl, rfl, rfl, rfl⟩ rfl rfl rfl rfl rfl (by kernel_rfl) Try.func8 (by kernel_rfl)
    (of_decide_eq_true (by kernel_rfl)) (by unfold Func.isWrapper; first | (rw [if_pos (by decide +kernel)]; kernel_rfl) | (rw [if_neg (by decide +kernel)]; exact ⟨rfl, rfl⟩))
    (fun os started H enc _ => lifted os started H enc)
theorem proved : Rows.FnExactSpaceDropSaid := over
#print axioms proved
end Go.Proofs.Ytkgoanjemhbjgaa.fnExactSpaceDrop
namespace Go.Proofs.Ytkgoanjemhbjgaa
/-- The row, under a short name, for the claim. -/
theorem fnExactSpaceDrop_holds : Rows.FnExactSpaceDropSaid := fnExactSpaceDrop.proved
end Go.Proofs.Ytkgoanjemhbjgaa
