/- Part 7 of 8: plain readings of code, rules for them, and a proof over them, joined by a program. Conditions: none. -/
import Derived.Test.YteigefjiifihpaaSstp6
/- The walk of a law: copies, both sides, comparisons; printed by a program. Conditions: none. -/
set_option linter.unusedVariables false
set_option linter.unusedSimpArgs false
set_option maxRecDepth 4000
namespace Go.Proofs.Yteigefjiifihpaa
open Go Go.Den
theorem goc4 {a0_0 : Int} {a0_1 : Int} {a0_2 : Sl} {a0_3 : Sl} {a1_0 : Int} {a1_1 : Int} {a1_2 : Int} {w : World} {K : Value → World → Prop} (h : W4 a0_0 a0_1 a0_2 a0_3 a1_0 a1_1 a1_2 w K) : Calls Try.prog 4 #[.agg #[.int .i64 a0_0, .int .i64 a0_1, .slice a0_2.a a0_2.len a0_2.cap, .slice a0_3.a a0_3.len a0_3.cap], .agg #[.int .i64 a1_0, .int .i64 a1_1, .int .i64 a1_2]] w (fun e w' => ∃ v, e = .returned v ∧ K v w') :=
 denFn_sound tt_ok mix Try.func4 (by kernel_rfl) (eq4 a0_0 a0_1 a0_2 a0_3 a1_0 a1_1 a1_2 w K ▸ h)
set_option maxHeartbeats 8000000 in
theorem walk4 {w : World} {x : DSched} {cs0 : List Value} (h0 : IsD w (x.dat) cs0) {op : DSchedOp} {cs1 : List Value} (h1 : IsD w (op.dat) cs1) : Calls Try.prog 4 #[.agg ⟨cs0⟩, .agg ⟨cs1⟩] w (fun e w' => ∃ v, e = .returned v ∧ (v = .bool true ∧ Ext w w')) := by
 obtain ⟨p0_2, p0_3, rfl, _, _, _, _⟩ := cells_Sched h0
 obtain ⟨rfl, _, _, _⟩ := cells_SchedOp h1
 refine goc4 ?_
 unfold W4
 refine alloc_step (fun w1 ew1 hbw1 nw1 => ?_)
 have e := ew1
 have zw1 := ew1.size
 refine alloc_step (fun w2 ew2 hbw2 nw2 => ?_)
 have hbw1 := hbw1.ext ew2
 have e := Only.trans e ew2
 have zw2 := ew2.size
 refine ⟨_, hbw1.cell 0, ?_⟩
 refine ⟨_, hbw1.cell 1, ?_⟩
 refine ⟨p0_2, hbw1.cell 2, ?_⟩
 refine ⟨p0_3, hbw1.cell 3, ?_⟩
 refine (c20 (DSched.has _) (IsD.ext e _ _ h0) (by omega) (by omega)).mono ?_
 rintro _ w8 ⟨⟨rw8, rfl, hrw8⟩, ew8⟩
 have hbw1 := hbw1.ext ew8
 have hbw2 := hbw2.ext ew8
 have e := Only.trans e ew8
 have zw8 := ew8.size
 refine ⟨_, rfl, ?_⟩
 refine BIf.dec (fun hn => ⟨rfl, e⟩) (fun hpw8 => ?_)
 have sz0 : (x.dat).sz ≤ 1048576 := by omega
 refine JoinW.cut2 (fun (p10 : Option Addr) (p11 : Option Addr) w' => ∃ (b lo hi : Nat) (y : List Value) (c1 : Nat), p10 = some ⟨b, 0, none⟩ ∧ p11 = some ⟨c1, 0, none⟩ ∧ w8.heap.size ≤ b ∧ w8.heap.size ≤ lo ∧ hi ≤ w'.heap.size ∧ (b < lo ∨ hi ≤ b) ∧ b < w'.heap.size ∧ w8.heap.size ≤ c1 ∧ c1 < w'.heap.size ∧ b ≠ c1 ∧ (c1 < lo ∨ hi ≤ c1) ∧ Blk w' c1 [.int .i64 (stepA x op).Code, .int .i64 (stepA x op).N] ∧ Blk w' b y ∧ Fr lo hi w' (stepD x op).dat y ∧ Ext w8 w') ?_ ?_
 ·
  have er : Ext w8 w8 := Only.refl _ _
  have zr0 : w8.heap.size ≤ w8.heap.size := Nat.le_refl _
  have ed := ext_drew w8
  have hbw1 := hbw1.ext ed
  have hbw2 := hbw2.ext ed
  have e := Only.trans e ed
  have er := Only.trans er ed
  have zw8_drew := ed.size
  refine ⟨_, hbw1.cell 0, ?_⟩
  refine ⟨_, hbw1.cell 1, ?_⟩
  refine ⟨p0_2, hbw1.cell 2, ?_⟩
  refine ⟨p0_3, hbw1.cell 3, ?_⟩
  refine ⟨_, hbw2.cell 0, ?_⟩
  refine ⟨_, hbw2.cell 1, ?_⟩
  refine ⟨_, hbw2.cell 2, ?_⟩
  refine ⟨?_, ?_⟩
  ·
   refine (c22 (DSched.has _) (IsD.ext e _ _ h0) (by have := sz0; omega)).mono ?_
   rintro _ w1229 ⟨yw1229, rfl, fw1229, ew1229⟩
   have hbw1 := hbw1.ext ew1229
   have hbw2 := hbw2.ext ew1229
   have e := Only.trans e ew1229
   have er := Only.trans er ew1229
   have zw1229 := ew1229.size
   have hiyw1229 := fw1229.is
   obtain ⟨ryw1229_2, ryw1229_3, rfl, _, _, _, _⟩ := cells_Sched hiyw1229
   refine ⟨_, _, ryw1229_2, ryw1229_3, rfl, ?_⟩
   refine ⟨⟨_, hbw2.cell 0, _, hbw2.cell 1, _, hbw2.cell 2, rfl⟩, ?_⟩
   refine ⟨?_, ?_⟩
   ·
    refine (c23 (DSchedOp.has _) (IsD.ext e _ _ h1) (by have := op_sz op; omega)).mono ?_
    rintro _ w1382 ⟨yw1382, rfl, fw1382, ew1382⟩
    have hbw1 := hbw1.ext ew1382
    have hbw2 := hbw2.ext ew1382
    have fw1229 := fw1229.ext ew1382
    have e := Only.trans e ew1382
    have er := Only.trans er ew1382
    have zw1382 := ew1382.size
    have hiyw1382 := fw1382.is
    obtain ⟨rfl, _, _, _⟩ := cells_SchedOp hiyw1382
    refine ⟨_, _, _, rfl, ?_⟩
    refine ⟨?_, ?_⟩
    ·
     refine (specSchedStep fw1229.is sz0 fw1382.is).mono ?_
     rintro _ w1475 ⟨yw1475_0, rfl, fw1475_0, ew1475⟩
     have hbw1 := hbw1.ext ew1475
     have hbw2 := hbw2.ext ew1475
     have fw1229 := fw1229.ext ew1475
     have fw1382 := fw1382.ext ew1475
     have e := Only.trans e ew1475
     have er := Only.trans er ew1475
     have zw1475 := ew1475.size
     have hiyw1475_0 := fw1475_0.is
     obtain ⟨ryw1475_0_2, ryw1475_0_3, rfl, _, _, _, _⟩ := cells_Sched hiyw1475_0
     refine ⟨_, _, ryw1475_0_2, ryw1475_0_3, _, _, rfl, ?_⟩
     refine ⟨?_, ?_⟩
     ·
      refine alloc_step (fun w1500 ew1500 hbw1500 nw1500 => ?_)
      have hbw1 := hbw1.ext ew1500
      have hbw2 := hbw2.ext ew1500
      have fw1229 := fw1229.ext ew1500
      have fw1382 := fw1382.ext ew1500
      have fw1475_0 := fw1475_0.ext ew1500
      have e := Only.trans e ew1500
      have er := Only.trans er ew1500
      have zw1500 := ew1500.size
      refine ⟨⟨_, hbw2.cell 0, _, hbw2.cell 1, _, hbw2.cell 2, rfl⟩, ?_⟩
      refine ⟨⟨_, hbw1.cell 0, _, hbw1.cell 1, p0_2, hbw1.cell 2, p0_3, hbw1.cell 3, rfl⟩, ?_⟩
      refine ⟨?_, ?_⟩
      ·
       refine alloc_step (fun w1508 ew1508 hbw1508 nw1508 => ?_)
       have hbw1 := hbw1.ext ew1508
       have hbw2 := hbw2.ext ew1508
       have hbw1500 := hbw1500.ext ew1508
       have fw1229 := fw1229.ext ew1508
       have fw1382 := fw1382.ext ew1508
       have fw1475_0 := fw1475_0.ext ew1508
       have e := Only.trans e ew1508
       have er := Only.trans er ew1508
       have zw1508 := ew1508.size
       refine ⟨⟨_, hbw2.cell 0, _, hbw2.cell 1, _, hbw2.cell 2, rfl⟩, ?_⟩
       refine ⟨⟨_, hbw1.cell 0, _, hbw1.cell 1, p0_2, hbw1.cell 2, p0_3, hbw1.cell 3, rfl⟩, ?_⟩
       refine ⟨?_, ?_⟩
       ·
        refine put_step hbw1500 rfl rfl (fun w1516 ow1516 hbw1500q nw1516 => ?_)
        have hbw1 := hbw1.only ow1516 (by omega)
        have hbw2 := hbw2.only ow1516 (by omega)
        have hbw1508 := hbw1508.only ow1516 (by omega)
        have fw1229 := fw1229.only ow1516 (fun k h1 h2 => by omega)
        have fw1382 := fw1382.only ow1516 (fun k h1 h2 => by omega)
        have fw1475_0 := fw1475_0.only ow1516 (fun k h1 h2 => by omega)
        have e := Ext.own e ow1516 (fun k hk => by omega)
        have er := Ext.own er ow1516 (fun k hk => by omega)
        have hbw1500 := hbw1500q
        refine ⟨?_, ?_⟩
        ·
         refine put_step hbw1508 rfl rfl (fun w1517 ow1517 hbw1508q nw1517 => ?_)
         have hbw1 := hbw1.only ow1517 (by omega)
         have hbw2 := hbw2.only ow1517 (by omega)
         have hbw1500 := hbw1500.only ow1517 (by omega)
         have fw1229 := fw1229.only ow1517 (fun k h1 h2 => by omega)
         have fw1382 := fw1382.only ow1517 (fun k h1 h2 => by omega)
         have fw1475_0 := fw1475_0.only ow1517 (fun k h1 h2 => by omega)
         have e := Ext.own e ow1517 (fun k hk => by omega)
         have er := Ext.own er ow1517 (fun k hk => by omega)
         have hbw1508 := hbw1508q
         have hbl := hbw1500.lt
         have hcl1 := hbw1508.lt
         exact ⟨_, _, _, _, _, rfl, rfl, by omega, by omega, by omega, by omega, hbl, by omega, hcl1, by omega, by omega, hbw1508, hbw1500, fw1475_0, er⟩
        ·
         trivial
       ·
        trivial
      ·
       trivial
     ·
      refine ⟨?_, ?_⟩
      ·
       refine alloc_step (fun w1482 ew1482 hbw1482 nw1482 => ?_)
       have hbw1 := hbw1.ext ew1482
       have hbw2 := hbw2.ext ew1482
       have fw1229 := fw1229.ext ew1482
       have fw1382 := fw1382.ext ew1482
       have fw1475_0 := fw1475_0.ext ew1482
       have e := Only.trans e ew1482
       have er := Only.trans er ew1482
       have zw1482 := ew1482.size
       refine ⟨⟨_, hbw2.cell 0, _, hbw2.cell 1, _, hbw2.cell 2, rfl⟩, ?_⟩
       refine ⟨⟨_, hbw1.cell 0, _, hbw1.cell 1, p0_2, hbw1.cell 2, p0_3, hbw1.cell 3, rfl⟩, ?_⟩
       refine ⟨?_, ?_⟩
       ·
        refine alloc_step (fun w1490 ew1490 hbw1490 nw1490 => ?_)
        have hbw1 := hbw1.ext ew1490
        have hbw2 := hbw2.ext ew1490
        have hbw1482 := hbw1482.ext ew1490
        have fw1229 := fw1229.ext ew1490
        have fw1382 := fw1382.ext ew1490
        have fw1475_0 := fw1475_0.ext ew1490
        have e := Only.trans e ew1490
        have er := Only.trans er ew1490
        have zw1490 := ew1490.size
        refine ⟨⟨_, hbw2.cell 0, _, hbw2.cell 1, _, hbw2.cell 2, rfl⟩, ?_⟩
        refine ⟨⟨_, hbw1.cell 0, _, hbw1.cell 1, p0_2, hbw1.cell 2, p0_3, hbw1.cell 3, rfl⟩, ?_⟩
        refine ⟨?_, ?_⟩
        ·
         refine put_step hbw1490 rfl rfl (fun w1498 ow1498 hbw1490q nw1498 => ?_)
         have hbw1 := hbw1.only ow1498 (by omega)
         have hbw2 := hbw2.only ow1498 (by omega)
         have hbw1482 := hbw1482.only ow1498 (by omega)
         have fw1229 := fw1229.only ow1498 (fun k h1 h2 => by omega)
         have fw1382 := fw1382.only ow1498 (fun k h1 h2 => by omega)
         have fw1475_0 := fw1475_0.only ow1498 (fun k h1 h2 => by omega)
         have e := Ext.own e ow1498 (fun k hk => by omega)
         have er := Ext.own er ow1498 (fun k hk => by omega)
         have hbw1490 := hbw1490q
         refine ⟨?_, ?_⟩
         ·
          refine put_step hbw1482 rfl rfl (fun w1499 ow1499 hbw1482q nw1499 => ?_)
          have hbw1 := hbw1.only ow1499 (by omega)
          have hbw2 := hbw2.only ow1499 (by omega)
          have hbw1490 := hbw1490.only ow1499 (by omega)
          have fw1229 := fw1229.only ow1499 (fun k h1 h2 => by omega)
          have fw1382 := fw1382.only ow1499 (fun k h1 h2 => by omega)
          have fw1475_0 := fw1475_0.only ow1499 (fun k h1 h2 => by omega)
          have e := Ext.own e ow1499 (fun k hk => by omega)
          have er := Ext.own er ow1499 (fun k hk => by omega)
          have hbw1482 := hbw1482q
          have hbl := hbw1490.lt
          have hcl1 := hbw1482.lt
          exact ⟨_, _, _, _, _, rfl, rfl, by omega, by omega, by omega, by omega, hbl, by omega, hcl1, by omega, by omega, hbw1482, hbw1490, fw1475_0, er⟩
         ·
          trivial
        ·
         trivial
       ·
        trivial
      ·
       trivial
    ·
     refine ⟨?_, ?_⟩
     ·
      refine alloc_step (fun w1430 ew1430 hbw1430 nw1430 => ?_)
      have hbw1 := hbw1.ext ew1430
      have hbw2 := hbw2.ext ew1430
      have fw1229 := fw1229.ext ew1430
      have fw1382 := fw1382.ext ew1430
      have e := Only.trans e ew1430
      have er := Only.trans er ew1430
      have zw1430 := ew1430.size
      refine ⟨⟨_, hbw2.cell 0, _, hbw2.cell 1, _, hbw2.cell 2, rfl⟩, ?_⟩
      refine ⟨⟨_, hbw1.cell 0, _, hbw1.cell 1, p0_2, hbw1.cell 2, p0_3, hbw1.cell 3, rfl⟩, ?_⟩
      refine ⟨?_, ?_⟩
      ·
       refine (specSchedStep fw1229.is sz0 fw1382.is).mono ?_
       rintro _ w1457 ⟨yw1457_0, rfl, fw1457_0, ew1457⟩
       have hbw1 := hbw1.ext ew1457
       have hbw2 := hbw2.ext ew1457
       have hbw1430 := hbw1430.ext ew1457
       have fw1229 := fw1229.ext ew1457
       have fw1382 := fw1382.ext ew1457
       have e := Only.trans e ew1457
       have er := Only.trans er ew1457
       have zw1457 := ew1457.size
       have hiyw1457_0 := fw1457_0.is
       obtain ⟨ryw1457_0_2, ryw1457_0_3, rfl, _, _, _, _⟩ := cells_Sched hiyw1457_0
       refine ⟨_, _, ryw1457_0_2, ryw1457_0_3, _, _, rfl, ?_⟩
       refine ⟨?_, ?_⟩
       ·
        refine alloc_step (fun w1464 ew1464 hbw1464 nw1464 => ?_)
        have hbw1 := hbw1.ext ew1464
        have hbw2 := hbw2.ext ew1464
        have hbw1430 := hbw1430.ext ew1464
        have fw1229 := fw1229.ext ew1464
        have fw1382 := fw1382.ext ew1464
        have fw1457_0 := fw1457_0.ext ew1464
        have e := Only.trans e ew1464
        have er := Only.trans er ew1464
        have zw1464 := ew1464.size
        refine ⟨⟨_, hbw2.cell 0, _, hbw2.cell 1, _, hbw2.cell 2, rfl⟩, ?_⟩
        refine ⟨⟨_, hbw1.cell 0, _, hbw1.cell 1, p0_2, hbw1.cell 2, p0_3, hbw1.cell 3, rfl⟩, ?_⟩
        refine ⟨?_, ?_⟩
        ·
         refine put_step hbw1430 rfl rfl (fun w1472 ow1472 hbw1430q nw1472 => ?_)
         have hbw1 := hbw1.only ow1472 (by omega)
         have hbw2 := hbw2.only ow1472 (by omega)
         have hbw1464 := hbw1464.only ow1472 (by omega)
         have fw1229 := fw1229.only ow1472 (fun k h1 h2 => by omega)
         have fw1382 := fw1382.only ow1472 (fun k h1 h2 => by omega)
         have fw1457_0 := fw1457_0.only ow1472 (fun k h1 h2 => by omega)
         have e := Ext.own e ow1472 (fun k hk => by omega)
         have er := Ext.own er ow1472 (fun k hk => by omega)
         have hbw1430 := hbw1430q
         refine ⟨?_, ?_⟩
         ·
          refine put_step hbw1464 rfl rfl (fun w1473 ow1473 hbw1464q nw1473 => ?_)
          have hbw1 := hbw1.only ow1473 (by omega)
          have hbw2 := hbw2.only ow1473 (by omega)
          have hbw1430 := hbw1430.only ow1473 (by omega)
          have fw1229 := fw1229.only ow1473 (fun k h1 h2 => by omega)
          have fw1382 := fw1382.only ow1473 (fun k h1 h2 => by omega)
          have fw1457_0 := fw1457_0.only ow1473 (fun k h1 h2 => by omega)
          have e := Ext.own e ow1473 (fun k hk => by omega)
          have er := Ext.own er ow1473 (fun k hk => by omega)
          have hbw1464 := hbw1464q
          have hbl := hbw1430.lt
          have hcl1 := hbw1464.lt
          exact ⟨_, _, _, _, _, rfl, rfl, by omega, by omega, by omega, by omega, hbl, by omega, hcl1, by omega, by omega, hbw1464, hbw1430, fw1457_0, er⟩
         ·
          trivial
        ·
         trivial
       ·
        trivial
      ·
       refine ⟨?_, ?_⟩
       ·
        refine alloc_step (fun w1438 ew1438 hbw1438 nw1438 => ?_)
        have hbw1 := hbw1.ext ew1438
        have hbw2 := hbw2.ext ew1438
        have hbw1430 := hbw1430.ext ew1438
        have fw1229 := fw1229.ext ew1438
        have fw1382 := fw1382.ext ew1438
        have e := Only.trans e ew1438
        have er := Only.trans er ew1438
        have zw1438 := ew1438.size
        refine ⟨⟨_, hbw2.cell 0, _, hbw2.cell 1, _, hbw2.cell 2, rfl⟩, ?_⟩
        refine ⟨⟨_, hbw1.cell 0, _, hbw1.cell 1, p0_2, hbw1.cell 2, p0_3, hbw1.cell 3, rfl⟩, ?_⟩
        refine ⟨?_, ?_⟩
        ·
         refine (specSchedStep fw1229.is sz0 fw1382.is).mono ?_
         rintro _ w1447 ⟨yw1447_0, rfl, fw1447_0, ew1447⟩
         have hbw1 := hbw1.ext ew1447
         have hbw2 := hbw2.ext ew1447
         have hbw1430 := hbw1430.ext ew1447
         have hbw1438 := hbw1438.ext ew1447
         have fw1229 := fw1229.ext ew1447
         have fw1382 := fw1382.ext ew1447
         have e := Only.trans e ew1447
         have er := Only.trans er ew1447
         have zw1447 := ew1447.size
         have hiyw1447_0 := fw1447_0.is
         obtain ⟨ryw1447_0_2, ryw1447_0_3, rfl, _, _, _, _⟩ := cells_Sched hiyw1447_0
         refine ⟨_, _, ryw1447_0_2, ryw1447_0_3, _, _, rfl, ?_⟩
         refine ⟨?_, ?_⟩
         ·
          refine put_step hbw1430 rfl rfl (fun w1454 ow1454 hbw1430q nw1454 => ?_)
          have hbw1 := hbw1.only ow1454 (by omega)
          have hbw2 := hbw2.only ow1454 (by omega)
          have hbw1438 := hbw1438.only ow1454 (by omega)
          have fw1229 := fw1229.only ow1454 (fun k h1 h2 => by omega)
          have fw1382 := fw1382.only ow1454 (fun k h1 h2 => by omega)
          have fw1447_0 := fw1447_0.only ow1454 (fun k h1 h2 => by omega)
          have e := Ext.own e ow1454 (fun k hk => by omega)
          have er := Ext.own er ow1454 (fun k hk => by omega)
          have hbw1430 := hbw1430q
          refine ⟨?_, ?_⟩
          ·
           refine put_step hbw1438 rfl rfl (fun w1455 ow1455 hbw1438q nw1455 => ?_)
           have hbw1 := hbw1.only ow1455 (by omega)
           have hbw2 := hbw2.only ow1455 (by omega)
           have hbw1430 := hbw1430.only ow1455 (by omega)
           have fw1229 := fw1229.only ow1455 (fun k h1 h2 => by omega)
           have fw1382 := fw1382.only ow1455 (fun k h1 h2 => by omega)
           have fw1447_0 := fw1447_0.only ow1455 (fun k h1 h2 => by omega)
           have e := Ext.own e ow1455 (fun k hk => by omega)
           have er := Ext.own er ow1455 (fun k hk => by omega)
           have hbw1438 := hbw1438q
           have hbl := hbw1430.lt
           have hcl1 := hbw1438.lt
           exact ⟨_, _, _, _, _, rfl, rfl, by omega, by omega, by omega, by omega, hbl, by omega, hcl1, by omega, by omega, hbw1438, hbw1430, fw1447_0, er⟩
          ·
           trivial
         ·
          trivial
        ·
         trivial
       ·
        trivial
     ·
      refine ⟨?_, ?_⟩
      ·
       refine alloc_step (fun w1386 ew1386 hbw1386 nw1386 => ?_)
       have hbw1 := hbw1.ext ew1386
       have hbw2 := hbw2.ext ew1386
       have fw1229 := fw1229.ext ew1386
       have fw1382 := fw1382.ext ew1386
       have e := Only.trans e ew1386
       have er := Only.trans er ew1386
       have zw1386 := ew1386.size
       refine ⟨⟨_, hbw2.cell 0, _, hbw2.cell 1, _, hbw2.cell 2, rfl⟩, ?_⟩
       refine ⟨⟨_, hbw1.cell 0, _, hbw1.cell 1, p0_2, hbw1.cell 2, p0_3, hbw1.cell 3, rfl⟩, ?_⟩
       refine ⟨?_, ?_⟩
       ·
        refine (specSchedStep fw1229.is sz0 fw1382.is).mono ?_
        rintro _ w1413 ⟨yw1413_0, rfl, fw1413_0, ew1413⟩
        have hbw1 := hbw1.ext ew1413
        have hbw2 := hbw2.ext ew1413
        have hbw1386 := hbw1386.ext ew1413
        have fw1229 := fw1229.ext ew1413
        have fw1382 := fw1382.ext ew1413
        have e := Only.trans e ew1413
        have er := Only.trans er ew1413
        have zw1413 := ew1413.size
        have hiyw1413_0 := fw1413_0.is
        obtain ⟨ryw1413_0_2, ryw1413_0_3, rfl, _, _, _, _⟩ := cells_Sched hiyw1413_0
        refine ⟨_, _, ryw1413_0_2, ryw1413_0_3, _, _, rfl, ?_⟩
        refine ⟨?_, ?_⟩
        ·
         refine alloc_step (fun w1420 ew1420 hbw1420 nw1420 => ?_)
         have hbw1 := hbw1.ext ew1420
         have hbw2 := hbw2.ext ew1420
         have hbw1386 := hbw1386.ext ew1420
         have fw1229 := fw1229.ext ew1420
         have fw1382 := fw1382.ext ew1420
         have fw1413_0 := fw1413_0.ext ew1420
         have e := Only.trans e ew1420
         have er := Only.trans er ew1420
         have zw1420 := ew1420.size
         refine ⟨⟨_, hbw2.cell 0, _, hbw2.cell 1, _, hbw2.cell 2, rfl⟩, ?_⟩
         refine ⟨⟨_, hbw1.cell 0, _, hbw1.cell 1, p0_2, hbw1.cell 2, p0_3, hbw1.cell 3, rfl⟩, ?_⟩
         refine ⟨?_, ?_⟩
         ·
          refine put_step hbw1420 rfl rfl (fun w1428 ow1428 hbw1420q nw1428 => ?_)
          have hbw1 := hbw1.only ow1428 (by omega)
          have hbw2 := hbw2.only ow1428 (by omega)
          have hbw1386 := hbw1386.only ow1428 (by omega)
          have fw1229 := fw1229.only ow1428 (fun k h1 h2 => by omega)
          have fw1382 := fw1382.only ow1428 (fun k h1 h2 => by omega)
          have fw1413_0 := fw1413_0.only ow1428 (fun k h1 h2 => by omega)
          have e := Ext.own e ow1428 (fun k hk => by omega)
          have er := Ext.own er ow1428 (fun k hk => by omega)
          have hbw1420 := hbw1420q
          refine ⟨?_, ?_⟩
          ·
           refine put_step hbw1386 rfl rfl (fun w1429 ow1429 hbw1386q nw1429 => ?_)
           have hbw1 := hbw1.only ow1429 (by omega)
           have hbw2 := hbw2.only ow1429 (by omega)
           have hbw1420 := hbw1420.only ow1429 (by omega)
           have fw1229 := fw1229.only ow1429 (fun k h1 h2 => by omega)
           have fw1382 := fw1382.only ow1429 (fun k h1 h2 => by omega)
           have fw1413_0 := fw1413_0.only ow1429 (fun k h1 h2 => by omega)
           have e := Ext.own e ow1429 (fun k hk => by omega)
           have er := Ext.own er ow1429 (fun k hk => by omega)
           have hbw1386 := hbw1386q
           have hbl := hbw1420.lt
           have hcl1 := hbw1386.lt
           exact ⟨_, _, _, _, _, rfl, rfl, by omega, by omega, by omega, by omega, hbl, by omega, hcl1, by omega, by omega, hbw1386, hbw1420, fw1413_0, er⟩
          ·
           trivial
         ·
          trivial
        ·
         trivial
       ·
        refine ⟨?_, ?_⟩
        ·
         refine alloc_step (fun w1394 ew1394 hbw1394 nw1394 => ?_)
         have hbw1 := hbw1.ext ew1394
         have hbw2 := hbw2.ext ew1394
         have hbw1386 := hbw1386.ext ew1394
         have fw1229 := fw1229.ext ew1394
         have fw1382 := fw1382.ext ew1394
         have e := Only.trans e ew1394
         have er := Only.trans er ew1394
         have zw1394 := ew1394.size
         refine ⟨⟨_, hbw2.cell 0, _, hbw2.cell 1, _, hbw2.cell 2, rfl⟩, ?_⟩
         refine ⟨⟨_, hbw1.cell 0, _, hbw1.cell 1, p0_2, hbw1.cell 2, p0_3, hbw1.cell 3, rfl⟩, ?_⟩
         refine ⟨?_, ?_⟩
         ·
          refine (specSchedStep fw1229.is sz0 fw1382.is).mono ?_
          rintro _ w1403 ⟨yw1403_0, rfl, fw1403_0, ew1403⟩
          have hbw1 := hbw1.ext ew1403
          have hbw2 := hbw2.ext ew1403
          have hbw1386 := hbw1386.ext ew1403
          have hbw1394 := hbw1394.ext ew1403
          have fw1229 := fw1229.ext ew1403
          have fw1382 := fw1382.ext ew1403
          have e := Only.trans e ew1403
          have er := Only.trans er ew1403
          have zw1403 := ew1403.size
          have hiyw1403_0 := fw1403_0.is
          obtain ⟨ryw1403_0_2, ryw1403_0_3, rfl, _, _, _, _⟩ := cells_Sched hiyw1403_0
          refine ⟨_, _, ryw1403_0_2, ryw1403_0_3, _, _, rfl, ?_⟩
          refine ⟨?_, ?_⟩
          ·
           refine put_step hbw1394 rfl rfl (fun w1410 ow1410 hbw1394q nw1410 => ?_)
           have hbw1 := hbw1.only ow1410 (by omega)
           have hbw2 := hbw2.only ow1410 (by omega)
           have hbw1386 := hbw1386.only ow1410 (by omega)
           have fw1229 := fw1229.only ow1410 (fun k h1 h2 => by omega)
           have fw1382 := fw1382.only ow1410 (fun k h1 h2 => by omega)
           have fw1403_0 := fw1403_0.only ow1410 (fun k h1 h2 => by omega)
           have e := Ext.own e ow1410 (fun k hk => by omega)
           have er := Ext.own er ow1410 (fun k hk => by omega)
           have hbw1394 := hbw1394q
           refine ⟨?_, ?_⟩
           ·
            refine put_step hbw1386 rfl rfl (fun w1411 ow1411 hbw1386q nw1411 => ?_)
            have hbw1 := hbw1.only ow1411 (by omega)
            have hbw2 := hbw2.only ow1411 (by omega)
            have hbw1394 := hbw1394.only ow1411 (by omega)
            have fw1229 := fw1229.only ow1411 (fun k h1 h2 => by omega)
            have fw1382 := fw1382.only ow1411 (fun k h1 h2 => by omega)
            have fw1403_0 := fw1403_0.only ow1411 (fun k h1 h2 => by omega)
            have e := Ext.own e ow1411 (fun k hk => by omega)
            have er := Ext.own er ow1411 (fun k hk => by omega)
            have hbw1386 := hbw1386q
            have hbl := hbw1394.lt
            have hcl1 := hbw1386.lt
            exact ⟨_, _, _, _, _, rfl, rfl, by omega, by omega, by omega, by omega, hbl, by omega, hcl1, by omega, by omega, hbw1386, hbw1394, fw1403_0, er⟩
           ·
            trivial
          ·
           trivial
         ·
          trivial
        ·
         trivial
      ·
       trivial
   ·
    refine ⟨?_, ?_⟩
    ·
     refine alloc_step (fun w1309 ew1309 hbw1309 nw1309 => ?_)
     have hbw1 := hbw1.ext ew1309
     have hbw2 := hbw2.ext ew1309
     have fw1229 := fw1229.ext ew1309
     have e := Only.trans e ew1309
     have er := Only.trans er ew1309
     have zw1309 := ew1309.size
     refine ⟨⟨_, hbw2.cell 0, _, hbw2.cell 1, _, hbw2.cell 2, rfl⟩, ?_⟩
     refine ⟨⟨_, hbw1.cell 0, _, hbw1.cell 1, p0_2, hbw1.cell 2, p0_3, hbw1.cell 3, rfl⟩, ?_⟩
     refine ⟨?_, ?_⟩
     ·
      refine (c23 (DSchedOp.has _) (IsD.ext e _ _ h1) (by have := op_sz op; omega)).mono ?_
      rintro _ w1341 ⟨yw1341, rfl, fw1341, ew1341⟩
      have hbw1 := hbw1.ext ew1341
      have hbw2 := hbw2.ext ew1341
      have hbw1309 := hbw1309.ext ew1341
      have fw1229 := fw1229.ext ew1341
      have e := Only.trans e ew1341
      have er := Only.trans er ew1341
      have zw1341 := ew1341.size
      have hiyw1341 := fw1341.is
      obtain ⟨rfl, _, _, _⟩ := cells_SchedOp hiyw1341
      refine ⟨_, _, _, rfl, ?_⟩
      refine ⟨?_, ?_⟩
      ·
       refine (specSchedStep fw1229.is sz0 fw1341.is).mono ?_
       rintro _ w1364 ⟨yw1364_0, rfl, fw1364_0, ew1364⟩
       have hbw1 := hbw1.ext ew1364
       have hbw2 := hbw2.ext ew1364
       have hbw1309 := hbw1309.ext ew1364
       have fw1229 := fw1229.ext ew1364
       have fw1341 := fw1341.ext ew1364
       have e := Only.trans e ew1364
       have er := Only.trans er ew1364
       have zw1364 := ew1364.size
       have hiyw1364_0 := fw1364_0.is
       obtain ⟨ryw1364_0_2, ryw1364_0_3, rfl, _, _, _, _⟩ := cells_Sched hiyw1364_0
       refine ⟨_, _, ryw1364_0_2, ryw1364_0_3, _, _, rfl, ?_⟩
       refine ⟨?_, ?_⟩
       ·
        refine alloc_step (fun w1371 ew1371 hbw1371 nw1371 => ?_)
        have hbw1 := hbw1.ext ew1371
        have hbw2 := hbw2.ext ew1371
        have hbw1309 := hbw1309.ext ew1371
        have fw1229 := fw1229.ext ew1371
        have fw1341 := fw1341.ext ew1371
        have fw1364_0 := fw1364_0.ext ew1371
        have e := Only.trans e ew1371
        have er := Only.trans er ew1371
        have zw1371 := ew1371.size
        refine ⟨⟨_, hbw2.cell 0, _, hbw2.cell 1, _, hbw2.cell 2, rfl⟩, ?_⟩
        refine ⟨⟨_, hbw1.cell 0, _, hbw1.cell 1, p0_2, hbw1.cell 2, p0_3, hbw1.cell 3, rfl⟩, ?_⟩
        refine ⟨?_, ?_⟩
        ·
         refine put_step hbw1309 rfl rfl (fun w1379 ow1379 hbw1309q nw1379 => ?_)
         have hbw1 := hbw1.only ow1379 (by omega)
         have hbw2 := hbw2.only ow1379 (by omega)
         have hbw1371 := hbw1371.only ow1379 (by omega)
         have fw1229 := fw1229.only ow1379 (fun k h1 h2 => by omega)
         have fw1341 := fw1341.only ow1379 (fun k h1 h2 => by omega)
         have fw1364_0 := fw1364_0.only ow1379 (fun k h1 h2 => by omega)
         have e := Ext.own e ow1379 (fun k hk => by omega)
         have er := Ext.own er ow1379 (fun k hk => by omega)
         have hbw1309 := hbw1309q
         refine ⟨?_, ?_⟩
         ·
          refine put_step hbw1371 rfl rfl (fun w1380 ow1380 hbw1371q nw1380 => ?_)
          have hbw1 := hbw1.only ow1380 (by omega)
          have hbw2 := hbw2.only ow1380 (by omega)
          have hbw1309 := hbw1309.only ow1380 (by omega)
          have fw1229 := fw1229.only ow1380 (fun k h1 h2 => by omega)
          have fw1341 := fw1341.only ow1380 (fun k h1 h2 => by omega)
          have fw1364_0 := fw1364_0.only ow1380 (fun k h1 h2 => by omega)
          have e := Ext.own e ow1380 (fun k hk => by omega)
          have er := Ext.own er ow1380 (fun k hk => by omega)
          have hbw1371 := hbw1371q
          have hbl := hbw1309.lt
          have hcl1 := hbw1371.lt
          exact ⟨_, _, _, _, _, rfl, rfl, by omega, by omega, by omega, by omega, hbl, by omega, hcl1, by omega, by omega, hbw1371, hbw1309, fw1364_0, er⟩
         ·
          trivial
        ·
         trivial
       ·
        trivial
      ·
       refine ⟨?_, ?_⟩
       ·
        refine alloc_step (fun w1345 ew1345 hbw1345 nw1345 => ?_)
        have hbw1 := hbw1.ext ew1345
        have hbw2 := hbw2.ext ew1345
        have hbw1309 := hbw1309.ext ew1345
        have fw1229 := fw1229.ext ew1345
        have fw1341 := fw1341.ext ew1345
        have e := Only.trans e ew1345
        have er := Only.trans er ew1345
        have zw1345 := ew1345.size
        refine ⟨⟨_, hbw2.cell 0, _, hbw2.cell 1, _, hbw2.cell 2, rfl⟩, ?_⟩
        refine ⟨⟨_, hbw1.cell 0, _, hbw1.cell 1, p0_2, hbw1.cell 2, p0_3, hbw1.cell 3, rfl⟩, ?_⟩
        refine ⟨?_, ?_⟩
        ·
         refine (specSchedStep fw1229.is sz0 fw1341.is).mono ?_
         rintro _ w1354 ⟨yw1354_0, rfl, fw1354_0, ew1354⟩
         have hbw1 := hbw1.ext ew1354
         have hbw2 := hbw2.ext ew1354
         have hbw1309 := hbw1309.ext ew1354
         have hbw1345 := hbw1345.ext ew1354
         have fw1229 := fw1229.ext ew1354
         have fw1341 := fw1341.ext ew1354
         have e := Only.trans e ew1354
         have er := Only.trans er ew1354
         have zw1354 := ew1354.size
         have hiyw1354_0 := fw1354_0.is
         obtain ⟨ryw1354_0_2, ryw1354_0_3, rfl, _, _, _, _⟩ := cells_Sched hiyw1354_0
         refine ⟨_, _, ryw1354_0_2, ryw1354_0_3, _, _, rfl, ?_⟩
         refine ⟨?_, ?_⟩
         ·
          refine put_step hbw1309 rfl rfl (fun w1361 ow1361 hbw1309q nw1361 => ?_)
          have hbw1 := hbw1.only ow1361 (by omega)
          have hbw2 := hbw2.only ow1361 (by omega)
          have hbw1345 := hbw1345.only ow1361 (by omega)
          have fw1229 := fw1229.only ow1361 (fun k h1 h2 => by omega)
          have fw1341 := fw1341.only ow1361 (fun k h1 h2 => by omega)
          have fw1354_0 := fw1354_0.only ow1361 (fun k h1 h2 => by omega)
          have e := Ext.own e ow1361 (fun k hk => by omega)
          have er := Ext.own er ow1361 (fun k hk => by omega)
          have hbw1309 := hbw1309q
          refine ⟨?_, ?_⟩
          ·
           refine put_step hbw1345 rfl rfl (fun w1362 ow1362 hbw1345q nw1362 => ?_)
           have hbw1 := hbw1.only ow1362 (by omega)
           have hbw2 := hbw2.only ow1362 (by omega)
           have hbw1309 := hbw1309.only ow1362 (by omega)
           have fw1229 := fw1229.only ow1362 (fun k h1 h2 => by omega)
           have fw1341 := fw1341.only ow1362 (fun k h1 h2 => by omega)
           have fw1354_0 := fw1354_0.only ow1362 (fun k h1 h2 => by omega)
           have e := Ext.own e ow1362 (fun k hk => by omega)
           have er := Ext.own er ow1362 (fun k hk => by omega)
           have hbw1345 := hbw1345q
           have hbl := hbw1309.lt
           have hcl1 := hbw1345.lt
           exact ⟨_, _, _, _, _, rfl, rfl, by omega, by omega, by omega, by omega, hbl, by omega, hcl1, by omega, by omega, hbw1345, hbw1309, fw1354_0, er⟩
          ·
           trivial
         ·
          trivial
        ·
         trivial
       ·
        trivial
     ·
      refine ⟨?_, ?_⟩
      ·
       refine alloc_step (fun w1317 ew1317 hbw1317 nw1317 => ?_)
       have hbw1 := hbw1.ext ew1317
       have hbw2 := hbw2.ext ew1317
       have hbw1309 := hbw1309.ext ew1317
       have fw1229 := fw1229.ext ew1317
       have e := Only.trans e ew1317
       have er := Only.trans er ew1317
       have zw1317 := ew1317.size
       refine ⟨⟨_, hbw2.cell 0, _, hbw2.cell 1, _, hbw2.cell 2, rfl⟩, ?_⟩
       refine ⟨⟨_, hbw1.cell 0, _, hbw1.cell 1, p0_2, hbw1.cell 2, p0_3, hbw1.cell 3, rfl⟩, ?_⟩
       refine ⟨?_, ?_⟩
       ·
        refine (c23 (DSchedOp.has _) (IsD.ext e _ _ h1) (by have := op_sz op; omega)).mono ?_
        rintro _ w1326 ⟨yw1326, rfl, fw1326, ew1326⟩
        have hbw1 := hbw1.ext ew1326
        have hbw2 := hbw2.ext ew1326
        have hbw1309 := hbw1309.ext ew1326
        have hbw1317 := hbw1317.ext ew1326
        have fw1229 := fw1229.ext ew1326
        have e := Only.trans e ew1326
        have er := Only.trans er ew1326
        have zw1326 := ew1326.size
        have hiyw1326 := fw1326.is
        obtain ⟨rfl, _, _, _⟩ := cells_SchedOp hiyw1326
        refine ⟨_, _, _, rfl, ?_⟩
        refine ⟨?_, ?_⟩
        ·
         refine (specSchedStep fw1229.is sz0 fw1326.is).mono ?_
         rintro _ w1331 ⟨yw1331_0, rfl, fw1331_0, ew1331⟩
         have hbw1 := hbw1.ext ew1331
         have hbw2 := hbw2.ext ew1331
         have hbw1309 := hbw1309.ext ew1331
         have hbw1317 := hbw1317.ext ew1331
         have fw1229 := fw1229.ext ew1331
         have fw1326 := fw1326.ext ew1331
         have e := Only.trans e ew1331
         have er := Only.trans er ew1331
         have zw1331 := ew1331.size
         have hiyw1331_0 := fw1331_0.is
         obtain ⟨ryw1331_0_2, ryw1331_0_3, rfl, _, _, _, _⟩ := cells_Sched hiyw1331_0
         refine ⟨_, _, ryw1331_0_2, ryw1331_0_3, _, _, rfl, ?_⟩
         refine ⟨?_, ?_⟩
         ·
          refine put_step hbw1309 rfl rfl (fun w1338 ow1338 hbw1309q nw1338 => ?_)
          have hbw1 := hbw1.only ow1338 (by omega)
          have hbw2 := hbw2.only ow1338 (by omega)
          have hbw1317 := hbw1317.only ow1338 (by omega)
          have fw1229 := fw1229.only ow1338 (fun k h1 h2 => by omega)
          have fw1326 := fw1326.only ow1338 (fun k h1 h2 => by omega)
          have fw1331_0 := fw1331_0.only ow1338 (fun k h1 h2 => by omega)
          have e := Ext.own e ow1338 (fun k hk => by omega)
          have er := Ext.own er ow1338 (fun k hk => by omega)
          have hbw1309 := hbw1309q
          refine ⟨?_, ?_⟩
          ·
           refine put_step hbw1317 rfl rfl (fun w1339 ow1339 hbw1317q nw1339 => ?_)
           have hbw1 := hbw1.only ow1339 (by omega)
           have hbw2 := hbw2.only ow1339 (by omega)
           have hbw1309 := hbw1309.only ow1339 (by omega)
           have fw1229 := fw1229.only ow1339 (fun k h1 h2 => by omega)
           have fw1326 := fw1326.only ow1339 (fun k h1 h2 => by omega)
           have fw1331_0 := fw1331_0.only ow1339 (fun k h1 h2 => by omega)
           have e := Ext.own e ow1339 (fun k hk => by omega)
           have er := Ext.own er ow1339 (fun k hk => by omega)
           have hbw1317 := hbw1317q
           have hbl := hbw1309.lt
           have hcl1 := hbw1317.lt
           exact ⟨_, _, _, _, _, rfl, rfl, by omega, by omega, by omega, by omega, hbl, by omega, hcl1, by omega, by omega, hbw1317, hbw1309, fw1331_0, er⟩
          ·
           trivial
         ·
          trivial
        ·
         trivial
       ·
        trivial
      ·
       trivial
    ·
     refine ⟨?_, ?_⟩
     ·
      refine alloc_step (fun w1237 ew1237 hbw1237 nw1237 => ?_)
      have hbw1 := hbw1.ext ew1237
      have hbw2 := hbw2.ext ew1237
      have fw1229 := fw1229.ext ew1237
      have e := Only.trans e ew1237
      have er := Only.trans er ew1237
      have zw1237 := ew1237.size
      refine ⟨⟨_, hbw2.cell 0, _, hbw2.cell 1, _, hbw2.cell 2, rfl⟩, ?_⟩
      refine ⟨⟨_, hbw1.cell 0, _, hbw1.cell 1, p0_2, hbw1.cell 2, p0_3, hbw1.cell 3, rfl⟩, ?_⟩
      refine ⟨?_, ?_⟩
      ·
       refine (c23 (DSchedOp.has _) (IsD.ext e _ _ h1) (by have := op_sz op; omega)).mono ?_
       rintro _ w1269 ⟨yw1269, rfl, fw1269, ew1269⟩
       have hbw1 := hbw1.ext ew1269
       have hbw2 := hbw2.ext ew1269
       have hbw1237 := hbw1237.ext ew1269
       have fw1229 := fw1229.ext ew1269
       have e := Only.trans e ew1269
       have er := Only.trans er ew1269
       have zw1269 := ew1269.size
       have hiyw1269 := fw1269.is
       obtain ⟨rfl, _, _, _⟩ := cells_SchedOp hiyw1269
       refine ⟨_, _, _, rfl, ?_⟩
       refine ⟨?_, ?_⟩
       ·
        refine (specSchedStep fw1229.is sz0 fw1269.is).mono ?_
        rintro _ w1292 ⟨yw1292_0, rfl, fw1292_0, ew1292⟩
        have hbw1 := hbw1.ext ew1292
        have hbw2 := hbw2.ext ew1292
        have hbw1237 := hbw1237.ext ew1292
        have fw1229 := fw1229.ext ew1292
        have fw1269 := fw1269.ext ew1292
        have e := Only.trans e ew1292
        have er := Only.trans er ew1292
        have zw1292 := ew1292.size
        have hiyw1292_0 := fw1292_0.is
        obtain ⟨ryw1292_0_2, ryw1292_0_3, rfl, _, _, _, _⟩ := cells_Sched hiyw1292_0
        refine ⟨_, _, ryw1292_0_2, ryw1292_0_3, _, _, rfl, ?_⟩
        refine ⟨?_, ?_⟩
        ·
         refine alloc_step (fun w1299 ew1299 hbw1299 nw1299 => ?_)
         have hbw1 := hbw1.ext ew1299
         have hbw2 := hbw2.ext ew1299
         have hbw1237 := hbw1237.ext ew1299
         have fw1229 := fw1229.ext ew1299
         have fw1269 := fw1269.ext ew1299
         have fw1292_0 := fw1292_0.ext ew1299
         have e := Only.trans e ew1299
         have er := Only.trans er ew1299
         have zw1299 := ew1299.size
         refine ⟨⟨_, hbw2.cell 0, _, hbw2.cell 1, _, hbw2.cell 2, rfl⟩, ?_⟩
         refine ⟨⟨_, hbw1.cell 0, _, hbw1.cell 1, p0_2, hbw1.cell 2, p0_3, hbw1.cell 3, rfl⟩, ?_⟩
         refine ⟨?_, ?_⟩
         ·
          refine put_step hbw1299 rfl rfl (fun w1307 ow1307 hbw1299q nw1307 => ?_)
          have hbw1 := hbw1.only ow1307 (by omega)
          have hbw2 := hbw2.only ow1307 (by omega)
          have hbw1237 := hbw1237.only ow1307 (by omega)
          have fw1229 := fw1229.only ow1307 (fun k h1 h2 => by omega)
          have fw1269 := fw1269.only ow1307 (fun k h1 h2 => by omega)
          have fw1292_0 := fw1292_0.only ow1307 (fun k h1 h2 => by omega)
          have e := Ext.own e ow1307 (fun k hk => by omega)
          have er := Ext.own er ow1307 (fun k hk => by omega)
          have hbw1299 := hbw1299q
          refine ⟨?_, ?_⟩
          ·
           refine put_step hbw1237 rfl rfl (fun w1308 ow1308 hbw1237q nw1308 => ?_)
           have hbw1 := hbw1.only ow1308 (by omega)
           have hbw2 := hbw2.only ow1308 (by omega)
           have hbw1299 := hbw1299.only ow1308 (by omega)
           have fw1229 := fw1229.only ow1308 (fun k h1 h2 => by omega)
           have fw1269 := fw1269.only ow1308 (fun k h1 h2 => by omega)
           have fw1292_0 := fw1292_0.only ow1308 (fun k h1 h2 => by omega)
           have e := Ext.own e ow1308 (fun k hk => by omega)
           have er := Ext.own er ow1308 (fun k hk => by omega)
           have hbw1237 := hbw1237q
           have hbl := hbw1299.lt
           have hcl1 := hbw1237.lt
           exact ⟨_, _, _, _, _, rfl, rfl, by omega, by omega, by omega, by omega, hbl, by omega, hcl1, by omega, by omega, hbw1237, hbw1299, fw1292_0, er⟩
          ·
           trivial
         ·
          trivial
        ·
         trivial
       ·
        refine ⟨?_, ?_⟩
        ·
         refine alloc_step (fun w1273 ew1273 hbw1273 nw1273 => ?_)
         have hbw1 := hbw1.ext ew1273
         have hbw2 := hbw2.ext ew1273
         have hbw1237 := hbw1237.ext ew1273
         have fw1229 := fw1229.ext ew1273
         have fw1269 := fw1269.ext ew1273
         have e := Only.trans e ew1273
         have er := Only.trans er ew1273
         have zw1273 := ew1273.size
         refine ⟨⟨_, hbw2.cell 0, _, hbw2.cell 1, _, hbw2.cell 2, rfl⟩, ?_⟩
         refine ⟨⟨_, hbw1.cell 0, _, hbw1.cell 1, p0_2, hbw1.cell 2, p0_3, hbw1.cell 3, rfl⟩, ?_⟩
         refine ⟨?_, ?_⟩
         ·
          refine (specSchedStep fw1229.is sz0 fw1269.is).mono ?_
          rintro _ w1282 ⟨yw1282_0, rfl, fw1282_0, ew1282⟩
          have hbw1 := hbw1.ext ew1282
          have hbw2 := hbw2.ext ew1282
          have hbw1237 := hbw1237.ext ew1282
          have hbw1273 := hbw1273.ext ew1282
          have fw1229 := fw1229.ext ew1282
          have fw1269 := fw1269.ext ew1282
          have e := Only.trans e ew1282
          have er := Only.trans er ew1282
          have zw1282 := ew1282.size
          have hiyw1282_0 := fw1282_0.is
          obtain ⟨ryw1282_0_2, ryw1282_0_3, rfl, _, _, _, _⟩ := cells_Sched hiyw1282_0
          refine ⟨_, _, ryw1282_0_2, ryw1282_0_3, _, _, rfl, ?_⟩
          refine ⟨?_, ?_⟩
          ·
           refine put_step hbw1273 rfl rfl (fun w1289 ow1289 hbw1273q nw1289 => ?_)
           have hbw1 := hbw1.only ow1289 (by omega)
           have hbw2 := hbw2.only ow1289 (by omega)
           have hbw1237 := hbw1237.only ow1289 (by omega)
           have fw1229 := fw1229.only ow1289 (fun k h1 h2 => by omega)
           have fw1269 := fw1269.only ow1289 (fun k h1 h2 => by omega)
           have fw1282_0 := fw1282_0.only ow1289 (fun k h1 h2 => by omega)
           have e := Ext.own e ow1289 (fun k hk => by omega)
           have er := Ext.own er ow1289 (fun k hk => by omega)
           have hbw1273 := hbw1273q
           refine ⟨?_, ?_⟩
           ·
            refine put_step hbw1237 rfl rfl (fun w1290 ow1290 hbw1237q nw1290 => ?_)
            have hbw1 := hbw1.only ow1290 (by omega)
            have hbw2 := hbw2.only ow1290 (by omega)
            have hbw1273 := hbw1273.only ow1290 (by omega)
            have fw1229 := fw1229.only ow1290 (fun k h1 h2 => by omega)
            have fw1269 := fw1269.only ow1290 (fun k h1 h2 => by omega)
            have fw1282_0 := fw1282_0.only ow1290 (fun k h1 h2 => by omega)
            have e := Ext.own e ow1290 (fun k hk => by omega)
            have er := Ext.own er ow1290 (fun k hk => by omega)
            have hbw1237 := hbw1237q
            have hbl := hbw1273.lt
            have hcl1 := hbw1237.lt
            exact ⟨_, _, _, _, _, rfl, rfl, by omega, by omega, by omega, by omega, hbl, by omega, hcl1, by omega, by omega, hbw1237, hbw1273, fw1282_0, er⟩
           ·
            trivial
          ·
           trivial
         ·
          trivial
        ·
         trivial
      ·
       refine ⟨?_, ?_⟩
       ·
        refine alloc_step (fun w1245 ew1245 hbw1245 nw1245 => ?_)
        have hbw1 := hbw1.ext ew1245
        have hbw2 := hbw2.ext ew1245
        have hbw1237 := hbw1237.ext ew1245
        have fw1229 := fw1229.ext ew1245
        have e := Only.trans e ew1245
        have er := Only.trans er ew1245
        have zw1245 := ew1245.size
        refine ⟨⟨_, hbw2.cell 0, _, hbw2.cell 1, _, hbw2.cell 2, rfl⟩, ?_⟩
        refine ⟨⟨_, hbw1.cell 0, _, hbw1.cell 1, p0_2, hbw1.cell 2, p0_3, hbw1.cell 3, rfl⟩, ?_⟩
        refine ⟨?_, ?_⟩
        ·
         refine (c23 (DSchedOp.has _) (IsD.ext e _ _ h1) (by have := op_sz op; omega)).mono ?_
         rintro _ w1254 ⟨yw1254, rfl, fw1254, ew1254⟩
         have hbw1 := hbw1.ext ew1254
         have hbw2 := hbw2.ext ew1254
         have hbw1237 := hbw1237.ext ew1254
         have hbw1245 := hbw1245.ext ew1254
         have fw1229 := fw1229.ext ew1254
         have e := Only.trans e ew1254
         have er := Only.trans er ew1254
         have zw1254 := ew1254.size
         have hiyw1254 := fw1254.is
         obtain ⟨rfl, _, _, _⟩ := cells_SchedOp hiyw1254
         refine ⟨_, _, _, rfl, ?_⟩
         refine ⟨?_, ?_⟩
         ·
          refine (specSchedStep fw1229.is sz0 fw1254.is).mono ?_
          rintro _ w1259 ⟨yw1259_0, rfl, fw1259_0, ew1259⟩
          have hbw1 := hbw1.ext ew1259
          have hbw2 := hbw2.ext ew1259
          have hbw1237 := hbw1237.ext ew1259
          have hbw1245 := hbw1245.ext ew1259
          have fw1229 := fw1229.ext ew1259
          have fw1254 := fw1254.ext ew1259
          have e := Only.trans e ew1259
          have er := Only.trans er ew1259
          have zw1259 := ew1259.size
          have hiyw1259_0 := fw1259_0.is
          obtain ⟨ryw1259_0_2, ryw1259_0_3, rfl, _, _, _, _⟩ := cells_Sched hiyw1259_0
          refine ⟨_, _, ryw1259_0_2, ryw1259_0_3, _, _, rfl, ?_⟩
          refine ⟨?_, ?_⟩
          ·
           refine put_step hbw1245 rfl rfl (fun w1266 ow1266 hbw1245q nw1266 => ?_)
           have hbw1 := hbw1.only ow1266 (by omega)
           have hbw2 := hbw2.only ow1266 (by omega)
           have hbw1237 := hbw1237.only ow1266 (by omega)
           have fw1229 := fw1229.only ow1266 (fun k h1 h2 => by omega)
           have fw1254 := fw1254.only ow1266 (fun k h1 h2 => by omega)
           have fw1259_0 := fw1259_0.only ow1266 (fun k h1 h2 => by omega)
           have e := Ext.own e ow1266 (fun k hk => by omega)
           have er := Ext.own er ow1266 (fun k hk => by omega)
           have hbw1245 := hbw1245q
           refine ⟨?_, ?_⟩
           ·
            refine put_step hbw1237 rfl rfl (fun w1267 ow1267 hbw1237q nw1267 => ?_)
            have hbw1 := hbw1.only ow1267 (by omega)
            have hbw2 := hbw2.only ow1267 (by omega)
            have hbw1245 := hbw1245.only ow1267 (by omega)
            have fw1229 := fw1229.only ow1267 (fun k h1 h2 => by omega)
            have fw1254 := fw1254.only ow1267 (fun k h1 h2 => by omega)
            have fw1259_0 := fw1259_0.only ow1267 (fun k h1 h2 => by omega)
            have e := Ext.own e ow1267 (fun k hk => by omega)
            have er := Ext.own er ow1267 (fun k hk => by omega)
            have hbw1237 := hbw1237q
            have hbl := hbw1245.lt
            have hcl1 := hbw1237.lt
            exact ⟨_, _, _, _, _, rfl, rfl, by omega, by omega, by omega, by omega, hbl, by omega, hcl1, by omega, by omega, hbw1237, hbw1245, fw1259_0, er⟩
           ·
            trivial
          ·
           trivial
         ·
          trivial
        ·
         trivial
       ·
        trivial
     ·
      trivial
  ·
   refine ⟨?_, ?_⟩
   ·
    refine alloc_step (fun w1115 ew1115 hbw1115 nw1115 => ?_)
    have hbw1 := hbw1.ext ew1115
    have hbw2 := hbw2.ext ew1115
    have e := Only.trans e ew1115
    have er := Only.trans er ew1115
    have zw1115 := ew1115.size
    refine ⟨⟨_, hbw2.cell 0, _, hbw2.cell 1, _, hbw2.cell 2, rfl⟩, ?_⟩
    refine ⟨⟨_, hbw1.cell 0, _, hbw1.cell 1, p0_2, hbw1.cell 2, p0_3, hbw1.cell 3, rfl⟩, ?_⟩
    refine ⟨?_, ?_⟩
    ·
     refine (c22 (DSched.has _) (IsD.ext e _ _ h0) (by have := sz0; omega)).mono ?_
     rintro _ w1156 ⟨yw1156, rfl, fw1156, ew1156⟩
     have hbw1 := hbw1.ext ew1156
     have hbw2 := hbw2.ext ew1156
     have hbw1115 := hbw1115.ext ew1156
     have e := Only.trans e ew1156
     have er := Only.trans er ew1156
     have zw1156 := ew1156.size
     have hiyw1156 := fw1156.is
     obtain ⟨ryw1156_2, ryw1156_3, rfl, _, _, _, _⟩ := cells_Sched hiyw1156
     refine ⟨_, _, ryw1156_2, ryw1156_3, rfl, ?_⟩
     refine ⟨⟨_, hbw2.cell 0, _, hbw2.cell 1, _, hbw2.cell 2, rfl⟩, ?_⟩
     refine ⟨?_, ?_⟩
     ·
      refine (c23 (DSchedOp.has _) (IsD.ext e _ _ h1) (by have := op_sz op; omega)).mono ?_
      rintro _ w1188 ⟨yw1188, rfl, fw1188, ew1188⟩
      have hbw1 := hbw1.ext ew1188
      have hbw2 := hbw2.ext ew1188
      have hbw1115 := hbw1115.ext ew1188
      have fw1156 := fw1156.ext ew1188
      have e := Only.trans e ew1188
      have er := Only.trans er ew1188
      have zw1188 := ew1188.size
      have hiyw1188 := fw1188.is
      obtain ⟨rfl, _, _, _⟩ := cells_SchedOp hiyw1188
      refine ⟨_, _, _, rfl, ?_⟩
      refine ⟨?_, ?_⟩
      ·
       refine (specSchedStep fw1156.is sz0 fw1188.is).mono ?_
       rintro _ w1211 ⟨yw1211_0, rfl, fw1211_0, ew1211⟩
       have hbw1 := hbw1.ext ew1211
       have hbw2 := hbw2.ext ew1211
       have hbw1115 := hbw1115.ext ew1211
       have fw1156 := fw1156.ext ew1211
       have fw1188 := fw1188.ext ew1211
       have e := Only.trans e ew1211
       have er := Only.trans er ew1211
       have zw1211 := ew1211.size
       have hiyw1211_0 := fw1211_0.is
       obtain ⟨ryw1211_0_2, ryw1211_0_3, rfl, _, _, _, _⟩ := cells_Sched hiyw1211_0
       refine ⟨_, _, ryw1211_0_2, ryw1211_0_3, _, _, rfl, ?_⟩
       refine ⟨?_, ?_⟩
       ·
        refine alloc_step (fun w1218 ew1218 hbw1218 nw1218 => ?_)
        have hbw1 := hbw1.ext ew1218
        have hbw2 := hbw2.ext ew1218
        have hbw1115 := hbw1115.ext ew1218
        have fw1156 := fw1156.ext ew1218
        have fw1188 := fw1188.ext ew1218
        have fw1211_0 := fw1211_0.ext ew1218
        have e := Only.trans e ew1218
        have er := Only.trans er ew1218
        have zw1218 := ew1218.size
        refine ⟨⟨_, hbw2.cell 0, _, hbw2.cell 1, _, hbw2.cell 2, rfl⟩, ?_⟩
        refine ⟨⟨_, hbw1.cell 0, _, hbw1.cell 1, p0_2, hbw1.cell 2, p0_3, hbw1.cell 3, rfl⟩, ?_⟩
        refine ⟨?_, ?_⟩
        ·
         refine put_step hbw1115 rfl rfl (fun w1226 ow1226 hbw1115q nw1226 => ?_)
         have hbw1 := hbw1.only ow1226 (by omega)
         have hbw2 := hbw2.only ow1226 (by omega)
         have hbw1218 := hbw1218.only ow1226 (by omega)
         have fw1156 := fw1156.only ow1226 (fun k h1 h2 => by omega)
         have fw1188 := fw1188.only ow1226 (fun k h1 h2 => by omega)
         have fw1211_0 := fw1211_0.only ow1226 (fun k h1 h2 => by omega)
         have e := Ext.own e ow1226 (fun k hk => by omega)
         have er := Ext.own er ow1226 (fun k hk => by omega)
         have hbw1115 := hbw1115q
         refine ⟨?_, ?_⟩
         ·
          refine put_step hbw1218 rfl rfl (fun w1227 ow1227 hbw1218q nw1227 => ?_)
          have hbw1 := hbw1.only ow1227 (by omega)
          have hbw2 := hbw2.only ow1227 (by omega)
          have hbw1115 := hbw1115.only ow1227 (by omega)
          have fw1156 := fw1156.only ow1227 (fun k h1 h2 => by omega)
          have fw1188 := fw1188.only ow1227 (fun k h1 h2 => by omega)
          have fw1211_0 := fw1211_0.only ow1227 (fun k h1 h2 => by omega)
          have e := Ext.own e ow1227 (fun k hk => by omega)
          have er := Ext.own er ow1227 (fun k hk => by omega)
          have hbw1218 := hbw1218q
          have hbl := hbw1115.lt
          have hcl1 := hbw1218.lt
          exact ⟨_, _, _, _, _, rfl, rfl, by omega, by omega, by omega, by omega, hbl, by omega, hcl1, by omega, by omega, hbw1218, hbw1115, fw1211_0, er⟩
         ·
          trivial
        ·
         trivial
       ·
        trivial
      ·
       refine ⟨?_, ?_⟩
       ·
        refine alloc_step (fun w1192 ew1192 hbw1192 nw1192 => ?_)
        have hbw1 := hbw1.ext ew1192
        have hbw2 := hbw2.ext ew1192
        have hbw1115 := hbw1115.ext ew1192
        have fw1156 := fw1156.ext ew1192
        have fw1188 := fw1188.ext ew1192
        have e := Only.trans e ew1192
        have er := Only.trans er ew1192
        have zw1192 := ew1192.size
        refine ⟨⟨_, hbw2.cell 0, _, hbw2.cell 1, _, hbw2.cell 2, rfl⟩, ?_⟩
        refine ⟨⟨_, hbw1.cell 0, _, hbw1.cell 1, p0_2, hbw1.cell 2, p0_3, hbw1.cell 3, rfl⟩, ?_⟩
        refine ⟨?_, ?_⟩
        ·
         refine (specSchedStep fw1156.is sz0 fw1188.is).mono ?_
         rintro _ w1201 ⟨yw1201_0, rfl, fw1201_0, ew1201⟩
         have hbw1 := hbw1.ext ew1201
         have hbw2 := hbw2.ext ew1201
         have hbw1115 := hbw1115.ext ew1201
         have hbw1192 := hbw1192.ext ew1201
         have fw1156 := fw1156.ext ew1201
         have fw1188 := fw1188.ext ew1201
         have e := Only.trans e ew1201
         have er := Only.trans er ew1201
         have zw1201 := ew1201.size
         have hiyw1201_0 := fw1201_0.is
         obtain ⟨ryw1201_0_2, ryw1201_0_3, rfl, _, _, _, _⟩ := cells_Sched hiyw1201_0
         refine ⟨_, _, ryw1201_0_2, ryw1201_0_3, _, _, rfl, ?_⟩
         refine ⟨?_, ?_⟩
         ·
          refine put_step hbw1115 rfl rfl (fun w1208 ow1208 hbw1115q nw1208 => ?_)
          have hbw1 := hbw1.only ow1208 (by omega)
          have hbw2 := hbw2.only ow1208 (by omega)
          have hbw1192 := hbw1192.only ow1208 (by omega)
          have fw1156 := fw1156.only ow1208 (fun k h1 h2 => by omega)
          have fw1188 := fw1188.only ow1208 (fun k h1 h2 => by omega)
          have fw1201_0 := fw1201_0.only ow1208 (fun k h1 h2 => by omega)
          have e := Ext.own e ow1208 (fun k hk => by omega)
          have er := Ext.own er ow1208 (fun k hk => by omega)
          have hbw1115 := hbw1115q
          refine ⟨?_, ?_⟩
          ·
           refine put_step hbw1192 rfl rfl (fun w1209 ow1209 hbw1192q nw1209 => ?_)
           have hbw1 := hbw1.only ow1209 (by omega)
           have hbw2 := hbw2.only ow1209 (by omega)
           have hbw1115 := hbw1115.only ow1209 (by omega)
           have fw1156 := fw1156.only ow1209 (fun k h1 h2 => by omega)
           have fw1188 := fw1188.only ow1209 (fun k h1 h2 => by omega)
           have fw1201_0 := fw1201_0.only ow1209 (fun k h1 h2 => by omega)
           have e := Ext.own e ow1209 (fun k hk => by omega)
           have er := Ext.own er ow1209 (fun k hk => by omega)
           have hbw1192 := hbw1192q
           have hbl := hbw1115.lt
           have hcl1 := hbw1192.lt
           exact ⟨_, _, _, _, _, rfl, rfl, by omega, by omega, by omega, by omega, hbl, by omega, hcl1, by omega, by omega, hbw1192, hbw1115, fw1201_0, er⟩
          ·
           trivial
         ·
          trivial
        ·
         trivial
       ·
        trivial
     ·
      refine ⟨?_, ?_⟩
      ·
       refine alloc_step (fun w1164 ew1164 hbw1164 nw1164 => ?_)
       have hbw1 := hbw1.ext ew1164
       have hbw2 := hbw2.ext ew1164
       have hbw1115 := hbw1115.ext ew1164
       have fw1156 := fw1156.ext ew1164
       have e := Only.trans e ew1164
       have er := Only.trans er ew1164
       have zw1164 := ew1164.size
       refine ⟨⟨_, hbw2.cell 0, _, hbw2.cell 1, _, hbw2.cell 2, rfl⟩, ?_⟩
       refine ⟨⟨_, hbw1.cell 0, _, hbw1.cell 1, p0_2, hbw1.cell 2, p0_3, hbw1.cell 3, rfl⟩, ?_⟩
       refine ⟨?_, ?_⟩
       ·
        refine (c23 (DSchedOp.has _) (IsD.ext e _ _ h1) (by have := op_sz op; omega)).mono ?_
        rintro _ w1173 ⟨yw1173, rfl, fw1173, ew1173⟩
        have hbw1 := hbw1.ext ew1173
        have hbw2 := hbw2.ext ew1173
        have hbw1115 := hbw1115.ext ew1173
        have hbw1164 := hbw1164.ext ew1173
        have fw1156 := fw1156.ext ew1173
        have e := Only.trans e ew1173
        have er := Only.trans er ew1173
        have zw1173 := ew1173.size
        have hiyw1173 := fw1173.is
        obtain ⟨rfl, _, _, _⟩ := cells_SchedOp hiyw1173
        refine ⟨_, _, _, rfl, ?_⟩
        refine ⟨?_, ?_⟩
        ·
         refine (specSchedStep fw1156.is sz0 fw1173.is).mono ?_
         rintro _ w1178 ⟨yw1178_0, rfl, fw1178_0, ew1178⟩
         have hbw1 := hbw1.ext ew1178
         have hbw2 := hbw2.ext ew1178
         have hbw1115 := hbw1115.ext ew1178
         have hbw1164 := hbw1164.ext ew1178
         have fw1156 := fw1156.ext ew1178
         have fw1173 := fw1173.ext ew1178
         have e := Only.trans e ew1178
         have er := Only.trans er ew1178
         have zw1178 := ew1178.size
         have hiyw1178_0 := fw1178_0.is
         obtain ⟨ryw1178_0_2, ryw1178_0_3, rfl, _, _, _, _⟩ := cells_Sched hiyw1178_0
         refine ⟨_, _, ryw1178_0_2, ryw1178_0_3, _, _, rfl, ?_⟩
         refine ⟨?_, ?_⟩
         ·
          refine put_step hbw1115 rfl rfl (fun w1185 ow1185 hbw1115q nw1185 => ?_)
          have hbw1 := hbw1.only ow1185 (by omega)
          have hbw2 := hbw2.only ow1185 (by omega)
          have hbw1164 := hbw1164.only ow1185 (by omega)
          have fw1156 := fw1156.only ow1185 (fun k h1 h2 => by omega)
          have fw1173 := fw1173.only ow1185 (fun k h1 h2 => by omega)
          have fw1178_0 := fw1178_0.only ow1185 (fun k h1 h2 => by omega)
          have e := Ext.own e ow1185 (fun k hk => by omega)
          have er := Ext.own er ow1185 (fun k hk => by omega)
          have hbw1115 := hbw1115q
          refine ⟨?_, ?_⟩
          ·
           refine put_step hbw1164 rfl rfl (fun w1186 ow1186 hbw1164q nw1186 => ?_)
           have hbw1 := hbw1.only ow1186 (by omega)
           have hbw2 := hbw2.only ow1186 (by omega)
           have hbw1115 := hbw1115.only ow1186 (by omega)
           have fw1156 := fw1156.only ow1186 (fun k h1 h2 => by omega)
           have fw1173 := fw1173.only ow1186 (fun k h1 h2 => by omega)
           have fw1178_0 := fw1178_0.only ow1186 (fun k h1 h2 => by omega)
           have e := Ext.own e ow1186 (fun k hk => by omega)
           have er := Ext.own er ow1186 (fun k hk => by omega)
           have hbw1164 := hbw1164q
           have hbl := hbw1115.lt
           have hcl1 := hbw1164.lt
           exact ⟨_, _, _, _, _, rfl, rfl, by omega, by omega, by omega, by omega, hbl, by omega, hcl1, by omega, by omega, hbw1164, hbw1115, fw1178_0, er⟩
          ·
           trivial
         ·
          trivial
        ·
         trivial
       ·
        trivial
      ·
       trivial
    ·
     refine ⟨?_, ?_⟩
     ·
      refine alloc_step (fun w1123 ew1123 hbw1123 nw1123 => ?_)
      have hbw1 := hbw1.ext ew1123
      have hbw2 := hbw2.ext ew1123
      have hbw1115 := hbw1115.ext ew1123
      have e := Only.trans e ew1123
      have er := Only.trans er ew1123
      have zw1123 := ew1123.size
      refine ⟨⟨_, hbw2.cell 0, _, hbw2.cell 1, _, hbw2.cell 2, rfl⟩, ?_⟩
      refine ⟨⟨_, hbw1.cell 0, _, hbw1.cell 1, p0_2, hbw1.cell 2, p0_3, hbw1.cell 3, rfl⟩, ?_⟩
      refine ⟨?_, ?_⟩
      ·
       refine (c22 (DSched.has _) (IsD.ext e _ _ h0) (by have := sz0; omega)).mono ?_
       rintro _ w1132 ⟨yw1132, rfl, fw1132, ew1132⟩
       have hbw1 := hbw1.ext ew1132
       have hbw2 := hbw2.ext ew1132
       have hbw1115 := hbw1115.ext ew1132
       have hbw1123 := hbw1123.ext ew1132
       have e := Only.trans e ew1132
       have er := Only.trans er ew1132
       have zw1132 := ew1132.size
       have hiyw1132 := fw1132.is
       obtain ⟨ryw1132_2, ryw1132_3, rfl, _, _, _, _⟩ := cells_Sched hiyw1132
       refine ⟨_, _, ryw1132_2, ryw1132_3, rfl, ?_⟩
       refine ⟨⟨_, hbw2.cell 0, _, hbw2.cell 1, _, hbw2.cell 2, rfl⟩, ?_⟩
       refine ⟨?_, ?_⟩
       ·
        refine (c23 (DSchedOp.has _) (IsD.ext e _ _ h1) (by have := op_sz op; omega)).mono ?_
        rintro _ w1141 ⟨yw1141, rfl, fw1141, ew1141⟩
        have hbw1 := hbw1.ext ew1141
        have hbw2 := hbw2.ext ew1141
        have hbw1115 := hbw1115.ext ew1141
        have hbw1123 := hbw1123.ext ew1141
        have fw1132 := fw1132.ext ew1141
        have e := Only.trans e ew1141
        have er := Only.trans er ew1141
        have zw1141 := ew1141.size
        have hiyw1141 := fw1141.is
        obtain ⟨rfl, _, _, _⟩ := cells_SchedOp hiyw1141
        refine ⟨_, _, _, rfl, ?_⟩
        refine ⟨?_, ?_⟩
        ·
         refine (specSchedStep fw1132.is sz0 fw1141.is).mono ?_
         rintro _ w1146 ⟨yw1146_0, rfl, fw1146_0, ew1146⟩
         have hbw1 := hbw1.ext ew1146
         have hbw2 := hbw2.ext ew1146
         have hbw1115 := hbw1115.ext ew1146
         have hbw1123 := hbw1123.ext ew1146
         have fw1132 := fw1132.ext ew1146
         have fw1141 := fw1141.ext ew1146
         have e := Only.trans e ew1146
         have er := Only.trans er ew1146
         have zw1146 := ew1146.size
         have hiyw1146_0 := fw1146_0.is
         obtain ⟨ryw1146_0_2, ryw1146_0_3, rfl, _, _, _, _⟩ := cells_Sched hiyw1146_0
         refine ⟨_, _, ryw1146_0_2, ryw1146_0_3, _, _, rfl, ?_⟩
         refine ⟨?_, ?_⟩
         ·
          refine put_step hbw1115 rfl rfl (fun w1153 ow1153 hbw1115q nw1153 => ?_)
          have hbw1 := hbw1.only ow1153 (by omega)
          have hbw2 := hbw2.only ow1153 (by omega)
          have hbw1123 := hbw1123.only ow1153 (by omega)
          have fw1132 := fw1132.only ow1153 (fun k h1 h2 => by omega)
          have fw1141 := fw1141.only ow1153 (fun k h1 h2 => by omega)
          have fw1146_0 := fw1146_0.only ow1153 (fun k h1 h2 => by omega)
          have e := Ext.own e ow1153 (fun k hk => by omega)
          have er := Ext.own er ow1153 (fun k hk => by omega)
          have hbw1115 := hbw1115q
          refine ⟨?_, ?_⟩
          ·
           refine put_step hbw1123 rfl rfl (fun w1154 ow1154 hbw1123q nw1154 => ?_)
           have hbw1 := hbw1.only ow1154 (by omega)
           have hbw2 := hbw2.only ow1154 (by omega)
           have hbw1115 := hbw1115.only ow1154 (by omega)
           have fw1132 := fw1132.only ow1154 (fun k h1 h2 => by omega)
           have fw1141 := fw1141.only ow1154 (fun k h1 h2 => by omega)
           have fw1146_0 := fw1146_0.only ow1154 (fun k h1 h2 => by omega)
           have e := Ext.own e ow1154 (fun k hk => by omega)
           have er := Ext.own er ow1154 (fun k hk => by omega)
           have hbw1123 := hbw1123q
           have hbl := hbw1115.lt
           have hcl1 := hbw1123.lt
           exact ⟨_, _, _, _, _, rfl, rfl, by omega, by omega, by omega, by omega, hbl, by omega, hcl1, by omega, by omega, hbw1123, hbw1115, fw1146_0, er⟩
          ·
           trivial
         ·
          trivial
        ·
         trivial
       ·
        trivial
      ·
       trivial
     ·
      trivial
   ·
    refine ⟨?_, ?_⟩
    ·
     refine alloc_step (fun w1002 ew1002 hbw1002 nw1002 => ?_)
     have hbw1 := hbw1.ext ew1002
     have hbw2 := hbw2.ext ew1002
     have e := Only.trans e ew1002
     have er := Only.trans er ew1002
     have zw1002 := ew1002.size
     refine ⟨⟨_, hbw2.cell 0, _, hbw2.cell 1, _, hbw2.cell 2, rfl⟩, ?_⟩
     refine ⟨⟨_, hbw1.cell 0, _, hbw1.cell 1, p0_2, hbw1.cell 2, p0_3, hbw1.cell 3, rfl⟩, ?_⟩
     refine ⟨?_, ?_⟩
     ·
      refine (c22 (DSched.has _) (IsD.ext e _ _ h0) (by have := sz0; omega)).mono ?_
      rintro _ w1043 ⟨yw1043, rfl, fw1043, ew1043⟩
      have hbw1 := hbw1.ext ew1043
      have hbw2 := hbw2.ext ew1043
      have hbw1002 := hbw1002.ext ew1043
      have e := Only.trans e ew1043
      have er := Only.trans er ew1043
      have zw1043 := ew1043.size
      have hiyw1043 := fw1043.is
      obtain ⟨ryw1043_2, ryw1043_3, rfl, _, _, _, _⟩ := cells_Sched hiyw1043
      refine ⟨_, _, ryw1043_2, ryw1043_3, rfl, ?_⟩
      refine ⟨⟨_, hbw2.cell 0, _, hbw2.cell 1, _, hbw2.cell 2, rfl⟩, ?_⟩
      refine ⟨?_, ?_⟩
      ·
       refine (c23 (DSchedOp.has _) (IsD.ext e _ _ h1) (by have := op_sz op; omega)).mono ?_
       rintro _ w1075 ⟨yw1075, rfl, fw1075, ew1075⟩
       have hbw1 := hbw1.ext ew1075
       have hbw2 := hbw2.ext ew1075
       have hbw1002 := hbw1002.ext ew1075
       have fw1043 := fw1043.ext ew1075
       have e := Only.trans e ew1075
       have er := Only.trans er ew1075
       have zw1075 := ew1075.size
       have hiyw1075 := fw1075.is
       obtain ⟨rfl, _, _, _⟩ := cells_SchedOp hiyw1075
       refine ⟨_, _, _, rfl, ?_⟩
       refine ⟨?_, ?_⟩
       ·
        refine (specSchedStep fw1043.is sz0 fw1075.is).mono ?_
        rintro _ w1098 ⟨yw1098_0, rfl, fw1098_0, ew1098⟩
        have hbw1 := hbw1.ext ew1098
        have hbw2 := hbw2.ext ew1098
        have hbw1002 := hbw1002.ext ew1098
        have fw1043 := fw1043.ext ew1098
        have fw1075 := fw1075.ext ew1098
        have e := Only.trans e ew1098
        have er := Only.trans er ew1098
        have zw1098 := ew1098.size
        have hiyw1098_0 := fw1098_0.is
        obtain ⟨ryw1098_0_2, ryw1098_0_3, rfl, _, _, _, _⟩ := cells_Sched hiyw1098_0
        refine ⟨_, _, ryw1098_0_2, ryw1098_0_3, _, _, rfl, ?_⟩
        refine ⟨?_, ?_⟩
        ·
         refine alloc_step (fun w1105 ew1105 hbw1105 nw1105 => ?_)
         have hbw1 := hbw1.ext ew1105
         have hbw2 := hbw2.ext ew1105
         have hbw1002 := hbw1002.ext ew1105
         have fw1043 := fw1043.ext ew1105
         have fw1075 := fw1075.ext ew1105
         have fw1098_0 := fw1098_0.ext ew1105
         have e := Only.trans e ew1105
         have er := Only.trans er ew1105
         have zw1105 := ew1105.size
         refine ⟨⟨_, hbw2.cell 0, _, hbw2.cell 1, _, hbw2.cell 2, rfl⟩, ?_⟩
         refine ⟨⟨_, hbw1.cell 0, _, hbw1.cell 1, p0_2, hbw1.cell 2, p0_3, hbw1.cell 3, rfl⟩, ?_⟩
         refine ⟨?_, ?_⟩
         ·
          refine put_step hbw1105 rfl rfl (fun w1113 ow1113 hbw1105q nw1113 => ?_)
          have hbw1 := hbw1.only ow1113 (by omega)
          have hbw2 := hbw2.only ow1113 (by omega)
          have hbw1002 := hbw1002.only ow1113 (by omega)
          have fw1043 := fw1043.only ow1113 (fun k h1 h2 => by omega)
          have fw1075 := fw1075.only ow1113 (fun k h1 h2 => by omega)
          have fw1098_0 := fw1098_0.only ow1113 (fun k h1 h2 => by omega)
          have e := Ext.own e ow1113 (fun k hk => by omega)
          have er := Ext.own er ow1113 (fun k hk => by omega)
          have hbw1105 := hbw1105q
          refine ⟨?_, ?_⟩
          ·
           refine put_step hbw1002 rfl rfl (fun w1114 ow1114 hbw1002q nw1114 => ?_)
           have hbw1 := hbw1.only ow1114 (by omega)
           have hbw2 := hbw2.only ow1114 (by omega)
           have hbw1105 := hbw1105.only ow1114 (by omega)
           have fw1043 := fw1043.only ow1114 (fun k h1 h2 => by omega)
           have fw1075 := fw1075.only ow1114 (fun k h1 h2 => by omega)
           have fw1098_0 := fw1098_0.only ow1114 (fun k h1 h2 => by omega)
           have e := Ext.own e ow1114 (fun k hk => by omega)
           have er := Ext.own er ow1114 (fun k hk => by omega)
           have hbw1002 := hbw1002q
           have hbl := hbw1105.lt
           have hcl1 := hbw1002.lt
           exact ⟨_, _, _, _, _, rfl, rfl, by omega, by omega, by omega, by omega, hbl, by omega, hcl1, by omega, by omega, hbw1002, hbw1105, fw1098_0, er⟩
          ·
           trivial
         ·
          trivial
        ·
         trivial
       ·
        refine ⟨?_, ?_⟩
        ·
         refine alloc_step (fun w1079 ew1079 hbw1079 nw1079 => ?_)
         have hbw1 := hbw1.ext ew1079
         have hbw2 := hbw2.ext ew1079
         have hbw1002 := hbw1002.ext ew1079
         have fw1043 := fw1043.ext ew1079
         have fw1075 := fw1075.ext ew1079
         have e := Only.trans e ew1079
         have er := Only.trans er ew1079
         have zw1079 := ew1079.size
         refine ⟨⟨_, hbw2.cell 0, _, hbw2.cell 1, _, hbw2.cell 2, rfl⟩, ?_⟩
         refine ⟨⟨_, hbw1.cell 0, _, hbw1.cell 1, p0_2, hbw1.cell 2, p0_3, hbw1.cell 3, rfl⟩, ?_⟩
         refine ⟨?_, ?_⟩
         ·
          refine (specSchedStep fw1043.is sz0 fw1075.is).mono ?_
          rintro _ w1088 ⟨yw1088_0, rfl, fw1088_0, ew1088⟩
          have hbw1 := hbw1.ext ew1088
          have hbw2 := hbw2.ext ew1088
          have hbw1002 := hbw1002.ext ew1088
          have hbw1079 := hbw1079.ext ew1088
          have fw1043 := fw1043.ext ew1088
          have fw1075 := fw1075.ext ew1088
          have e := Only.trans e ew1088
          have er := Only.trans er ew1088
          have zw1088 := ew1088.size
          have hiyw1088_0 := fw1088_0.is
          obtain ⟨ryw1088_0_2, ryw1088_0_3, rfl, _, _, _, _⟩ := cells_Sched hiyw1088_0
          refine ⟨_, _, ryw1088_0_2, ryw1088_0_3, _, _, rfl, ?_⟩
          refine ⟨?_, ?_⟩
          ·
           refine put_step hbw1079 rfl rfl (fun w1095 ow1095 hbw1079q nw1095 => ?_)
           have hbw1 := hbw1.only ow1095 (by omega)
           have hbw2 := hbw2.only ow1095 (by omega)
           have hbw1002 := hbw1002.only ow1095 (by omega)
           have fw1043 := fw1043.only ow1095 (fun k h1 h2 => by omega)
           have fw1075 := fw1075.only ow1095 (fun k h1 h2 => by omega)
           have fw1088_0 := fw1088_0.only ow1095 (fun k h1 h2 => by omega)
           have e := Ext.own e ow1095 (fun k hk => by omega)
           have er := Ext.own er ow1095 (fun k hk => by omega)
           have hbw1079 := hbw1079q
           refine ⟨?_, ?_⟩
           ·
            refine put_step hbw1002 rfl rfl (fun w1096 ow1096 hbw1002q nw1096 => ?_)
            have hbw1 := hbw1.only ow1096 (by omega)
            have hbw2 := hbw2.only ow1096 (by omega)
            have hbw1079 := hbw1079.only ow1096 (by omega)
            have fw1043 := fw1043.only ow1096 (fun k h1 h2 => by omega)
            have fw1075 := fw1075.only ow1096 (fun k h1 h2 => by omega)
            have fw1088_0 := fw1088_0.only ow1096 (fun k h1 h2 => by omega)
            have e := Ext.own e ow1096 (fun k hk => by omega)
            have er := Ext.own er ow1096 (fun k hk => by omega)
            have hbw1002 := hbw1002q
            have hbl := hbw1079.lt
            have hcl1 := hbw1002.lt
            exact ⟨_, _, _, _, _, rfl, rfl, by omega, by omega, by omega, by omega, hbl, by omega, hcl1, by omega, by omega, hbw1002, hbw1079, fw1088_0, er⟩
           ·
            trivial
          ·
           trivial
         ·
          trivial
        ·
         trivial
      ·
       refine ⟨?_, ?_⟩
       ·
        refine alloc_step (fun w1051 ew1051 hbw1051 nw1051 => ?_)
        have hbw1 := hbw1.ext ew1051
        have hbw2 := hbw2.ext ew1051
        have hbw1002 := hbw1002.ext ew1051
        have fw1043 := fw1043.ext ew1051
        have e := Only.trans e ew1051
        have er := Only.trans er ew1051
        have zw1051 := ew1051.size
        refine ⟨⟨_, hbw2.cell 0, _, hbw2.cell 1, _, hbw2.cell 2, rfl⟩, ?_⟩
        refine ⟨⟨_, hbw1.cell 0, _, hbw1.cell 1, p0_2, hbw1.cell 2, p0_3, hbw1.cell 3, rfl⟩, ?_⟩
        refine ⟨?_, ?_⟩
        ·
         refine (c23 (DSchedOp.has _) (IsD.ext e _ _ h1) (by have := op_sz op; omega)).mono ?_
         rintro _ w1060 ⟨yw1060, rfl, fw1060, ew1060⟩
         have hbw1 := hbw1.ext ew1060
         have hbw2 := hbw2.ext ew1060
         have hbw1002 := hbw1002.ext ew1060
         have hbw1051 := hbw1051.ext ew1060
         have fw1043 := fw1043.ext ew1060
         have e := Only.trans e ew1060
         have er := Only.trans er ew1060
         have zw1060 := ew1060.size
         have hiyw1060 := fw1060.is
         obtain ⟨rfl, _, _, _⟩ := cells_SchedOp hiyw1060
         refine ⟨_, _, _, rfl, ?_⟩
         refine ⟨?_, ?_⟩
         ·
          refine (specSchedStep fw1043.is sz0 fw1060.is).mono ?_
          rintro _ w1065 ⟨yw1065_0, rfl, fw1065_0, ew1065⟩
          have hbw1 := hbw1.ext ew1065
          have hbw2 := hbw2.ext ew1065
          have hbw1002 := hbw1002.ext ew1065
          have hbw1051 := hbw1051.ext ew1065
          have fw1043 := fw1043.ext ew1065
          have fw1060 := fw1060.ext ew1065
          have e := Only.trans e ew1065
          have er := Only.trans er ew1065
          have zw1065 := ew1065.size
          have hiyw1065_0 := fw1065_0.is
          obtain ⟨ryw1065_0_2, ryw1065_0_3, rfl, _, _, _, _⟩ := cells_Sched hiyw1065_0
          refine ⟨_, _, ryw1065_0_2, ryw1065_0_3, _, _, rfl, ?_⟩
          refine ⟨?_, ?_⟩
          ·
           refine put_step hbw1051 rfl rfl (fun w1072 ow1072 hbw1051q nw1072 => ?_)
           have hbw1 := hbw1.only ow1072 (by omega)
           have hbw2 := hbw2.only ow1072 (by omega)
           have hbw1002 := hbw1002.only ow1072 (by omega)
           have fw1043 := fw1043.only ow1072 (fun k h1 h2 => by omega)
           have fw1060 := fw1060.only ow1072 (fun k h1 h2 => by omega)
           have fw1065_0 := fw1065_0.only ow1072 (fun k h1 h2 => by omega)
           have e := Ext.own e ow1072 (fun k hk => by omega)
           have er := Ext.own er ow1072 (fun k hk => by omega)
           have hbw1051 := hbw1051q
           refine ⟨?_, ?_⟩
           ·
            refine put_step hbw1002 rfl rfl (fun w1073 ow1073 hbw1002q nw1073 => ?_)
            have hbw1 := hbw1.only ow1073 (by omega)
            have hbw2 := hbw2.only ow1073 (by omega)
            have hbw1051 := hbw1051.only ow1073 (by omega)
            have fw1043 := fw1043.only ow1073 (fun k h1 h2 => by omega)
            have fw1060 := fw1060.only ow1073 (fun k h1 h2 => by omega)
            have fw1065_0 := fw1065_0.only ow1073 (fun k h1 h2 => by omega)
            have e := Ext.own e ow1073 (fun k hk => by omega)
            have er := Ext.own er ow1073 (fun k hk => by omega)
            have hbw1002 := hbw1002q
            have hbl := hbw1051.lt
            have hcl1 := hbw1002.lt
            exact ⟨_, _, _, _, _, rfl, rfl, by omega, by omega, by omega, by omega, hbl, by omega, hcl1, by omega, by omega, hbw1002, hbw1051, fw1065_0, er⟩
           ·
            trivial
          ·
           trivial
         ·
          trivial
        ·
         trivial
       ·
        trivial
     ·
      refine ⟨?_, ?_⟩
      ·
       refine alloc_step (fun w1010 ew1010 hbw1010 nw1010 => ?_)
       have hbw1 := hbw1.ext ew1010
       have hbw2 := hbw2.ext ew1010
       have hbw1002 := hbw1002.ext ew1010
       have e := Only.trans e ew1010
       have er := Only.trans er ew1010
       have zw1010 := ew1010.size
       refine ⟨⟨_, hbw2.cell 0, _, hbw2.cell 1, _, hbw2.cell 2, rfl⟩, ?_⟩
       refine ⟨⟨_, hbw1.cell 0, _, hbw1.cell 1, p0_2, hbw1.cell 2, p0_3, hbw1.cell 3, rfl⟩, ?_⟩
       refine ⟨?_, ?_⟩
       ·
        refine (c22 (DSched.has _) (IsD.ext e _ _ h0) (by have := sz0; omega)).mono ?_
        rintro _ w1019 ⟨yw1019, rfl, fw1019, ew1019⟩
        have hbw1 := hbw1.ext ew1019
        have hbw2 := hbw2.ext ew1019
        have hbw1002 := hbw1002.ext ew1019
        have hbw1010 := hbw1010.ext ew1019
        have e := Only.trans e ew1019
        have er := Only.trans er ew1019
        have zw1019 := ew1019.size
        have hiyw1019 := fw1019.is
        obtain ⟨ryw1019_2, ryw1019_3, rfl, _, _, _, _⟩ := cells_Sched hiyw1019
        refine ⟨_, _, ryw1019_2, ryw1019_3, rfl, ?_⟩
        refine ⟨⟨_, hbw2.cell 0, _, hbw2.cell 1, _, hbw2.cell 2, rfl⟩, ?_⟩
        refine ⟨?_, ?_⟩
        ·
         refine (c23 (DSchedOp.has _) (IsD.ext e _ _ h1) (by have := op_sz op; omega)).mono ?_
         rintro _ w1028 ⟨yw1028, rfl, fw1028, ew1028⟩
         have hbw1 := hbw1.ext ew1028
         have hbw2 := hbw2.ext ew1028
         have hbw1002 := hbw1002.ext ew1028
         have hbw1010 := hbw1010.ext ew1028
         have fw1019 := fw1019.ext ew1028
         have e := Only.trans e ew1028
         have er := Only.trans er ew1028
         have zw1028 := ew1028.size
         have hiyw1028 := fw1028.is
         obtain ⟨rfl, _, _, _⟩ := cells_SchedOp hiyw1028
         refine ⟨_, _, _, rfl, ?_⟩
         refine ⟨?_, ?_⟩
         ·
          refine (specSchedStep fw1019.is sz0 fw1028.is).mono ?_
          rintro _ w1033 ⟨yw1033_0, rfl, fw1033_0, ew1033⟩
          have hbw1 := hbw1.ext ew1033
          have hbw2 := hbw2.ext ew1033
          have hbw1002 := hbw1002.ext ew1033
          have hbw1010 := hbw1010.ext ew1033
          have fw1019 := fw1019.ext ew1033
          have fw1028 := fw1028.ext ew1033
          have e := Only.trans e ew1033
          have er := Only.trans er ew1033
          have zw1033 := ew1033.size
          have hiyw1033_0 := fw1033_0.is
          obtain ⟨ryw1033_0_2, ryw1033_0_3, rfl, _, _, _, _⟩ := cells_Sched hiyw1033_0
          refine ⟨_, _, ryw1033_0_2, ryw1033_0_3, _, _, rfl, ?_⟩
          refine ⟨?_, ?_⟩
          ·
           refine put_step hbw1010 rfl rfl (fun w1040 ow1040 hbw1010q nw1040 => ?_)
           have hbw1 := hbw1.only ow1040 (by omega)
           have hbw2 := hbw2.only ow1040 (by omega)
           have hbw1002 := hbw1002.only ow1040 (by omega)
           have fw1019 := fw1019.only ow1040 (fun k h1 h2 => by omega)
           have fw1028 := fw1028.only ow1040 (fun k h1 h2 => by omega)
           have fw1033_0 := fw1033_0.only ow1040 (fun k h1 h2 => by omega)
           have e := Ext.own e ow1040 (fun k hk => by omega)
           have er := Ext.own er ow1040 (fun k hk => by omega)
           have hbw1010 := hbw1010q
           refine ⟨?_, ?_⟩
           ·
            refine put_step hbw1002 rfl rfl (fun w1041 ow1041 hbw1002q nw1041 => ?_)
            have hbw1 := hbw1.only ow1041 (by omega)
            have hbw2 := hbw2.only ow1041 (by omega)
            have hbw1010 := hbw1010.only ow1041 (by omega)
            have fw1019 := fw1019.only ow1041 (fun k h1 h2 => by omega)
            have fw1028 := fw1028.only ow1041 (fun k h1 h2 => by omega)
            have fw1033_0 := fw1033_0.only ow1041 (fun k h1 h2 => by omega)
            have e := Ext.own e ow1041 (fun k hk => by omega)
            have er := Ext.own er ow1041 (fun k hk => by omega)
            have hbw1002 := hbw1002q
            have hbl := hbw1010.lt
            have hcl1 := hbw1002.lt
            exact ⟨_, _, _, _, _, rfl, rfl, by omega, by omega, by omega, by omega, hbl, by omega, hcl1, by omega, by omega, hbw1002, hbw1010, fw1033_0, er⟩
           ·
            trivial
          ·
           trivial
         ·
          trivial
        ·
         trivial
       ·
        trivial
      ·
       trivial
    ·
     trivial
 rintro (p10 : Option Addr) (p11 : Option Addr) w13 ⟨bw13, low13, hiw13, yw13, c1w13, rfl, rfl, hxw13, hlow13, hhiw13, hdsw13, hblw13, hcx1w13, hcl1w13, hcb1w13, hcd1w13, hc1w13, hbw13, fw13, erw13⟩
 have hbw1 := hbw1.ext erw13
 have hbw2 := hbw2.ext erw13
 have e := Only.trans e erw13
 have zw13 := erw13.size
 have hiyw13 := fw13.is
 obtain ⟨ryw13_2, ryw13_3, rfl, _, _, _, _⟩ := cells_Sched hiyw13
 refine ⟨_, hbw1.cell 0, ?_⟩
 refine ⟨_, hbw1.cell 1, ?_⟩
 refine ⟨p0_2, hbw1.cell 2, ?_⟩
 refine ⟨p0_3, hbw1.cell 3, ?_⟩
 refine (c22 (DSched.has _) (IsD.ext e _ _ h0) (by have := sz0; omega)).mono ?_
 rintro _ w19 ⟨yw19, rfl, fw19, ew19⟩
 have hbw1 := hbw1.ext ew19
 have hbw2 := hbw2.ext ew19
 have hbw13 := hbw13.ext ew19
 have hc1w13 := hc1w13.ext ew19
 have fw13 := fw13.ext ew19
 have e := Only.trans e ew19
 have zw19 := ew19.size
 have hiyw19 := fw19.is
 obtain ⟨ryw19_2, ryw19_3, rfl, _, _, _, _⟩ := cells_Sched hiyw19
 refine ⟨_, _, ryw19_2, ryw19_3, rfl, ?_⟩
 refine alloc_step (fun w24 ew24 hbw24 nw24 => ?_)
 have hbw1 := hbw1.ext ew24
 have hbw2 := hbw2.ext ew24
 have hbw13 := hbw13.ext ew24
 have hc1w13 := hc1w13.ext ew24
 have fw13 := fw13.ext ew24
 have fw19 := fw19.ext ew24
 have e := Only.trans e ew24
 have zw24 := ew24.size
 refine put_step hbw24 rfl rfl (fun w25 ow25 hbw24q nw25 => ?_)
 have hbw1 := hbw1.only ow25 (by omega)
 have hbw2 := hbw2.only ow25 (by omega)
 have hbw13 := hbw13.only ow25 (by omega)
 have hc1w13 := hc1w13.only ow25 (by omega)
 have fw13 := fw13.only ow25 (fun k h1 h2 => by omega)
 have fw19 := fw19.only ow25 (fun k h1 h2 => by omega)
 have e := Ext.own e ow25 (fun k hk => by omega)
 have hbw24 := hbw24q
 refine JoinW.cut2 (fun (p26 : Option Addr) (p27 : Option Addr) w' => ∃ (b lo hi : Nat) (y : List Value) (c1 : Nat), p26 = some ⟨b, 0, none⟩ ∧ p27 = some ⟨c1, 0, none⟩ ∧ w25.heap.size ≤ b ∧ w25.heap.size ≤ lo ∧ hi ≤ w'.heap.size ∧ (b < lo ∨ hi ≤ b) ∧ b < w'.heap.size ∧ w25.heap.size ≤ c1 ∧ c1 < w'.heap.size ∧ b ≠ c1 ∧ (c1 < lo ∨ hi ≤ c1) ∧ Blk w' c1 [.int .i64 (stepA x op).Code, .int .i64 (stepA x op).N] ∧ Blk w' b y ∧ Fr lo hi w' (stepD x op).dat y ∧ Ext w25 w') ?_ ?_
 ·
  have er : Ext w25 w25 := Only.refl _ _
  have zr0 : w25.heap.size ≤ w25.heap.size := Nat.le_refl _
  have ed := ext_drew w25
  have hbw1 := hbw1.ext ed
  have hbw2 := hbw2.ext ed
  have hbw13 := hbw13.ext ed
  have hc1w13 := hc1w13.ext ed
  have hbw24 := hbw24.ext ed
  have fw13 := fw13.ext ed
  have fw19 := fw19.ext ed
  have e := Only.trans e ed
  have er := Only.trans er ed
  have zw25_drew := ed.size
  refine ⟨_, hbw24.cell 0, ?_⟩
  refine ⟨_, hbw24.cell 1, ?_⟩
  refine ⟨ryw19_2, hbw24.cell 2, ?_⟩
  refine ⟨ryw19_3, hbw24.cell 3, ?_⟩
  refine ⟨_, hbw2.cell 0, ?_⟩
  refine ⟨_, hbw2.cell 1, ?_⟩
  refine ⟨_, hbw2.cell 2, ?_⟩
  refine ⟨?_, ?_⟩
  ·
   refine (c23 (DSchedOp.has _) (IsD.ext e _ _ h1) (by have := op_sz op; omega)).mono ?_
   rintro _ w855 ⟨yw855, rfl, fw855, ew855⟩
   have hbw1 := hbw1.ext ew855
   have hbw2 := hbw2.ext ew855
   have hbw13 := hbw13.ext ew855
   have hc1w13 := hc1w13.ext ew855
   have hbw24 := hbw24.ext ew855
   have fw13 := fw13.ext ew855
   have fw19 := fw19.ext ew855
   have e := Only.trans e ew855
   have er := Only.trans er ew855
   have zw855 := ew855.size
   have hiyw855 := fw855.is
   obtain ⟨rfl, _, _, _⟩ := cells_SchedOp hiyw855
   refine ⟨_, _, _, rfl, ?_⟩
   refine ⟨⟨_, hbw24.cell 0, _, hbw24.cell 1, ryw19_2, hbw24.cell 2, ryw19_3, hbw24.cell 3, rfl⟩, ?_⟩
   refine ⟨?_, ?_⟩
   ·
    refine (implSchedStep fw19.is sz0 fw855.is).mono ?_
    rintro _ w952 ⟨yw952_0, rfl, fw952_0, ew952⟩
    have hbw1 := hbw1.ext ew952
    have hbw2 := hbw2.ext ew952
    have hbw13 := hbw13.ext ew952
    have hc1w13 := hc1w13.ext ew952
    have hbw24 := hbw24.ext ew952
    have fw13 := fw13.ext ew952
    have fw19 := fw19.ext ew952
    have fw855 := fw855.ext ew952
    have e := Only.trans e ew952
    have er := Only.trans er ew952
    have zw952 := ew952.size
    have hiyw952_0 := fw952_0.is
    obtain ⟨ryw952_0_2, ryw952_0_3, rfl, _, _, _, _⟩ := cells_Sched hiyw952_0
    refine ⟨_, _, ryw952_0_2, ryw952_0_3, _, _, rfl, ?_⟩
    refine ⟨?_, ?_⟩
    ·
     refine alloc_step (fun w977 ew977 hbw977 nw977 => ?_)
     have hbw1 := hbw1.ext ew977
     have hbw2 := hbw2.ext ew977
     have hbw13 := hbw13.ext ew977
     have hc1w13 := hc1w13.ext ew977
     have hbw24 := hbw24.ext ew977
     have fw13 := fw13.ext ew977
     have fw19 := fw19.ext ew977
     have fw855 := fw855.ext ew977
     have fw952_0 := fw952_0.ext ew977
     have e := Only.trans e ew977
     have er := Only.trans er ew977
     have zw977 := ew977.size
     refine ⟨⟨_, hbw2.cell 0, _, hbw2.cell 1, _, hbw2.cell 2, rfl⟩, ?_⟩
     refine ⟨⟨_, hbw24.cell 0, _, hbw24.cell 1, ryw19_2, hbw24.cell 2, ryw19_3, hbw24.cell 3, rfl⟩, ?_⟩
     refine ⟨?_, ?_⟩
     ·
      refine alloc_step (fun w985 ew985 hbw985 nw985 => ?_)
      have hbw1 := hbw1.ext ew985
      have hbw2 := hbw2.ext ew985
      have hbw13 := hbw13.ext ew985
      have hc1w13 := hc1w13.ext ew985
      have hbw24 := hbw24.ext ew985
      have hbw977 := hbw977.ext ew985
      have fw13 := fw13.ext ew985
      have fw19 := fw19.ext ew985
      have fw855 := fw855.ext ew985
      have fw952_0 := fw952_0.ext ew985
      have e := Only.trans e ew985
      have er := Only.trans er ew985
      have zw985 := ew985.size
      refine ⟨⟨_, hbw2.cell 0, _, hbw2.cell 1, _, hbw2.cell 2, rfl⟩, ?_⟩
      refine ⟨⟨_, hbw24.cell 0, _, hbw24.cell 1, ryw19_2, hbw24.cell 2, ryw19_3, hbw24.cell 3, rfl⟩, ?_⟩
      refine ⟨?_, ?_⟩
      ·
       refine put_step hbw977 rfl rfl (fun w993 ow993 hbw977q nw993 => ?_)
       have hbw1 := hbw1.only ow993 (by omega)
       have hbw2 := hbw2.only ow993 (by omega)
       have hbw13 := hbw13.only ow993 (by omega)
       have hc1w13 := hc1w13.only ow993 (by omega)
       have hbw24 := hbw24.only ow993 (by omega)
       have hbw985 := hbw985.only ow993 (by omega)
       have fw13 := fw13.only ow993 (fun k h1 h2 => by omega)
       have fw19 := fw19.only ow993 (fun k h1 h2 => by omega)
       have fw855 := fw855.only ow993 (fun k h1 h2 => by omega)
       have fw952_0 := fw952_0.only ow993 (fun k h1 h2 => by omega)
       have e := Ext.own e ow993 (fun k hk => by omega)
       have er := Ext.own er ow993 (fun k hk => by omega)
       have hbw977 := hbw977q
       refine ⟨?_, ?_⟩
       ·
        refine put_step hbw985 rfl rfl (fun w994 ow994 hbw985q nw994 => ?_)
        have hbw1 := hbw1.only ow994 (by omega)
        have hbw2 := hbw2.only ow994 (by omega)
        have hbw13 := hbw13.only ow994 (by omega)
        have hc1w13 := hc1w13.only ow994 (by omega)
        have hbw24 := hbw24.only ow994 (by omega)
        have hbw977 := hbw977.only ow994 (by omega)
        have fw13 := fw13.only ow994 (fun k h1 h2 => by omega)
        have fw19 := fw19.only ow994 (fun k h1 h2 => by omega)
        have fw855 := fw855.only ow994 (fun k h1 h2 => by omega)
        have fw952_0 := fw952_0.only ow994 (fun k h1 h2 => by omega)
        have e := Ext.own e ow994 (fun k hk => by omega)
        have er := Ext.own er ow994 (fun k hk => by omega)
        have hbw985 := hbw985q
        have hbl := hbw977.lt
        have hcl1 := hbw985.lt
        exact ⟨_, _, _, _, _, rfl, rfl, by omega, by omega, by omega, by omega, hbl, by omega, hcl1, by omega, by omega, hbw985, hbw977, fw952_0, er⟩
       ·
        trivial
      ·
       trivial
     ·
      trivial
    ·
     refine ⟨?_, ?_⟩
     ·
      refine alloc_step (fun w959 ew959 hbw959 nw959 => ?_)
      have hbw1 := hbw1.ext ew959
      have hbw2 := hbw2.ext ew959
      have hbw13 := hbw13.ext ew959
      have hc1w13 := hc1w13.ext ew959
      have hbw24 := hbw24.ext ew959
      have fw13 := fw13.ext ew959
      have fw19 := fw19.ext ew959
      have fw855 := fw855.ext ew959
      have fw952_0 := fw952_0.ext ew959
      have e := Only.trans e ew959
      have er := Only.trans er ew959
      have zw959 := ew959.size
      refine ⟨⟨_, hbw2.cell 0, _, hbw2.cell 1, _, hbw2.cell 2, rfl⟩, ?_⟩
      refine ⟨⟨_, hbw24.cell 0, _, hbw24.cell 1, ryw19_2, hbw24.cell 2, ryw19_3, hbw24.cell 3, rfl⟩, ?_⟩
      refine ⟨?_, ?_⟩
      ·
       refine alloc_step (fun w967 ew967 hbw967 nw967 => ?_)
       have hbw1 := hbw1.ext ew967
       have hbw2 := hbw2.ext ew967
       have hbw13 := hbw13.ext ew967
       have hc1w13 := hc1w13.ext ew967
       have hbw24 := hbw24.ext ew967
       have hbw959 := hbw959.ext ew967
       have fw13 := fw13.ext ew967
       have fw19 := fw19.ext ew967
       have fw855 := fw855.ext ew967
       have fw952_0 := fw952_0.ext ew967
       have e := Only.trans e ew967
       have er := Only.trans er ew967
       have zw967 := ew967.size
       refine ⟨⟨_, hbw2.cell 0, _, hbw2.cell 1, _, hbw2.cell 2, rfl⟩, ?_⟩
       refine ⟨⟨_, hbw24.cell 0, _, hbw24.cell 1, ryw19_2, hbw24.cell 2, ryw19_3, hbw24.cell 3, rfl⟩, ?_⟩
       refine ⟨?_, ?_⟩
       ·
        refine put_step hbw967 rfl rfl (fun w975 ow975 hbw967q nw975 => ?_)
        have hbw1 := hbw1.only ow975 (by omega)
        have hbw2 := hbw2.only ow975 (by omega)
        have hbw13 := hbw13.only ow975 (by omega)
        have hc1w13 := hc1w13.only ow975 (by omega)
        have hbw24 := hbw24.only ow975 (by omega)
        have hbw959 := hbw959.only ow975 (by omega)
        have fw13 := fw13.only ow975 (fun k h1 h2 => by omega)
        have fw19 := fw19.only ow975 (fun k h1 h2 => by omega)
        have fw855 := fw855.only ow975 (fun k h1 h2 => by omega)
        have fw952_0 := fw952_0.only ow975 (fun k h1 h2 => by omega)
        have e := Ext.own e ow975 (fun k hk => by omega)
        have er := Ext.own er ow975 (fun k hk => by omega)
        have hbw967 := hbw967q
        refine ⟨?_, ?_⟩
        ·
         refine put_step hbw959 rfl rfl (fun w976 ow976 hbw959q nw976 => ?_)
         have hbw1 := hbw1.only ow976 (by omega)
         have hbw2 := hbw2.only ow976 (by omega)
         have hbw13 := hbw13.only ow976 (by omega)
         have hc1w13 := hc1w13.only ow976 (by omega)
         have hbw24 := hbw24.only ow976 (by omega)
         have hbw967 := hbw967.only ow976 (by omega)
         have fw13 := fw13.only ow976 (fun k h1 h2 => by omega)
         have fw19 := fw19.only ow976 (fun k h1 h2 => by omega)
         have fw855 := fw855.only ow976 (fun k h1 h2 => by omega)
         have fw952_0 := fw952_0.only ow976 (fun k h1 h2 => by omega)
         have e := Ext.own e ow976 (fun k hk => by omega)
         have er := Ext.own er ow976 (fun k hk => by omega)
         have hbw959 := hbw959q
         have hbl := hbw967.lt
         have hcl1 := hbw959.lt
         exact ⟨_, _, _, _, _, rfl, rfl, by omega, by omega, by omega, by omega, hbl, by omega, hcl1, by omega, by omega, hbw959, hbw967, fw952_0, er⟩
        ·
         trivial
       ·
        trivial
      ·
       trivial
     ·
      trivial
   ·
    refine ⟨?_, ?_⟩
    ·
     refine alloc_step (fun w907 ew907 hbw907 nw907 => ?_)
     have hbw1 := hbw1.ext ew907
     have hbw2 := hbw2.ext ew907
     have hbw13 := hbw13.ext ew907
     have hc1w13 := hc1w13.ext ew907
     have hbw24 := hbw24.ext ew907
     have fw13 := fw13.ext ew907
     have fw19 := fw19.ext ew907
     have fw855 := fw855.ext ew907
     have e := Only.trans e ew907
     have er := Only.trans er ew907
     have zw907 := ew907.size
     refine ⟨⟨_, hbw2.cell 0, _, hbw2.cell 1, _, hbw2.cell 2, rfl⟩, ?_⟩
     refine ⟨⟨_, hbw24.cell 0, _, hbw24.cell 1, ryw19_2, hbw24.cell 2, ryw19_3, hbw24.cell 3, rfl⟩, ?_⟩
     refine ⟨?_, ?_⟩
     ·
      refine (implSchedStep fw19.is sz0 fw855.is).mono ?_
      rintro _ w934 ⟨yw934_0, rfl, fw934_0, ew934⟩
      have hbw1 := hbw1.ext ew934
      have hbw2 := hbw2.ext ew934
      have hbw13 := hbw13.ext ew934
      have hc1w13 := hc1w13.ext ew934
      have hbw24 := hbw24.ext ew934
      have hbw907 := hbw907.ext ew934
      have fw13 := fw13.ext ew934
      have fw19 := fw19.ext ew934
      have fw855 := fw855.ext ew934
      have e := Only.trans e ew934
      have er := Only.trans er ew934
      have zw934 := ew934.size
      have hiyw934_0 := fw934_0.is
      obtain ⟨ryw934_0_2, ryw934_0_3, rfl, _, _, _, _⟩ := cells_Sched hiyw934_0
      refine ⟨_, _, ryw934_0_2, ryw934_0_3, _, _, rfl, ?_⟩
      refine ⟨?_, ?_⟩
      ·
       refine alloc_step (fun w941 ew941 hbw941 nw941 => ?_)
       have hbw1 := hbw1.ext ew941
       have hbw2 := hbw2.ext ew941
       have hbw13 := hbw13.ext ew941
       have hc1w13 := hc1w13.ext ew941
       have hbw24 := hbw24.ext ew941
       have hbw907 := hbw907.ext ew941
       have fw13 := fw13.ext ew941
       have fw19 := fw19.ext ew941
       have fw855 := fw855.ext ew941
       have fw934_0 := fw934_0.ext ew941
       have e := Only.trans e ew941
       have er := Only.trans er ew941
       have zw941 := ew941.size
       refine ⟨⟨_, hbw2.cell 0, _, hbw2.cell 1, _, hbw2.cell 2, rfl⟩, ?_⟩
       refine ⟨⟨_, hbw24.cell 0, _, hbw24.cell 1, ryw19_2, hbw24.cell 2, ryw19_3, hbw24.cell 3, rfl⟩, ?_⟩
       refine ⟨?_, ?_⟩
       ·
        refine put_step hbw907 rfl rfl (fun w949 ow949 hbw907q nw949 => ?_)
        have hbw1 := hbw1.only ow949 (by omega)
        have hbw2 := hbw2.only ow949 (by omega)
        have hbw13 := hbw13.only ow949 (by omega)
        have hc1w13 := hc1w13.only ow949 (by omega)
        have hbw24 := hbw24.only ow949 (by omega)
        have hbw941 := hbw941.only ow949 (by omega)
        have fw13 := fw13.only ow949 (fun k h1 h2 => by omega)
        have fw19 := fw19.only ow949 (fun k h1 h2 => by omega)
        have fw855 := fw855.only ow949 (fun k h1 h2 => by omega)
        have fw934_0 := fw934_0.only ow949 (fun k h1 h2 => by omega)
        have e := Ext.own e ow949 (fun k hk => by omega)
        have er := Ext.own er ow949 (fun k hk => by omega)
        have hbw907 := hbw907q
        refine ⟨?_, ?_⟩
        ·
         refine put_step hbw941 rfl rfl (fun w950 ow950 hbw941q nw950 => ?_)
         have hbw1 := hbw1.only ow950 (by omega)
         have hbw2 := hbw2.only ow950 (by omega)
         have hbw13 := hbw13.only ow950 (by omega)
         have hc1w13 := hc1w13.only ow950 (by omega)
         have hbw24 := hbw24.only ow950 (by omega)
         have hbw907 := hbw907.only ow950 (by omega)
         have fw13 := fw13.only ow950 (fun k h1 h2 => by omega)
         have fw19 := fw19.only ow950 (fun k h1 h2 => by omega)
         have fw855 := fw855.only ow950 (fun k h1 h2 => by omega)
         have fw934_0 := fw934_0.only ow950 (fun k h1 h2 => by omega)
         have e := Ext.own e ow950 (fun k hk => by omega)
         have er := Ext.own er ow950 (fun k hk => by omega)
         have hbw941 := hbw941q
         have hbl := hbw907.lt
         have hcl1 := hbw941.lt
         exact ⟨_, _, _, _, _, rfl, rfl, by omega, by omega, by omega, by omega, hbl, by omega, hcl1, by omega, by omega, hbw941, hbw907, fw934_0, er⟩
        ·
         trivial
       ·
        trivial
      ·
       trivial
     ·
      refine ⟨?_, ?_⟩
      ·
       refine alloc_step (fun w915 ew915 hbw915 nw915 => ?_)
       have hbw1 := hbw1.ext ew915
       have hbw2 := hbw2.ext ew915
       have hbw13 := hbw13.ext ew915
       have hc1w13 := hc1w13.ext ew915
       have hbw24 := hbw24.ext ew915
       have hbw907 := hbw907.ext ew915
       have fw13 := fw13.ext ew915
       have fw19 := fw19.ext ew915
       have fw855 := fw855.ext ew915
       have e := Only.trans e ew915
       have er := Only.trans er ew915
       have zw915 := ew915.size
       refine ⟨⟨_, hbw2.cell 0, _, hbw2.cell 1, _, hbw2.cell 2, rfl⟩, ?_⟩
       refine ⟨⟨_, hbw24.cell 0, _, hbw24.cell 1, ryw19_2, hbw24.cell 2, ryw19_3, hbw24.cell 3, rfl⟩, ?_⟩
       refine ⟨?_, ?_⟩
       ·
        refine (implSchedStep fw19.is sz0 fw855.is).mono ?_
        rintro _ w924 ⟨yw924_0, rfl, fw924_0, ew924⟩
        have hbw1 := hbw1.ext ew924
        have hbw2 := hbw2.ext ew924
        have hbw13 := hbw13.ext ew924
        have hc1w13 := hc1w13.ext ew924
        have hbw24 := hbw24.ext ew924
        have hbw907 := hbw907.ext ew924
        have hbw915 := hbw915.ext ew924
        have fw13 := fw13.ext ew924
        have fw19 := fw19.ext ew924
        have fw855 := fw855.ext ew924
        have e := Only.trans e ew924
        have er := Only.trans er ew924
        have zw924 := ew924.size
        have hiyw924_0 := fw924_0.is
        obtain ⟨ryw924_0_2, ryw924_0_3, rfl, _, _, _, _⟩ := cells_Sched hiyw924_0
        refine ⟨_, _, ryw924_0_2, ryw924_0_3, _, _, rfl, ?_⟩
        refine ⟨?_, ?_⟩
        ·
         refine put_step hbw907 rfl rfl (fun w931 ow931 hbw907q nw931 => ?_)
         have hbw1 := hbw1.only ow931 (by omega)
         have hbw2 := hbw2.only ow931 (by omega)
         have hbw13 := hbw13.only ow931 (by omega)
         have hc1w13 := hc1w13.only ow931 (by omega)
         have hbw24 := hbw24.only ow931 (by omega)
         have hbw915 := hbw915.only ow931 (by omega)
         have fw13 := fw13.only ow931 (fun k h1 h2 => by omega)
         have fw19 := fw19.only ow931 (fun k h1 h2 => by omega)
         have fw855 := fw855.only ow931 (fun k h1 h2 => by omega)
         have fw924_0 := fw924_0.only ow931 (fun k h1 h2 => by omega)
         have e := Ext.own e ow931 (fun k hk => by omega)
         have er := Ext.own er ow931 (fun k hk => by omega)
         have hbw907 := hbw907q
         refine ⟨?_, ?_⟩
         ·
          refine put_step hbw915 rfl rfl (fun w932 ow932 hbw915q nw932 => ?_)
          have hbw1 := hbw1.only ow932 (by omega)
          have hbw2 := hbw2.only ow932 (by omega)
          have hbw13 := hbw13.only ow932 (by omega)
          have hc1w13 := hc1w13.only ow932 (by omega)
          have hbw24 := hbw24.only ow932 (by omega)
          have hbw907 := hbw907.only ow932 (by omega)
          have fw13 := fw13.only ow932 (fun k h1 h2 => by omega)
          have fw19 := fw19.only ow932 (fun k h1 h2 => by omega)
          have fw855 := fw855.only ow932 (fun k h1 h2 => by omega)
          have fw924_0 := fw924_0.only ow932 (fun k h1 h2 => by omega)
          have e := Ext.own e ow932 (fun k hk => by omega)
          have er := Ext.own er ow932 (fun k hk => by omega)
          have hbw915 := hbw915q
          have hbl := hbw907.lt
          have hcl1 := hbw915.lt
          exact ⟨_, _, _, _, _, rfl, rfl, by omega, by omega, by omega, by omega, hbl, by omega, hcl1, by omega, by omega, hbw915, hbw907, fw924_0, er⟩
         ·
          trivial
        ·
         trivial
       ·
        trivial
      ·
       trivial
    ·
     refine ⟨?_, ?_⟩
     ·
      refine alloc_step (fun w863 ew863 hbw863 nw863 => ?_)
      have hbw1 := hbw1.ext ew863
      have hbw2 := hbw2.ext ew863
      have hbw13 := hbw13.ext ew863
      have hc1w13 := hc1w13.ext ew863
      have hbw24 := hbw24.ext ew863
      have fw13 := fw13.ext ew863
      have fw19 := fw19.ext ew863
      have fw855 := fw855.ext ew863
      have e := Only.trans e ew863
      have er := Only.trans er ew863
      have zw863 := ew863.size
      refine ⟨⟨_, hbw2.cell 0, _, hbw2.cell 1, _, hbw2.cell 2, rfl⟩, ?_⟩
      refine ⟨⟨_, hbw24.cell 0, _, hbw24.cell 1, ryw19_2, hbw24.cell 2, ryw19_3, hbw24.cell 3, rfl⟩, ?_⟩
      refine ⟨?_, ?_⟩
      ·
       refine (implSchedStep fw19.is sz0 fw855.is).mono ?_
       rintro _ w890 ⟨yw890_0, rfl, fw890_0, ew890⟩
       have hbw1 := hbw1.ext ew890
       have hbw2 := hbw2.ext ew890
       have hbw13 := hbw13.ext ew890
       have hc1w13 := hc1w13.ext ew890
       have hbw24 := hbw24.ext ew890
       have hbw863 := hbw863.ext ew890
       have fw13 := fw13.ext ew890
       have fw19 := fw19.ext ew890
       have fw855 := fw855.ext ew890
       have e := Only.trans e ew890
       have er := Only.trans er ew890
       have zw890 := ew890.size
       have hiyw890_0 := fw890_0.is
       obtain ⟨ryw890_0_2, ryw890_0_3, rfl, _, _, _, _⟩ := cells_Sched hiyw890_0
       refine ⟨_, _, ryw890_0_2, ryw890_0_3, _, _, rfl, ?_⟩
       refine ⟨?_, ?_⟩
       ·
        refine alloc_step (fun w897 ew897 hbw897 nw897 => ?_)
        have hbw1 := hbw1.ext ew897
        have hbw2 := hbw2.ext ew897
        have hbw13 := hbw13.ext ew897
        have hc1w13 := hc1w13.ext ew897
        have hbw24 := hbw24.ext ew897
        have hbw863 := hbw863.ext ew897
        have fw13 := fw13.ext ew897
        have fw19 := fw19.ext ew897
        have fw855 := fw855.ext ew897
        have fw890_0 := fw890_0.ext ew897
        have e := Only.trans e ew897
        have er := Only.trans er ew897
        have zw897 := ew897.size
        refine ⟨⟨_, hbw2.cell 0, _, hbw2.cell 1, _, hbw2.cell 2, rfl⟩, ?_⟩
        refine ⟨⟨_, hbw24.cell 0, _, hbw24.cell 1, ryw19_2, hbw24.cell 2, ryw19_3, hbw24.cell 3, rfl⟩, ?_⟩
        refine ⟨?_, ?_⟩
        ·
         refine put_step hbw897 rfl rfl (fun w905 ow905 hbw897q nw905 => ?_)
         have hbw1 := hbw1.only ow905 (by omega)
         have hbw2 := hbw2.only ow905 (by omega)
         have hbw13 := hbw13.only ow905 (by omega)
         have hc1w13 := hc1w13.only ow905 (by omega)
         have hbw24 := hbw24.only ow905 (by omega)
         have hbw863 := hbw863.only ow905 (by omega)
         have fw13 := fw13.only ow905 (fun k h1 h2 => by omega)
         have fw19 := fw19.only ow905 (fun k h1 h2 => by omega)
         have fw855 := fw855.only ow905 (fun k h1 h2 => by omega)
         have fw890_0 := fw890_0.only ow905 (fun k h1 h2 => by omega)
         have e := Ext.own e ow905 (fun k hk => by omega)
         have er := Ext.own er ow905 (fun k hk => by omega)
         have hbw897 := hbw897q
         refine ⟨?_, ?_⟩
         ·
          refine put_step hbw863 rfl rfl (fun w906 ow906 hbw863q nw906 => ?_)
          have hbw1 := hbw1.only ow906 (by omega)
          have hbw2 := hbw2.only ow906 (by omega)
          have hbw13 := hbw13.only ow906 (by omega)
          have hc1w13 := hc1w13.only ow906 (by omega)
          have hbw24 := hbw24.only ow906 (by omega)
          have hbw897 := hbw897.only ow906 (by omega)
          have fw13 := fw13.only ow906 (fun k h1 h2 => by omega)
          have fw19 := fw19.only ow906 (fun k h1 h2 => by omega)
          have fw855 := fw855.only ow906 (fun k h1 h2 => by omega)
          have fw890_0 := fw890_0.only ow906 (fun k h1 h2 => by omega)
          have e := Ext.own e ow906 (fun k hk => by omega)
          have er := Ext.own er ow906 (fun k hk => by omega)
          have hbw863 := hbw863q
          have hbl := hbw897.lt
          have hcl1 := hbw863.lt
          exact ⟨_, _, _, _, _, rfl, rfl, by omega, by omega, by omega, by omega, hbl, by omega, hcl1, by omega, by omega, hbw863, hbw897, fw890_0, er⟩
         ·
          trivial
        ·
         trivial
       ·
        trivial
      ·
       refine ⟨?_, ?_⟩
       ·
        refine alloc_step (fun w871 ew871 hbw871 nw871 => ?_)
        have hbw1 := hbw1.ext ew871
        have hbw2 := hbw2.ext ew871
        have hbw13 := hbw13.ext ew871
        have hc1w13 := hc1w13.ext ew871
        have hbw24 := hbw24.ext ew871
        have hbw863 := hbw863.ext ew871
        have fw13 := fw13.ext ew871
        have fw19 := fw19.ext ew871
        have fw855 := fw855.ext ew871
        have e := Only.trans e ew871
        have er := Only.trans er ew871
        have zw871 := ew871.size
        refine ⟨⟨_, hbw2.cell 0, _, hbw2.cell 1, _, hbw2.cell 2, rfl⟩, ?_⟩
        refine ⟨⟨_, hbw24.cell 0, _, hbw24.cell 1, ryw19_2, hbw24.cell 2, ryw19_3, hbw24.cell 3, rfl⟩, ?_⟩
        refine ⟨?_, ?_⟩
        ·
         refine (implSchedStep fw19.is sz0 fw855.is).mono ?_
         rintro _ w880 ⟨yw880_0, rfl, fw880_0, ew880⟩
         have hbw1 := hbw1.ext ew880
         have hbw2 := hbw2.ext ew880
         have hbw13 := hbw13.ext ew880
         have hc1w13 := hc1w13.ext ew880
         have hbw24 := hbw24.ext ew880
         have hbw863 := hbw863.ext ew880
         have hbw871 := hbw871.ext ew880
         have fw13 := fw13.ext ew880
         have fw19 := fw19.ext ew880
         have fw855 := fw855.ext ew880
         have e := Only.trans e ew880
         have er := Only.trans er ew880
         have zw880 := ew880.size
         have hiyw880_0 := fw880_0.is
         obtain ⟨ryw880_0_2, ryw880_0_3, rfl, _, _, _, _⟩ := cells_Sched hiyw880_0
         refine ⟨_, _, ryw880_0_2, ryw880_0_3, _, _, rfl, ?_⟩
         refine ⟨?_, ?_⟩
         ·
          refine put_step hbw871 rfl rfl (fun w887 ow887 hbw871q nw887 => ?_)
          have hbw1 := hbw1.only ow887 (by omega)
          have hbw2 := hbw2.only ow887 (by omega)
          have hbw13 := hbw13.only ow887 (by omega)
          have hc1w13 := hc1w13.only ow887 (by omega)
          have hbw24 := hbw24.only ow887 (by omega)
          have hbw863 := hbw863.only ow887 (by omega)
          have fw13 := fw13.only ow887 (fun k h1 h2 => by omega)
          have fw19 := fw19.only ow887 (fun k h1 h2 => by omega)
          have fw855 := fw855.only ow887 (fun k h1 h2 => by omega)
          have fw880_0 := fw880_0.only ow887 (fun k h1 h2 => by omega)
          have e := Ext.own e ow887 (fun k hk => by omega)
          have er := Ext.own er ow887 (fun k hk => by omega)
          have hbw871 := hbw871q
          refine ⟨?_, ?_⟩
          ·
           refine put_step hbw863 rfl rfl (fun w888 ow888 hbw863q nw888 => ?_)
           have hbw1 := hbw1.only ow888 (by omega)
           have hbw2 := hbw2.only ow888 (by omega)
           have hbw13 := hbw13.only ow888 (by omega)
           have hc1w13 := hc1w13.only ow888 (by omega)
           have hbw24 := hbw24.only ow888 (by omega)
           have hbw871 := hbw871.only ow888 (by omega)
           have fw13 := fw13.only ow888 (fun k h1 h2 => by omega)
           have fw19 := fw19.only ow888 (fun k h1 h2 => by omega)
           have fw855 := fw855.only ow888 (fun k h1 h2 => by omega)
           have fw880_0 := fw880_0.only ow888 (fun k h1 h2 => by omega)
           have e := Ext.own e ow888 (fun k hk => by omega)
           have er := Ext.own er ow888 (fun k hk => by omega)
           have hbw863 := hbw863q
           have hbl := hbw871.lt
           have hcl1 := hbw863.lt
           exact ⟨_, _, _, _, _, rfl, rfl, by omega, by omega, by omega, by omega, hbl, by omega, hcl1, by omega, by omega, hbw863, hbw871, fw880_0, er⟩
          ·
           trivial
         ·
          trivial
        ·
         trivial
       ·
        trivial
     ·
      trivial
  ·
   refine ⟨?_, ?_⟩
   ·
    refine alloc_step (fun w774 ew774 hbw774 nw774 => ?_)
    have hbw1 := hbw1.ext ew774
    have hbw2 := hbw2.ext ew774
    have hbw13 := hbw13.ext ew774
    have hc1w13 := hc1w13.ext ew774
    have hbw24 := hbw24.ext ew774
    have fw13 := fw13.ext ew774
    have fw19 := fw19.ext ew774
    have e := Only.trans e ew774
    have er := Only.trans er ew774
    have zw774 := ew774.size
    refine ⟨⟨_, hbw2.cell 0, _, hbw2.cell 1, _, hbw2.cell 2, rfl⟩, ?_⟩
    refine ⟨⟨_, hbw24.cell 0, _, hbw24.cell 1, ryw19_2, hbw24.cell 2, ryw19_3, hbw24.cell 3, rfl⟩, ?_⟩
    refine ⟨?_, ?_⟩
    ·
     refine (c23 (DSchedOp.has _) (IsD.ext e _ _ h1) (by have := op_sz op; omega)).mono ?_
     rintro _ w810 ⟨yw810, rfl, fw810, ew810⟩
     have hbw1 := hbw1.ext ew810
     have hbw2 := hbw2.ext ew810
     have hbw13 := hbw13.ext ew810
     have hc1w13 := hc1w13.ext ew810
     have hbw24 := hbw24.ext ew810
     have hbw774 := hbw774.ext ew810
     have fw13 := fw13.ext ew810
     have fw19 := fw19.ext ew810
     have e := Only.trans e ew810
     have er := Only.trans er ew810
     have zw810 := ew810.size
     have hiyw810 := fw810.is
     obtain ⟨rfl, _, _, _⟩ := cells_SchedOp hiyw810
     refine ⟨_, _, _, rfl, ?_⟩
     refine ⟨⟨_, hbw24.cell 0, _, hbw24.cell 1, ryw19_2, hbw24.cell 2, ryw19_3, hbw24.cell 3, rfl⟩, ?_⟩
     refine ⟨?_, ?_⟩
     ·
      refine (implSchedStep fw19.is sz0 fw810.is).mono ?_
      rintro _ w837 ⟨yw837_0, rfl, fw837_0, ew837⟩
      have hbw1 := hbw1.ext ew837
      have hbw2 := hbw2.ext ew837
      have hbw13 := hbw13.ext ew837
      have hc1w13 := hc1w13.ext ew837
      have hbw24 := hbw24.ext ew837
      have hbw774 := hbw774.ext ew837
      have fw13 := fw13.ext ew837
      have fw19 := fw19.ext ew837
      have fw810 := fw810.ext ew837
      have e := Only.trans e ew837
      have er := Only.trans er ew837
      have zw837 := ew837.size
      have hiyw837_0 := fw837_0.is
      obtain ⟨ryw837_0_2, ryw837_0_3, rfl, _, _, _, _⟩ := cells_Sched hiyw837_0
      refine ⟨_, _, ryw837_0_2, ryw837_0_3, _, _, rfl, ?_⟩
      refine ⟨?_, ?_⟩
      ·
       refine alloc_step (fun w844 ew844 hbw844 nw844 => ?_)
       have hbw1 := hbw1.ext ew844
       have hbw2 := hbw2.ext ew844
       have hbw13 := hbw13.ext ew844
       have hc1w13 := hc1w13.ext ew844
       have hbw24 := hbw24.ext ew844
       have hbw774 := hbw774.ext ew844
       have fw13 := fw13.ext ew844
       have fw19 := fw19.ext ew844
       have fw810 := fw810.ext ew844
       have fw837_0 := fw837_0.ext ew844
       have e := Only.trans e ew844
       have er := Only.trans er ew844
       have zw844 := ew844.size
       refine ⟨⟨_, hbw2.cell 0, _, hbw2.cell 1, _, hbw2.cell 2, rfl⟩, ?_⟩
       refine ⟨⟨_, hbw24.cell 0, _, hbw24.cell 1, ryw19_2, hbw24.cell 2, ryw19_3, hbw24.cell 3, rfl⟩, ?_⟩
       refine ⟨?_, ?_⟩
       ·
        refine put_step hbw774 rfl rfl (fun w852 ow852 hbw774q nw852 => ?_)
        have hbw1 := hbw1.only ow852 (by omega)
        have hbw2 := hbw2.only ow852 (by omega)
        have hbw13 := hbw13.only ow852 (by omega)
        have hc1w13 := hc1w13.only ow852 (by omega)
        have hbw24 := hbw24.only ow852 (by omega)
        have hbw844 := hbw844.only ow852 (by omega)
        have fw13 := fw13.only ow852 (fun k h1 h2 => by omega)
        have fw19 := fw19.only ow852 (fun k h1 h2 => by omega)
        have fw810 := fw810.only ow852 (fun k h1 h2 => by omega)
        have fw837_0 := fw837_0.only ow852 (fun k h1 h2 => by omega)
        have e := Ext.own e ow852 (fun k hk => by omega)
        have er := Ext.own er ow852 (fun k hk => by omega)
        have hbw774 := hbw774q
        refine ⟨?_, ?_⟩
        ·
         refine put_step hbw844 rfl rfl (fun w853 ow853 hbw844q nw853 => ?_)
         have hbw1 := hbw1.only ow853 (by omega)
         have hbw2 := hbw2.only ow853 (by omega)
         have hbw13 := hbw13.only ow853 (by omega)
         have hc1w13 := hc1w13.only ow853 (by omega)
         have hbw24 := hbw24.only ow853 (by omega)
         have hbw774 := hbw774.only ow853 (by omega)
         have fw13 := fw13.only ow853 (fun k h1 h2 => by omega)
         have fw19 := fw19.only ow853 (fun k h1 h2 => by omega)
         have fw810 := fw810.only ow853 (fun k h1 h2 => by omega)
         have fw837_0 := fw837_0.only ow853 (fun k h1 h2 => by omega)
         have e := Ext.own e ow853 (fun k hk => by omega)
         have er := Ext.own er ow853 (fun k hk => by omega)
         have hbw844 := hbw844q
         have hbl := hbw774.lt
         have hcl1 := hbw844.lt
         exact ⟨_, _, _, _, _, rfl, rfl, by omega, by omega, by omega, by omega, hbl, by omega, hcl1, by omega, by omega, hbw844, hbw774, fw837_0, er⟩
        ·
         trivial
       ·
        trivial
      ·
       trivial
     ·
      refine ⟨?_, ?_⟩
      ·
       refine alloc_step (fun w818 ew818 hbw818 nw818 => ?_)
       have hbw1 := hbw1.ext ew818
       have hbw2 := hbw2.ext ew818
       have hbw13 := hbw13.ext ew818
       have hc1w13 := hc1w13.ext ew818
       have hbw24 := hbw24.ext ew818
       have hbw774 := hbw774.ext ew818
       have fw13 := fw13.ext ew818
       have fw19 := fw19.ext ew818
       have fw810 := fw810.ext ew818
       have e := Only.trans e ew818
       have er := Only.trans er ew818
       have zw818 := ew818.size
       refine ⟨⟨_, hbw2.cell 0, _, hbw2.cell 1, _, hbw2.cell 2, rfl⟩, ?_⟩
       refine ⟨⟨_, hbw24.cell 0, _, hbw24.cell 1, ryw19_2, hbw24.cell 2, ryw19_3, hbw24.cell 3, rfl⟩, ?_⟩
       refine ⟨?_, ?_⟩
       ·
        refine (implSchedStep fw19.is sz0 fw810.is).mono ?_
        rintro _ w827 ⟨yw827_0, rfl, fw827_0, ew827⟩
        have hbw1 := hbw1.ext ew827
        have hbw2 := hbw2.ext ew827
        have hbw13 := hbw13.ext ew827
        have hc1w13 := hc1w13.ext ew827
        have hbw24 := hbw24.ext ew827
        have hbw774 := hbw774.ext ew827
        have hbw818 := hbw818.ext ew827
        have fw13 := fw13.ext ew827
        have fw19 := fw19.ext ew827
        have fw810 := fw810.ext ew827
        have e := Only.trans e ew827
        have er := Only.trans er ew827
        have zw827 := ew827.size
        have hiyw827_0 := fw827_0.is
        obtain ⟨ryw827_0_2, ryw827_0_3, rfl, _, _, _, _⟩ := cells_Sched hiyw827_0
        refine ⟨_, _, ryw827_0_2, ryw827_0_3, _, _, rfl, ?_⟩
        refine ⟨?_, ?_⟩
        ·
         refine put_step hbw774 rfl rfl (fun w834 ow834 hbw774q nw834 => ?_)
         have hbw1 := hbw1.only ow834 (by omega)
         have hbw2 := hbw2.only ow834 (by omega)
         have hbw13 := hbw13.only ow834 (by omega)
         have hc1w13 := hc1w13.only ow834 (by omega)
         have hbw24 := hbw24.only ow834 (by omega)
         have hbw818 := hbw818.only ow834 (by omega)
         have fw13 := fw13.only ow834 (fun k h1 h2 => by omega)
         have fw19 := fw19.only ow834 (fun k h1 h2 => by omega)
         have fw810 := fw810.only ow834 (fun k h1 h2 => by omega)
         have fw827_0 := fw827_0.only ow834 (fun k h1 h2 => by omega)
         have e := Ext.own e ow834 (fun k hk => by omega)
         have er := Ext.own er ow834 (fun k hk => by omega)
         have hbw774 := hbw774q
         refine ⟨?_, ?_⟩
         ·
          refine put_step hbw818 rfl rfl (fun w835 ow835 hbw818q nw835 => ?_)
          have hbw1 := hbw1.only ow835 (by omega)
          have hbw2 := hbw2.only ow835 (by omega)
          have hbw13 := hbw13.only ow835 (by omega)
          have hc1w13 := hc1w13.only ow835 (by omega)
          have hbw24 := hbw24.only ow835 (by omega)
          have hbw774 := hbw774.only ow835 (by omega)
          have fw13 := fw13.only ow835 (fun k h1 h2 => by omega)
          have fw19 := fw19.only ow835 (fun k h1 h2 => by omega)
          have fw810 := fw810.only ow835 (fun k h1 h2 => by omega)
          have fw827_0 := fw827_0.only ow835 (fun k h1 h2 => by omega)
          have e := Ext.own e ow835 (fun k hk => by omega)
          have er := Ext.own er ow835 (fun k hk => by omega)
          have hbw818 := hbw818q
          have hbl := hbw774.lt
          have hcl1 := hbw818.lt
          exact ⟨_, _, _, _, _, rfl, rfl, by omega, by omega, by omega, by omega, hbl, by omega, hcl1, by omega, by omega, hbw818, hbw774, fw827_0, er⟩
         ·
          trivial
        ·
         trivial
       ·
        trivial
      ·
       trivial
    ·
     refine ⟨?_, ?_⟩
     ·
      refine alloc_step (fun w782 ew782 hbw782 nw782 => ?_)
      have hbw1 := hbw1.ext ew782
      have hbw2 := hbw2.ext ew782
      have hbw13 := hbw13.ext ew782
      have hc1w13 := hc1w13.ext ew782
      have hbw24 := hbw24.ext ew782
      have hbw774 := hbw774.ext ew782
      have fw13 := fw13.ext ew782
      have fw19 := fw19.ext ew782
      have e := Only.trans e ew782
      have er := Only.trans er ew782
      have zw782 := ew782.size
      refine ⟨⟨_, hbw2.cell 0, _, hbw2.cell 1, _, hbw2.cell 2, rfl⟩, ?_⟩
      refine ⟨⟨_, hbw24.cell 0, _, hbw24.cell 1, ryw19_2, hbw24.cell 2, ryw19_3, hbw24.cell 3, rfl⟩, ?_⟩
      refine ⟨?_, ?_⟩
      ·
       refine (c23 (DSchedOp.has _) (IsD.ext e _ _ h1) (by have := op_sz op; omega)).mono ?_
       rintro _ w791 ⟨yw791, rfl, fw791, ew791⟩
       have hbw1 := hbw1.ext ew791
       have hbw2 := hbw2.ext ew791
       have hbw13 := hbw13.ext ew791
       have hc1w13 := hc1w13.ext ew791
       have hbw24 := hbw24.ext ew791
       have hbw774 := hbw774.ext ew791
       have hbw782 := hbw782.ext ew791
       have fw13 := fw13.ext ew791
       have fw19 := fw19.ext ew791
       have e := Only.trans e ew791
       have er := Only.trans er ew791
       have zw791 := ew791.size
       have hiyw791 := fw791.is
       obtain ⟨rfl, _, _, _⟩ := cells_SchedOp hiyw791
       refine ⟨_, _, _, rfl, ?_⟩
       refine ⟨⟨_, hbw24.cell 0, _, hbw24.cell 1, ryw19_2, hbw24.cell 2, ryw19_3, hbw24.cell 3, rfl⟩, ?_⟩
       refine ⟨?_, ?_⟩
       ·
        refine (implSchedStep fw19.is sz0 fw791.is).mono ?_
        rintro _ w800 ⟨yw800_0, rfl, fw800_0, ew800⟩
        have hbw1 := hbw1.ext ew800
        have hbw2 := hbw2.ext ew800
        have hbw13 := hbw13.ext ew800
        have hc1w13 := hc1w13.ext ew800
        have hbw24 := hbw24.ext ew800
        have hbw774 := hbw774.ext ew800
        have hbw782 := hbw782.ext ew800
        have fw13 := fw13.ext ew800
        have fw19 := fw19.ext ew800
        have fw791 := fw791.ext ew800
        have e := Only.trans e ew800
        have er := Only.trans er ew800
        have zw800 := ew800.size
        have hiyw800_0 := fw800_0.is
        obtain ⟨ryw800_0_2, ryw800_0_3, rfl, _, _, _, _⟩ := cells_Sched hiyw800_0
        refine ⟨_, _, ryw800_0_2, ryw800_0_3, _, _, rfl, ?_⟩
        refine ⟨?_, ?_⟩
        ·
         refine put_step hbw774 rfl rfl (fun w807 ow807 hbw774q nw807 => ?_)
         have hbw1 := hbw1.only ow807 (by omega)
         have hbw2 := hbw2.only ow807 (by omega)
         have hbw13 := hbw13.only ow807 (by omega)
         have hc1w13 := hc1w13.only ow807 (by omega)
         have hbw24 := hbw24.only ow807 (by omega)
         have hbw782 := hbw782.only ow807 (by omega)
         have fw13 := fw13.only ow807 (fun k h1 h2 => by omega)
         have fw19 := fw19.only ow807 (fun k h1 h2 => by omega)
         have fw791 := fw791.only ow807 (fun k h1 h2 => by omega)
         have fw800_0 := fw800_0.only ow807 (fun k h1 h2 => by omega)
         have e := Ext.own e ow807 (fun k hk => by omega)
         have er := Ext.own er ow807 (fun k hk => by omega)
         have hbw774 := hbw774q
         refine ⟨?_, ?_⟩
         ·
          refine put_step hbw782 rfl rfl (fun w808 ow808 hbw782q nw808 => ?_)
          have hbw1 := hbw1.only ow808 (by omega)
          have hbw2 := hbw2.only ow808 (by omega)
          have hbw13 := hbw13.only ow808 (by omega)
          have hc1w13 := hc1w13.only ow808 (by omega)
          have hbw24 := hbw24.only ow808 (by omega)
          have hbw774 := hbw774.only ow808 (by omega)
          have fw13 := fw13.only ow808 (fun k h1 h2 => by omega)
          have fw19 := fw19.only ow808 (fun k h1 h2 => by omega)
          have fw791 := fw791.only ow808 (fun k h1 h2 => by omega)
          have fw800_0 := fw800_0.only ow808 (fun k h1 h2 => by omega)
          have e := Ext.own e ow808 (fun k hk => by omega)
          have er := Ext.own er ow808 (fun k hk => by omega)
          have hbw782 := hbw782q
          have hbl := hbw774.lt
          have hcl1 := hbw782.lt
          exact ⟨_, _, _, _, _, rfl, rfl, by omega, by omega, by omega, by omega, hbl, by omega, hcl1, by omega, by omega, hbw782, hbw774, fw800_0, er⟩
         ·
          trivial
        ·
         trivial
       ·
        trivial
      ·
       trivial
     ·
      trivial
   ·
    refine ⟨?_, ?_⟩
    ·
     refine alloc_step (fun w694 ew694 hbw694 nw694 => ?_)
     have hbw1 := hbw1.ext ew694
     have hbw2 := hbw2.ext ew694
     have hbw13 := hbw13.ext ew694
     have hc1w13 := hc1w13.ext ew694
     have hbw24 := hbw24.ext ew694
     have fw13 := fw13.ext ew694
     have fw19 := fw19.ext ew694
     have e := Only.trans e ew694
     have er := Only.trans er ew694
     have zw694 := ew694.size
     refine ⟨⟨_, hbw2.cell 0, _, hbw2.cell 1, _, hbw2.cell 2, rfl⟩, ?_⟩
     refine ⟨⟨_, hbw24.cell 0, _, hbw24.cell 1, ryw19_2, hbw24.cell 2, ryw19_3, hbw24.cell 3, rfl⟩, ?_⟩
     refine ⟨?_, ?_⟩
     ·
      refine (c23 (DSchedOp.has _) (IsD.ext e _ _ h1) (by have := op_sz op; omega)).mono ?_
      rintro _ w730 ⟨yw730, rfl, fw730, ew730⟩
      have hbw1 := hbw1.ext ew730
      have hbw2 := hbw2.ext ew730
      have hbw13 := hbw13.ext ew730
      have hc1w13 := hc1w13.ext ew730
      have hbw24 := hbw24.ext ew730
      have hbw694 := hbw694.ext ew730
      have fw13 := fw13.ext ew730
      have fw19 := fw19.ext ew730
      have e := Only.trans e ew730
      have er := Only.trans er ew730
      have zw730 := ew730.size
      have hiyw730 := fw730.is
      obtain ⟨rfl, _, _, _⟩ := cells_SchedOp hiyw730
      refine ⟨_, _, _, rfl, ?_⟩
      refine ⟨⟨_, hbw24.cell 0, _, hbw24.cell 1, ryw19_2, hbw24.cell 2, ryw19_3, hbw24.cell 3, rfl⟩, ?_⟩
      refine ⟨?_, ?_⟩
      ·
       refine (implSchedStep fw19.is sz0 fw730.is).mono ?_
       rintro _ w757 ⟨yw757_0, rfl, fw757_0, ew757⟩
       have hbw1 := hbw1.ext ew757
       have hbw2 := hbw2.ext ew757
       have hbw13 := hbw13.ext ew757
       have hc1w13 := hc1w13.ext ew757
       have hbw24 := hbw24.ext ew757
       have hbw694 := hbw694.ext ew757
       have fw13 := fw13.ext ew757
       have fw19 := fw19.ext ew757
       have fw730 := fw730.ext ew757
       have e := Only.trans e ew757
       have er := Only.trans er ew757
       have zw757 := ew757.size
       have hiyw757_0 := fw757_0.is
       obtain ⟨ryw757_0_2, ryw757_0_3, rfl, _, _, _, _⟩ := cells_Sched hiyw757_0
       refine ⟨_, _, ryw757_0_2, ryw757_0_3, _, _, rfl, ?_⟩
       refine ⟨?_, ?_⟩
       ·
        refine alloc_step (fun w764 ew764 hbw764 nw764 => ?_)
        have hbw1 := hbw1.ext ew764
        have hbw2 := hbw2.ext ew764
        have hbw13 := hbw13.ext ew764
        have hc1w13 := hc1w13.ext ew764
        have hbw24 := hbw24.ext ew764
        have hbw694 := hbw694.ext ew764
        have fw13 := fw13.ext ew764
        have fw19 := fw19.ext ew764
        have fw730 := fw730.ext ew764
        have fw757_0 := fw757_0.ext ew764
        have e := Only.trans e ew764
        have er := Only.trans er ew764
        have zw764 := ew764.size
        refine ⟨⟨_, hbw2.cell 0, _, hbw2.cell 1, _, hbw2.cell 2, rfl⟩, ?_⟩
        refine ⟨⟨_, hbw24.cell 0, _, hbw24.cell 1, ryw19_2, hbw24.cell 2, ryw19_3, hbw24.cell 3, rfl⟩, ?_⟩
        refine ⟨?_, ?_⟩
        ·
         refine put_step hbw764 rfl rfl (fun w772 ow772 hbw764q nw772 => ?_)
         have hbw1 := hbw1.only ow772 (by omega)
         have hbw2 := hbw2.only ow772 (by omega)
         have hbw13 := hbw13.only ow772 (by omega)
         have hc1w13 := hc1w13.only ow772 (by omega)
         have hbw24 := hbw24.only ow772 (by omega)
         have hbw694 := hbw694.only ow772 (by omega)
         have fw13 := fw13.only ow772 (fun k h1 h2 => by omega)
         have fw19 := fw19.only ow772 (fun k h1 h2 => by omega)
         have fw730 := fw730.only ow772 (fun k h1 h2 => by omega)
         have fw757_0 := fw757_0.only ow772 (fun k h1 h2 => by omega)
         have e := Ext.own e ow772 (fun k hk => by omega)
         have er := Ext.own er ow772 (fun k hk => by omega)
         have hbw764 := hbw764q
         refine ⟨?_, ?_⟩
         ·
          refine put_step hbw694 rfl rfl (fun w773 ow773 hbw694q nw773 => ?_)
          have hbw1 := hbw1.only ow773 (by omega)
          have hbw2 := hbw2.only ow773 (by omega)
          have hbw13 := hbw13.only ow773 (by omega)
          have hc1w13 := hc1w13.only ow773 (by omega)
          have hbw24 := hbw24.only ow773 (by omega)
          have hbw764 := hbw764.only ow773 (by omega)
          have fw13 := fw13.only ow773 (fun k h1 h2 => by omega)
          have fw19 := fw19.only ow773 (fun k h1 h2 => by omega)
          have fw730 := fw730.only ow773 (fun k h1 h2 => by omega)
          have fw757_0 := fw757_0.only ow773 (fun k h1 h2 => by omega)
          have e := Ext.own e ow773 (fun k hk => by omega)
          have er := Ext.own er ow773 (fun k hk => by omega)
          have hbw694 := hbw694q
          have hbl := hbw764.lt
          have hcl1 := hbw694.lt
          exact ⟨_, _, _, _, _, rfl, rfl, by omega, by omega, by omega, by omega, hbl, by omega, hcl1, by omega, by omega, hbw694, hbw764, fw757_0, er⟩
         ·
          trivial
        ·
         trivial
       ·
        trivial
      ·
       refine ⟨?_, ?_⟩
       ·
        refine alloc_step (fun w738 ew738 hbw738 nw738 => ?_)
        have hbw1 := hbw1.ext ew738
        have hbw2 := hbw2.ext ew738
        have hbw13 := hbw13.ext ew738
        have hc1w13 := hc1w13.ext ew738
        have hbw24 := hbw24.ext ew738
        have hbw694 := hbw694.ext ew738
        have fw13 := fw13.ext ew738
        have fw19 := fw19.ext ew738
        have fw730 := fw730.ext ew738
        have e := Only.trans e ew738
        have er := Only.trans er ew738
        have zw738 := ew738.size
        refine ⟨⟨_, hbw2.cell 0, _, hbw2.cell 1, _, hbw2.cell 2, rfl⟩, ?_⟩
        refine ⟨⟨_, hbw24.cell 0, _, hbw24.cell 1, ryw19_2, hbw24.cell 2, ryw19_3, hbw24.cell 3, rfl⟩, ?_⟩
        refine ⟨?_, ?_⟩
        ·
         refine (implSchedStep fw19.is sz0 fw730.is).mono ?_
         rintro _ w747 ⟨yw747_0, rfl, fw747_0, ew747⟩
         have hbw1 := hbw1.ext ew747
         have hbw2 := hbw2.ext ew747
         have hbw13 := hbw13.ext ew747
         have hc1w13 := hc1w13.ext ew747
         have hbw24 := hbw24.ext ew747
         have hbw694 := hbw694.ext ew747
         have hbw738 := hbw738.ext ew747
         have fw13 := fw13.ext ew747
         have fw19 := fw19.ext ew747
         have fw730 := fw730.ext ew747
         have e := Only.trans e ew747
         have er := Only.trans er ew747
         have zw747 := ew747.size
         have hiyw747_0 := fw747_0.is
         obtain ⟨ryw747_0_2, ryw747_0_3, rfl, _, _, _, _⟩ := cells_Sched hiyw747_0
         refine ⟨_, _, ryw747_0_2, ryw747_0_3, _, _, rfl, ?_⟩
         refine ⟨?_, ?_⟩
         ·
          refine put_step hbw738 rfl rfl (fun w754 ow754 hbw738q nw754 => ?_)
          have hbw1 := hbw1.only ow754 (by omega)
          have hbw2 := hbw2.only ow754 (by omega)
          have hbw13 := hbw13.only ow754 (by omega)
          have hc1w13 := hc1w13.only ow754 (by omega)
          have hbw24 := hbw24.only ow754 (by omega)
          have hbw694 := hbw694.only ow754 (by omega)
          have fw13 := fw13.only ow754 (fun k h1 h2 => by omega)
          have fw19 := fw19.only ow754 (fun k h1 h2 => by omega)
          have fw730 := fw730.only ow754 (fun k h1 h2 => by omega)
          have fw747_0 := fw747_0.only ow754 (fun k h1 h2 => by omega)
          have e := Ext.own e ow754 (fun k hk => by omega)
          have er := Ext.own er ow754 (fun k hk => by omega)
          have hbw738 := hbw738q
          refine ⟨?_, ?_⟩
          ·
           refine put_step hbw694 rfl rfl (fun w755 ow755 hbw694q nw755 => ?_)
           have hbw1 := hbw1.only ow755 (by omega)
           have hbw2 := hbw2.only ow755 (by omega)
           have hbw13 := hbw13.only ow755 (by omega)
           have hc1w13 := hc1w13.only ow755 (by omega)
           have hbw24 := hbw24.only ow755 (by omega)
           have hbw738 := hbw738.only ow755 (by omega)
           have fw13 := fw13.only ow755 (fun k h1 h2 => by omega)
           have fw19 := fw19.only ow755 (fun k h1 h2 => by omega)
           have fw730 := fw730.only ow755 (fun k h1 h2 => by omega)
           have fw747_0 := fw747_0.only ow755 (fun k h1 h2 => by omega)
           have e := Ext.own e ow755 (fun k hk => by omega)
           have er := Ext.own er ow755 (fun k hk => by omega)
           have hbw694 := hbw694q
           have hbl := hbw738.lt
           have hcl1 := hbw694.lt
           exact ⟨_, _, _, _, _, rfl, rfl, by omega, by omega, by omega, by omega, hbl, by omega, hcl1, by omega, by omega, hbw694, hbw738, fw747_0, er⟩
          ·
           trivial
         ·
          trivial
        ·
         trivial
       ·
        trivial
     ·
      refine ⟨?_, ?_⟩
      ·
       refine alloc_step (fun w702 ew702 hbw702 nw702 => ?_)
       have hbw1 := hbw1.ext ew702
       have hbw2 := hbw2.ext ew702
       have hbw13 := hbw13.ext ew702
       have hc1w13 := hc1w13.ext ew702
       have hbw24 := hbw24.ext ew702
       have hbw694 := hbw694.ext ew702
       have fw13 := fw13.ext ew702
       have fw19 := fw19.ext ew702
       have e := Only.trans e ew702
       have er := Only.trans er ew702
       have zw702 := ew702.size
       refine ⟨⟨_, hbw2.cell 0, _, hbw2.cell 1, _, hbw2.cell 2, rfl⟩, ?_⟩
       refine ⟨⟨_, hbw24.cell 0, _, hbw24.cell 1, ryw19_2, hbw24.cell 2, ryw19_3, hbw24.cell 3, rfl⟩, ?_⟩
       refine ⟨?_, ?_⟩
       ·
        refine (c23 (DSchedOp.has _) (IsD.ext e _ _ h1) (by have := op_sz op; omega)).mono ?_
        rintro _ w711 ⟨yw711, rfl, fw711, ew711⟩
        have hbw1 := hbw1.ext ew711
        have hbw2 := hbw2.ext ew711
        have hbw13 := hbw13.ext ew711
        have hc1w13 := hc1w13.ext ew711
        have hbw24 := hbw24.ext ew711
        have hbw694 := hbw694.ext ew711
        have hbw702 := hbw702.ext ew711
        have fw13 := fw13.ext ew711
        have fw19 := fw19.ext ew711
        have e := Only.trans e ew711
        have er := Only.trans er ew711
        have zw711 := ew711.size
        have hiyw711 := fw711.is
        obtain ⟨rfl, _, _, _⟩ := cells_SchedOp hiyw711
        refine ⟨_, _, _, rfl, ?_⟩
        refine ⟨⟨_, hbw24.cell 0, _, hbw24.cell 1, ryw19_2, hbw24.cell 2, ryw19_3, hbw24.cell 3, rfl⟩, ?_⟩
        refine ⟨?_, ?_⟩
        ·
         refine (implSchedStep fw19.is sz0 fw711.is).mono ?_
         rintro _ w720 ⟨yw720_0, rfl, fw720_0, ew720⟩
         have hbw1 := hbw1.ext ew720
         have hbw2 := hbw2.ext ew720
         have hbw13 := hbw13.ext ew720
         have hc1w13 := hc1w13.ext ew720
         have hbw24 := hbw24.ext ew720
         have hbw694 := hbw694.ext ew720
         have hbw702 := hbw702.ext ew720
         have fw13 := fw13.ext ew720
         have fw19 := fw19.ext ew720
         have fw711 := fw711.ext ew720
         have e := Only.trans e ew720
         have er := Only.trans er ew720
         have zw720 := ew720.size
         have hiyw720_0 := fw720_0.is
         obtain ⟨ryw720_0_2, ryw720_0_3, rfl, _, _, _, _⟩ := cells_Sched hiyw720_0
         refine ⟨_, _, ryw720_0_2, ryw720_0_3, _, _, rfl, ?_⟩
         refine ⟨?_, ?_⟩
         ·
          refine put_step hbw702 rfl rfl (fun w727 ow727 hbw702q nw727 => ?_)
          have hbw1 := hbw1.only ow727 (by omega)
          have hbw2 := hbw2.only ow727 (by omega)
          have hbw13 := hbw13.only ow727 (by omega)
          have hc1w13 := hc1w13.only ow727 (by omega)
          have hbw24 := hbw24.only ow727 (by omega)
          have hbw694 := hbw694.only ow727 (by omega)
          have fw13 := fw13.only ow727 (fun k h1 h2 => by omega)
          have fw19 := fw19.only ow727 (fun k h1 h2 => by omega)
          have fw711 := fw711.only ow727 (fun k h1 h2 => by omega)
          have fw720_0 := fw720_0.only ow727 (fun k h1 h2 => by omega)
          have e := Ext.own e ow727 (fun k hk => by omega)
          have er := Ext.own er ow727 (fun k hk => by omega)
          have hbw702 := hbw702q
          refine ⟨?_, ?_⟩
          ·
           refine put_step hbw694 rfl rfl (fun w728 ow728 hbw694q nw728 => ?_)
           have hbw1 := hbw1.only ow728 (by omega)
           have hbw2 := hbw2.only ow728 (by omega)
           have hbw13 := hbw13.only ow728 (by omega)
           have hc1w13 := hc1w13.only ow728 (by omega)
           have hbw24 := hbw24.only ow728 (by omega)
           have hbw702 := hbw702.only ow728 (by omega)
           have fw13 := fw13.only ow728 (fun k h1 h2 => by omega)
           have fw19 := fw19.only ow728 (fun k h1 h2 => by omega)
           have fw711 := fw711.only ow728 (fun k h1 h2 => by omega)
           have fw720_0 := fw720_0.only ow728 (fun k h1 h2 => by omega)
           have e := Ext.own e ow728 (fun k hk => by omega)
           have er := Ext.own er ow728 (fun k hk => by omega)
           have hbw694 := hbw694q
           have hbl := hbw702.lt
           have hcl1 := hbw694.lt
           exact ⟨_, _, _, _, _, rfl, rfl, by omega, by omega, by omega, by omega, hbl, by omega, hcl1, by omega, by omega, hbw694, hbw702, fw720_0, er⟩
          ·
           trivial
         ·
          trivial
        ·
         trivial
       ·
        trivial
      ·
       trivial
    ·
     trivial
 rintro (p26 : Option Addr) (p27 : Option Addr) w29 ⟨bw29, low29, hiw29, yw29, c1w29, rfl, rfl, hxw29, hlow29, hhiw29, hdsw29, hblw29, hcx1w29, hcl1w29, hcb1w29, hcd1w29, hc1w29, hbw29, fw29, erw29⟩
 have hbw1 := hbw1.ext erw29
 have hbw2 := hbw2.ext erw29
 have hbw13 := hbw13.ext erw29
 have hc1w13 := hc1w13.ext erw29
 have hbw24 := hbw24.ext erw29
 have fw13 := fw13.ext erw29
 have fw19 := fw19.ext erw29
 have e := Only.trans e erw29
 have zw29 := erw29.size
 have hiyw29 := fw29.is
 obtain ⟨ryw29_2, ryw29_3, rfl, _, _, _, _⟩ := cells_Sched hiyw29
 refine addrOf_mk ?_
 refine ⟨_, hbw29.cell 0, ?_⟩
 refine ⟨_, hbw29.cell 1, ?_⟩
 refine ⟨ryw29_2, hbw29.cell 2, ?_⟩
 refine ⟨ryw29_3, hbw29.cell 3, ?_⟩
 refine addrOf_mk ?_
 refine ⟨_, hbw13.cell 0, ?_⟩
 refine ⟨_, hbw13.cell 1, ?_⟩
 refine ⟨ryw13_2, hbw13.cell 2, ?_⟩
 refine ⟨ryw13_3, hbw13.cell 3, ?_⟩
 refine (c25 (DSched.has _) fw29.is fw13.is).mono ?_
 rintro _ w41 ⟨rfl, ew41⟩
 have hbw1 := hbw1.ext ew41
 have hbw2 := hbw2.ext ew41
 have hbw13 := hbw13.ext ew41
 have hc1w13 := hc1w13.ext ew41
 have hbw24 := hbw24.ext ew41
 have hbw29 := hbw29.ext ew41
 have hc1w29 := hc1w29.ext ew41
 have fw13 := fw13.ext ew41
 have fw19 := fw19.ext ew41
 have fw29 := fw29.ext ew41
 have e := Only.trans e ew41
 have zw41 := ew41.size
 refine ⟨_, rfl, ?_⟩
 refine JoinW.each ?_
 refine BIf.f rfl ?_
 refine addrOf_mk ?_
 refine ⟨_, hc1w29.cell 0, ?_⟩
 refine ⟨_, hc1w29.cell 1, ?_⟩
 refine addrOf_mk ?_
 refine ⟨_, hc1w13.cell 0, ?_⟩
 refine ⟨_, hc1w13.cell 1, ?_⟩
 refine (c26 (DSchedRes.has _) ((stepA_is x op) _) ((stepA_is x op) _)).mono ?_
 rintro _ w685 ⟨rfl, ew685⟩
 have hbw1 := hbw1.ext ew685
 have hbw2 := hbw2.ext ew685
 have hbw13 := hbw13.ext ew685
 have hc1w13 := hc1w13.ext ew685
 have hbw24 := hbw24.ext ew685
 have hbw29 := hbw29.ext ew685
 have hc1w29 := hc1w29.ext ew685
 have fw13 := fw13.ext ew685
 have fw19 := fw19.ext ew685
 have fw29 := fw29.ext ew685
 have e := Only.trans e ew685
 have zw685 := ew685.size
 refine ⟨_, rfl, ?_⟩
 refine BIf.f (by first | (simp; done) | (simp; omega)) ?_
 have ed := ext_drew w685
 have hbw1 := hbw1.ext ed
 have hbw2 := hbw2.ext ed
 have hbw13 := hbw13.ext ed
 have hc1w13 := hc1w13.ext ed
 have hbw24 := hbw24.ext ed
 have hbw29 := hbw29.ext ed
 have hc1w29 := hc1w29.ext ed
 have fw13 := fw13.ext ed
 have fw19 := fw19.ext ed
 have fw29 := fw29.ext ed
 have e := Only.trans e ed
 have zw685_drew := ed.size
 refine ⟨_, hbw24.cell 0, ?_⟩
 refine ⟨_, hbw24.cell 1, ?_⟩
 refine ⟨ryw19_2, hbw24.cell 2, ?_⟩
 refine ⟨ryw19_3, hbw24.cell 3, ?_⟩
 refine ⟨_, hbw1.cell 0, ?_⟩
 refine ⟨_, hbw1.cell 1, ?_⟩
 refine ⟨p0_2, hbw1.cell 2, ?_⟩
 refine ⟨p0_3, hbw1.cell 3, ?_⟩
 refine (c22 (DSched.has _) (IsD.ext e _ _ h0) (by have := sz0; omega)).mono ?_
 rintro _ w55 ⟨yw55, rfl, fw55, ew55⟩
 have hbw1 := hbw1.ext ew55
 have hbw2 := hbw2.ext ew55
 have hbw13 := hbw13.ext ew55
 have hc1w13 := hc1w13.ext ew55
 have hbw24 := hbw24.ext ew55
 have hbw29 := hbw29.ext ew55
 have hc1w29 := hc1w29.ext ew55
 have fw13 := fw13.ext ew55
 have fw19 := fw19.ext ew55
 have fw29 := fw29.ext ew55
 have e := Only.trans e ew55
 have zw55 := ew55.size
 have hiyw55 := fw55.is
 obtain ⟨ryw55_2, ryw55_3, rfl, _, _, _, _⟩ := cells_Sched hiyw55
 refine ⟨_, _, ryw55_2, ryw55_3, rfl, ?_⟩
 refine ⟨⟨_, hbw24.cell 0, _, hbw24.cell 1, ryw19_2, hbw24.cell 2, ryw19_3, hbw24.cell 3, rfl⟩, ?_⟩
 refine (c25 (DSched.has _) fw19.is fw55.is).mono ?_
 rintro _ w65 ⟨rfl, ew65⟩
 have hbw1 := hbw1.ext ew65
 have hbw2 := hbw2.ext ew65
 have hbw13 := hbw13.ext ew65
 have hc1w13 := hc1w13.ext ew65
 have hbw24 := hbw24.ext ew65
 have hbw29 := hbw29.ext ew65
 have hc1w29 := hc1w29.ext ew65
 have fw13 := fw13.ext ew65
 have fw19 := fw19.ext ew65
 have fw29 := fw29.ext ew65
 have fw55 := fw55.ext ew65
 have e := Only.trans e ew65
 have zw65 := ew65.size
 refine ⟨_, rfl, ?_⟩
 refine BIf.f rfl ?_
 refine ⟨_, hbw24.cell 0, ?_⟩
 refine ⟨_, hbw24.cell 1, ?_⟩
 refine ⟨ryw19_2, hbw24.cell 2, ?_⟩
 refine ⟨ryw19_3, hbw24.cell 3, ?_⟩
 obtain ⟨bsw72, oww72, ndw72, rgw72⟩ := fw19
 refine (c27 (DSched.has _) oww72 ndw72 (by omega) (by have := sz0; have := sched_cnt sz0; (try simp only [Dat.cntT, Dat.cntTs] at *); omega)).mono ?_
 rintro _ w72 ⟨rfl, dw72, cnw72, hsw72, mkw72, oww72, ow72⟩
 have hbw1 := hbw1.only ow72 (fun hk => by have := rgw72 _ hk; omega)
 have hbw2 := hbw2.only ow72 (fun hk => by have := rgw72 _ hk; omega)
 have hbw13 := hbw13.only ow72 (fun hk => by have := rgw72 _ hk; omega)
 have hc1w13 := hc1w13.only ow72 (fun hk => by have := rgw72 _ hk; omega)
 have hbw24 := hbw24.only ow72 (fun hk => by have := rgw72 _ hk; omega)
 have hbw29 := hbw29.only ow72 (fun hk => by have := rgw72 _ hk; omega)
 have hc1w29 := hc1w29.only ow72 (fun hk => by have := rgw72 _ hk; omega)
 have fw13 := fw13.only ow72 (fun k h1 h2 hk => by have := rgw72 k hk; omega)
 have fw29 := fw29.only ow72 (fun k h1 h2 hk => by have := rgw72 k hk; omega)
 have fw55 := fw55.only ow72 (fun k h1 h2 hk => by have := rgw72 k hk; omega)
 have e := Ext.own e ow72 (fun k hk => by have := rgw72 k hk; omega)
 have zw72 := ow72.size
 have fw72 : Fr _ _ w72 dw72 _ := ⟨bsw72, oww72, ndw72, rgw72⟩
 refine ⟨_, rfl, ?_⟩
 refine JoinW.each ?_
 refine BIf.f (decide_eq_false (by omega)) ?_
 refine addrOf_mk ?_
 refine ⟨_, hbw29.cell 0, ?_⟩
 refine ⟨_, hbw29.cell 1, ?_⟩
 refine ⟨ryw29_2, hbw29.cell 2, ?_⟩
 refine ⟨ryw29_3, hbw29.cell 3, ?_⟩
 refine addrOf_mk ?_
 refine ⟨_, hbw13.cell 0, ?_⟩
 refine ⟨_, hbw13.cell 1, ?_⟩
 refine ⟨ryw13_2, hbw13.cell 2, ?_⟩
 refine ⟨ryw13_3, hbw13.cell 3, ?_⟩
 refine (c25 (DSched.has _) fw29.is fw13.is).mono ?_
 rintro _ w676 ⟨rfl, ew676⟩
 have hbw1 := hbw1.ext ew676
 have hbw2 := hbw2.ext ew676
 have hbw13 := hbw13.ext ew676
 have hc1w13 := hc1w13.ext ew676
 have hbw24 := hbw24.ext ew676
 have hbw29 := hbw29.ext ew676
 have hc1w29 := hc1w29.ext ew676
 have fw13 := fw13.ext ew676
 have fw29 := fw29.ext ew676
 have fw55 := fw55.ext ew676
 have fw72 := fw72.ext ew676
 have e := Only.trans e ew676
 have zw676 := ew676.size
 refine ⟨_, rfl, ?_⟩
 refine JoinW.each ?_
 refine BIf.f (by first | (simp; done) | (simp; omega)) ?_
 refine addrOf_mk ?_
 refine ⟨_, hc1w29.cell 0, ?_⟩
 refine ⟨_, hc1w29.cell 1, ?_⟩
 refine addrOf_mk ?_
 refine ⟨_, hc1w13.cell 0, ?_⟩
 refine ⟨_, hc1w13.cell 1, ?_⟩
 refine (c26 (DSchedRes.has _) ((stepA_is x op) _) ((stepA_is x op) _)).mono ?_
 rintro _ w663 ⟨rfl, ew663⟩
 have hbw1 := hbw1.ext ew663
 have hbw2 := hbw2.ext ew663
 have hbw13 := hbw13.ext ew663
 have hc1w13 := hc1w13.ext ew663
 have hbw24 := hbw24.ext ew663
 have hbw29 := hbw29.ext ew663
 have hc1w29 := hc1w29.ext ew663
 have fw13 := fw13.ext ew663
 have fw29 := fw29.ext ew663
 have fw55 := fw55.ext ew663
 have fw72 := fw72.ext ew663
 have e := Only.trans e ew663
 have zw663 := ew663.size
 refine ⟨_, rfl, ?_⟩
 refine BIf.f (by first | (simp; done) | (simp; omega)) ?_
 refine addrOf_mk ?_
 refine ⟨_, hbw29.cell 0, ?_⟩
 refine ⟨_, hbw29.cell 1, ?_⟩
 refine ⟨ryw29_2, hbw29.cell 2, ?_⟩
 refine ⟨ryw29_3, hbw29.cell 3, ?_⟩
 obtain ⟨bsw86, oww86, ndw86, rgw86⟩ := fw29
 refine (c27 (DSched.has _) oww86 ndw86 (by omega) (by have := stepD_cnt x op; omega)).mono ?_
 rintro _ w86 ⟨rfl, dw86, cnw86, hsw86, mkw86, oww86, ow86⟩
 have hbw1 := hbw1.only ow86 (fun hk => by have := rgw86 _ hk; omega)
 have hbw2 := hbw2.only ow86 (fun hk => by have := rgw86 _ hk; omega)
 have hbw13 := hbw13.only ow86 (fun hk => by have := rgw86 _ hk; omega)
 have hc1w13 := hc1w13.only ow86 (fun hk => by have := rgw86 _ hk; omega)
 have hbw24 := hbw24.only ow86 (fun hk => by have := rgw86 _ hk; omega)
 have hbw29 := hbw29.only ow86 (fun hk => by have := rgw86 _ hk; omega)
 have hc1w29 := hc1w29.only ow86 (fun hk => by have := rgw86 _ hk; omega)
 have fw13 := fw13.only ow86 (fun k h1 h2 hk => by have := rgw86 k hk; omega)
 have fw55 := fw55.only ow86 (fun k h1 h2 hk => by have := rgw86 k hk; omega)
 have fw72 := fw72.only ow86 (fun k h1 h2 hk => by have := rgw86 k hk; omega)
 have e := Ext.own e ow86 (fun k hk => by have := rgw86 k hk; omega)
 have zw86 := ow86.size
 have fw86 : Fr _ _ w86 dw86 _ := ⟨bsw86, oww86, ndw86, rgw86⟩
 refine ⟨_, rfl, ?_⟩
 refine addrOf_mk ?_
 refine ⟨_, hbw29.cell 0, ?_⟩
 refine ⟨_, hbw29.cell 1, ?_⟩
 refine ⟨ryw29_2, hbw29.cell 2, ?_⟩
 refine ⟨ryw29_3, hbw29.cell 3, ?_⟩
 refine (c28 hsw86 fw86.is mkw86 (by omega) (by have := cnw86; have := stepD_cnt x op; omega)).mono ?_
 rintro _ w94 ⟨rfl, ew94⟩
 have hbw1 := hbw1.ext ew94
 have hbw2 := hbw2.ext ew94
 have hbw13 := hbw13.ext ew94
 have hc1w13 := hc1w13.ext ew94
 have hbw24 := hbw24.ext ew94
 have hbw29 := hbw29.ext ew94
 have hc1w29 := hc1w29.ext ew94
 have fw13 := fw13.ext ew94
 have fw55 := fw55.ext ew94
 have fw72 := fw72.ext ew94
 have fw86 := fw86.ext ew94
 have e := Only.trans e ew94
 have zw94 := ew94.size
 refine ⟨_, rfl, ?_⟩
 refine BIf.f (decide_eq_false (by omega)) ?_
 refine BIf.f (by first | (simp; done) | (simp; omega)) ?_
 refine JoinW.cut2 (fun (p96 : Option Addr) (p97 : Option Addr) w' => ∃ (b lo hi : Nat) (y : List Value) (c1 : Nat), p96 = some ⟨b, 0, none⟩ ∧ p97 = some ⟨c1, 0, none⟩ ∧ w94.heap.size ≤ b ∧ w94.heap.size ≤ lo ∧ hi ≤ w'.heap.size ∧ (b < lo ∨ hi ≤ b) ∧ b < w'.heap.size ∧ w94.heap.size ≤ c1 ∧ c1 < w'.heap.size ∧ b ≠ c1 ∧ (c1 < lo ∨ hi ≤ c1) ∧ Blk w' c1 [.int .i64 (stepA x op).Code, .int .i64 (stepA x op).N] ∧ Blk w' b y ∧ Fr lo hi w' (stepD x op).dat y ∧ Ext w94 w') ?_ ?_
 ·
  have er : Ext w94 w94 := Only.refl _ _
  have zr0 : w94.heap.size ≤ w94.heap.size := Nat.le_refl _
  have ed := ext_drew w94
  have hbw1 := hbw1.ext ed
  have hbw2 := hbw2.ext ed
  have hbw13 := hbw13.ext ed
  have hc1w13 := hc1w13.ext ed
  have hbw24 := hbw24.ext ed
  have hbw29 := hbw29.ext ed
  have hc1w29 := hc1w29.ext ed
  have fw13 := fw13.ext ed
  have fw55 := fw55.ext ed
  have fw72 := fw72.ext ed
  have fw86 := fw86.ext ed
  have e := Only.trans e ed
  have er := Only.trans er ed
  have zw94_drew := ed.size
  refine ⟨_, hbw1.cell 0, ?_⟩
  refine ⟨_, hbw1.cell 1, ?_⟩
  refine ⟨p0_2, hbw1.cell 2, ?_⟩
  refine ⟨p0_3, hbw1.cell 3, ?_⟩
  refine ⟨_, hbw2.cell 0, ?_⟩
  refine ⟨_, hbw2.cell 1, ?_⟩
  refine ⟨_, hbw2.cell 2, ?_⟩
  refine ⟨?_, ?_⟩
  ·
   refine (c22 (DSched.has _) (IsD.ext e _ _ h0) (by have := sz0; omega)).mono ?_
   rintro _ w367 ⟨yw367, rfl, fw367, ew367⟩
   have hbw1 := hbw1.ext ew367
   have hbw2 := hbw2.ext ew367
   have hbw13 := hbw13.ext ew367
   have hc1w13 := hc1w13.ext ew367
   have hbw24 := hbw24.ext ew367
   have hbw29 := hbw29.ext ew367
   have hc1w29 := hc1w29.ext ew367
   have fw13 := fw13.ext ew367
   have fw55 := fw55.ext ew367
   have fw72 := fw72.ext ew367
   have fw86 := fw86.ext ew367
   have e := Only.trans e ew367
   have er := Only.trans er ew367
   have zw367 := ew367.size
   have hiyw367 := fw367.is
   obtain ⟨ryw367_2, ryw367_3, rfl, _, _, _, _⟩ := cells_Sched hiyw367
   refine ⟨_, _, ryw367_2, ryw367_3, rfl, ?_⟩
   refine ⟨⟨_, hbw2.cell 0, _, hbw2.cell 1, _, hbw2.cell 2, rfl⟩, ?_⟩
   refine ⟨?_, ?_⟩
   ·
    refine (c23 (DSchedOp.has _) (IsD.ext e _ _ h1) (by have := op_sz op; omega)).mono ?_
    rintro _ w520 ⟨yw520, rfl, fw520, ew520⟩
    have hbw1 := hbw1.ext ew520
    have hbw2 := hbw2.ext ew520
    have hbw13 := hbw13.ext ew520
    have hc1w13 := hc1w13.ext ew520
    have hbw24 := hbw24.ext ew520
    have hbw29 := hbw29.ext ew520
    have hc1w29 := hc1w29.ext ew520
    have fw13 := fw13.ext ew520
    have fw55 := fw55.ext ew520
    have fw72 := fw72.ext ew520
    have fw86 := fw86.ext ew520
    have fw367 := fw367.ext ew520
    have e := Only.trans e ew520
    have er := Only.trans er ew520
    have zw520 := ew520.size
    have hiyw520 := fw520.is
    obtain ⟨rfl, _, _, _⟩ := cells_SchedOp hiyw520
    refine ⟨_, _, _, rfl, ?_⟩
    refine ⟨?_, ?_⟩
    ·
     refine (implSchedStep fw367.is sz0 fw520.is).mono ?_
     rintro _ w613 ⟨yw613_0, rfl, fw613_0, ew613⟩
     have hbw1 := hbw1.ext ew613
     have hbw2 := hbw2.ext ew613
     have hbw13 := hbw13.ext ew613
     have hc1w13 := hc1w13.ext ew613
     have hbw24 := hbw24.ext ew613
     have hbw29 := hbw29.ext ew613
     have hc1w29 := hc1w29.ext ew613
     have fw13 := fw13.ext ew613
     have fw55 := fw55.ext ew613
     have fw72 := fw72.ext ew613
     have fw86 := fw86.ext ew613
     have fw367 := fw367.ext ew613
     have fw520 := fw520.ext ew613
     have e := Only.trans e ew613
     have er := Only.trans er ew613
     have zw613 := ew613.size
     have hiyw613_0 := fw613_0.is
     obtain ⟨ryw613_0_2, ryw613_0_3, rfl, _, _, _, _⟩ := cells_Sched hiyw613_0
     refine ⟨_, _, ryw613_0_2, ryw613_0_3, _, _, rfl, ?_⟩
     refine ⟨?_, ?_⟩
     ·
      refine alloc_step (fun w638 ew638 hbw638 nw638 => ?_)
      have hbw1 := hbw1.ext ew638
      have hbw2 := hbw2.ext ew638
      have hbw13 := hbw13.ext ew638
      have hc1w13 := hc1w13.ext ew638
      have hbw24 := hbw24.ext ew638
      have hbw29 := hbw29.ext ew638
      have hc1w29 := hc1w29.ext ew638
      have fw13 := fw13.ext ew638
      have fw55 := fw55.ext ew638
      have fw72 := fw72.ext ew638
      have fw86 := fw86.ext ew638
      have fw367 := fw367.ext ew638
      have fw520 := fw520.ext ew638
      have fw613_0 := fw613_0.ext ew638
      have e := Only.trans e ew638
      have er := Only.trans er ew638
      have zw638 := ew638.size
      refine ⟨⟨_, hbw2.cell 0, _, hbw2.cell 1, _, hbw2.cell 2, rfl⟩, ?_⟩
      refine ⟨⟨_, hbw1.cell 0, _, hbw1.cell 1, p0_2, hbw1.cell 2, p0_3, hbw1.cell 3, rfl⟩, ?_⟩
      refine ⟨?_, ?_⟩
      ·
       refine alloc_step (fun w646 ew646 hbw646 nw646 => ?_)
       have hbw1 := hbw1.ext ew646
       have hbw2 := hbw2.ext ew646
       have hbw13 := hbw13.ext ew646
       have hc1w13 := hc1w13.ext ew646
       have hbw24 := hbw24.ext ew646
       have hbw29 := hbw29.ext ew646
       have hc1w29 := hc1w29.ext ew646
       have hbw638 := hbw638.ext ew646
       have fw13 := fw13.ext ew646
       have fw55 := fw55.ext ew646
       have fw72 := fw72.ext ew646
       have fw86 := fw86.ext ew646
       have fw367 := fw367.ext ew646
       have fw520 := fw520.ext ew646
       have fw613_0 := fw613_0.ext ew646
       have e := Only.trans e ew646
       have er := Only.trans er ew646
       have zw646 := ew646.size
       refine ⟨⟨_, hbw2.cell 0, _, hbw2.cell 1, _, hbw2.cell 2, rfl⟩, ?_⟩
       refine ⟨⟨_, hbw1.cell 0, _, hbw1.cell 1, p0_2, hbw1.cell 2, p0_3, hbw1.cell 3, rfl⟩, ?_⟩
       refine ⟨?_, ?_⟩
       ·
        refine put_step hbw638 rfl rfl (fun w654 ow654 hbw638q nw654 => ?_)
        have hbw1 := hbw1.only ow654 (by omega)
        have hbw2 := hbw2.only ow654 (by omega)
        have hbw13 := hbw13.only ow654 (by omega)
        have hc1w13 := hc1w13.only ow654 (by omega)
        have hbw24 := hbw24.only ow654 (by omega)
        have hbw29 := hbw29.only ow654 (by omega)
        have hc1w29 := hc1w29.only ow654 (by omega)
        have hbw646 := hbw646.only ow654 (by omega)
        have fw13 := fw13.only ow654 (fun k h1 h2 => by omega)
        have fw55 := fw55.only ow654 (fun k h1 h2 => by omega)
        have fw72 := fw72.only ow654 (fun k h1 h2 => by omega)
        have fw86 := fw86.only ow654 (fun k h1 h2 => by omega)
        have fw367 := fw367.only ow654 (fun k h1 h2 => by omega)
        have fw520 := fw520.only ow654 (fun k h1 h2 => by omega)
        have fw613_0 := fw613_0.only ow654 (fun k h1 h2 => by omega)
        have e := Ext.own e ow654 (fun k hk => by omega)
        have er := Ext.own er ow654 (fun k hk => by omega)
        have hbw638 := hbw638q
        refine ⟨?_, ?_⟩
        ·
         refine put_step hbw646 rfl rfl (fun w655 ow655 hbw646q nw655 => ?_)
         have hbw1 := hbw1.only ow655 (by omega)
         have hbw2 := hbw2.only ow655 (by omega)
         have hbw13 := hbw13.only ow655 (by omega)
         have hc1w13 := hc1w13.only ow655 (by omega)
         have hbw24 := hbw24.only ow655 (by omega)
         have hbw29 := hbw29.only ow655 (by omega)
         have hc1w29 := hc1w29.only ow655 (by omega)
         have hbw638 := hbw638.only ow655 (by omega)
         have fw13 := fw13.only ow655 (fun k h1 h2 => by omega)
         have fw55 := fw55.only ow655 (fun k h1 h2 => by omega)
         have fw72 := fw72.only ow655 (fun k h1 h2 => by omega)
         have fw86 := fw86.only ow655 (fun k h1 h2 => by omega)
         have fw367 := fw367.only ow655 (fun k h1 h2 => by omega)
         have fw520 := fw520.only ow655 (fun k h1 h2 => by omega)
         have fw613_0 := fw613_0.only ow655 (fun k h1 h2 => by omega)
         have e := Ext.own e ow655 (fun k hk => by omega)
         have er := Ext.own er ow655 (fun k hk => by omega)
         have hbw646 := hbw646q
         have hbl := hbw638.lt
         have hcl1 := hbw646.lt
         exact ⟨_, _, _, _, _, rfl, rfl, by omega, by omega, by omega, by omega, hbl, by omega, hcl1, by omega, by omega, hbw646, hbw638, fw613_0, er⟩
        ·
         trivial
       ·
        trivial
      ·
       trivial
     ·
      refine ⟨?_, ?_⟩
      ·
       refine alloc_step (fun w620 ew620 hbw620 nw620 => ?_)
       have hbw1 := hbw1.ext ew620
       have hbw2 := hbw2.ext ew620
       have hbw13 := hbw13.ext ew620
       have hc1w13 := hc1w13.ext ew620
       have hbw24 := hbw24.ext ew620
       have hbw29 := hbw29.ext ew620
       have hc1w29 := hc1w29.ext ew620
       have fw13 := fw13.ext ew620
       have fw55 := fw55.ext ew620
       have fw72 := fw72.ext ew620
       have fw86 := fw86.ext ew620
       have fw367 := fw367.ext ew620
       have fw520 := fw520.ext ew620
       have fw613_0 := fw613_0.ext ew620
       have e := Only.trans e ew620
       have er := Only.trans er ew620
       have zw620 := ew620.size
       refine ⟨⟨_, hbw2.cell 0, _, hbw2.cell 1, _, hbw2.cell 2, rfl⟩, ?_⟩
       refine ⟨⟨_, hbw1.cell 0, _, hbw1.cell 1, p0_2, hbw1.cell 2, p0_3, hbw1.cell 3, rfl⟩, ?_⟩
       refine ⟨?_, ?_⟩
       ·
        refine alloc_step (fun w628 ew628 hbw628 nw628 => ?_)
        have hbw1 := hbw1.ext ew628
        have hbw2 := hbw2.ext ew628
        have hbw13 := hbw13.ext ew628
        have hc1w13 := hc1w13.ext ew628
        have hbw24 := hbw24.ext ew628
        have hbw29 := hbw29.ext ew628
        have hc1w29 := hc1w29.ext ew628
        have hbw620 := hbw620.ext ew628
        have fw13 := fw13.ext ew628
        have fw55 := fw55.ext ew628
        have fw72 := fw72.ext ew628
        have fw86 := fw86.ext ew628
        have fw367 := fw367.ext ew628
        have fw520 := fw520.ext ew628
        have fw613_0 := fw613_0.ext ew628
        have e := Only.trans e ew628
        have er := Only.trans er ew628
        have zw628 := ew628.size
        refine ⟨⟨_, hbw2.cell 0, _, hbw2.cell 1, _, hbw2.cell 2, rfl⟩, ?_⟩
        refine ⟨⟨_, hbw1.cell 0, _, hbw1.cell 1, p0_2, hbw1.cell 2, p0_3, hbw1.cell 3, rfl⟩, ?_⟩
        refine ⟨?_, ?_⟩
        ·
         refine put_step hbw628 rfl rfl (fun w636 ow636 hbw628q nw636 => ?_)
         have hbw1 := hbw1.only ow636 (by omega)
         have hbw2 := hbw2.only ow636 (by omega)
         have hbw13 := hbw13.only ow636 (by omega)
         have hc1w13 := hc1w13.only ow636 (by omega)
         have hbw24 := hbw24.only ow636 (by omega)
         have hbw29 := hbw29.only ow636 (by omega)
         have hc1w29 := hc1w29.only ow636 (by omega)
         have hbw620 := hbw620.only ow636 (by omega)
         have fw13 := fw13.only ow636 (fun k h1 h2 => by omega)
         have fw55 := fw55.only ow636 (fun k h1 h2 => by omega)
         have fw72 := fw72.only ow636 (fun k h1 h2 => by omega)
         have fw86 := fw86.only ow636 (fun k h1 h2 => by omega)
         have fw367 := fw367.only ow636 (fun k h1 h2 => by omega)
         have fw520 := fw520.only ow636 (fun k h1 h2 => by omega)
         have fw613_0 := fw613_0.only ow636 (fun k h1 h2 => by omega)
         have e := Ext.own e ow636 (fun k hk => by omega)
         have er := Ext.own er ow636 (fun k hk => by omega)
         have hbw628 := hbw628q
         refine ⟨?_, ?_⟩
         ·
          refine put_step hbw620 rfl rfl (fun w637 ow637 hbw620q nw637 => ?_)
          have hbw1 := hbw1.only ow637 (by omega)
          have hbw2 := hbw2.only ow637 (by omega)
          have hbw13 := hbw13.only ow637 (by omega)
          have hc1w13 := hc1w13.only ow637 (by omega)
          have hbw24 := hbw24.only ow637 (by omega)
          have hbw29 := hbw29.only ow637 (by omega)
          have hc1w29 := hc1w29.only ow637 (by omega)
          have hbw628 := hbw628.only ow637 (by omega)
          have fw13 := fw13.only ow637 (fun k h1 h2 => by omega)
          have fw55 := fw55.only ow637 (fun k h1 h2 => by omega)
          have fw72 := fw72.only ow637 (fun k h1 h2 => by omega)
          have fw86 := fw86.only ow637 (fun k h1 h2 => by omega)
          have fw367 := fw367.only ow637 (fun k h1 h2 => by omega)
          have fw520 := fw520.only ow637 (fun k h1 h2 => by omega)
          have fw613_0 := fw613_0.only ow637 (fun k h1 h2 => by omega)
          have e := Ext.own e ow637 (fun k hk => by omega)
          have er := Ext.own er ow637 (fun k hk => by omega)
          have hbw620 := hbw620q
          have hbl := hbw628.lt
          have hcl1 := hbw620.lt
          exact ⟨_, _, _, _, _, rfl, rfl, by omega, by omega, by omega, by omega, hbl, by omega, hcl1, by omega, by omega, hbw620, hbw628, fw613_0, er⟩
         ·
          trivial
        ·
         trivial
       ·
        trivial
      ·
       trivial
    ·
     refine ⟨?_, ?_⟩
     ·
      refine alloc_step (fun w568 ew568 hbw568 nw568 => ?_)
      have hbw1 := hbw1.ext ew568
      have hbw2 := hbw2.ext ew568
      have hbw13 := hbw13.ext ew568
      have hc1w13 := hc1w13.ext ew568
      have hbw24 := hbw24.ext ew568
      have hbw29 := hbw29.ext ew568
      have hc1w29 := hc1w29.ext ew568
      have fw13 := fw13.ext ew568
      have fw55 := fw55.ext ew568
      have fw72 := fw72.ext ew568
      have fw86 := fw86.ext ew568
      have fw367 := fw367.ext ew568
      have fw520 := fw520.ext ew568
      have e := Only.trans e ew568
      have er := Only.trans er ew568
      have zw568 := ew568.size
      refine ⟨⟨_, hbw2.cell 0, _, hbw2.cell 1, _, hbw2.cell 2, rfl⟩, ?_⟩
      refine ⟨⟨_, hbw1.cell 0, _, hbw1.cell 1, p0_2, hbw1.cell 2, p0_3, hbw1.cell 3, rfl⟩, ?_⟩
      refine ⟨?_, ?_⟩
      ·
       refine (implSchedStep fw367.is sz0 fw520.is).mono ?_
       rintro _ w595 ⟨yw595_0, rfl, fw595_0, ew595⟩
       have hbw1 := hbw1.ext ew595
       have hbw2 := hbw2.ext ew595
       have hbw13 := hbw13.ext ew595
       have hc1w13 := hc1w13.ext ew595
       have hbw24 := hbw24.ext ew595
       have hbw29 := hbw29.ext ew595
       have hc1w29 := hc1w29.ext ew595
       have hbw568 := hbw568.ext ew595
       have fw13 := fw13.ext ew595
       have fw55 := fw55.ext ew595
       have fw72 := fw72.ext ew595
       have fw86 := fw86.ext ew595
       have fw367 := fw367.ext ew595
       have fw520 := fw520.ext ew595
       have e := Only.trans e ew595
       have er := Only.trans er ew595
       have zw595 := ew595.size
       have hiyw595_0 := fw595_0.is
       obtain ⟨ryw595_0_2, ryw595_0_3, rfl, _, _, _, _⟩ := cells_Sched hiyw595_0
       refine ⟨_, _, ryw595_0_2, ryw595_0_3, _, _, rfl, ?_⟩
       refine ⟨?_, ?_⟩
       ·
        refine alloc_step (fun w602 ew602 hbw602 nw602 => ?_)
        have hbw1 := hbw1.ext ew602
        have hbw2 := hbw2.ext ew602
        have hbw13 := hbw13.ext ew602
        have hc1w13 := hc1w13.ext ew602
        have hbw24 := hbw24.ext ew602
        have hbw29 := hbw29.ext ew602
        have hc1w29 := hc1w29.ext ew602
        have hbw568 := hbw568.ext ew602
        have fw13 := fw13.ext ew602
        have fw55 := fw55.ext ew602
        have fw72 := fw72.ext ew602
        have fw86 := fw86.ext ew602
        have fw367 := fw367.ext ew602
        have fw520 := fw520.ext ew602
        have fw595_0 := fw595_0.ext ew602
        have e := Only.trans e ew602
        have er := Only.trans er ew602
        have zw602 := ew602.size
        refine ⟨⟨_, hbw2.cell 0, _, hbw2.cell 1, _, hbw2.cell 2, rfl⟩, ?_⟩
        refine ⟨⟨_, hbw1.cell 0, _, hbw1.cell 1, p0_2, hbw1.cell 2, p0_3, hbw1.cell 3, rfl⟩, ?_⟩
        refine ⟨?_, ?_⟩
        ·
         refine put_step hbw568 rfl rfl (fun w610 ow610 hbw568q nw610 => ?_)
         have hbw1 := hbw1.only ow610 (by omega)
         have hbw2 := hbw2.only ow610 (by omega)
         have hbw13 := hbw13.only ow610 (by omega)
         have hc1w13 := hc1w13.only ow610 (by omega)
         have hbw24 := hbw24.only ow610 (by omega)
         have hbw29 := hbw29.only ow610 (by omega)
         have hc1w29 := hc1w29.only ow610 (by omega)
         have hbw602 := hbw602.only ow610 (by omega)
         have fw13 := fw13.only ow610 (fun k h1 h2 => by omega)
         have fw55 := fw55.only ow610 (fun k h1 h2 => by omega)
         have fw72 := fw72.only ow610 (fun k h1 h2 => by omega)
         have fw86 := fw86.only ow610 (fun k h1 h2 => by omega)
         have fw367 := fw367.only ow610 (fun k h1 h2 => by omega)
         have fw520 := fw520.only ow610 (fun k h1 h2 => by omega)
         have fw595_0 := fw595_0.only ow610 (fun k h1 h2 => by omega)
         have e := Ext.own e ow610 (fun k hk => by omega)
         have er := Ext.own er ow610 (fun k hk => by omega)
         have hbw568 := hbw568q
         refine ⟨?_, ?_⟩
         ·
          refine put_step hbw602 rfl rfl (fun w611 ow611 hbw602q nw611 => ?_)
          have hbw1 := hbw1.only ow611 (by omega)
          have hbw2 := hbw2.only ow611 (by omega)
          have hbw13 := hbw13.only ow611 (by omega)
          have hc1w13 := hc1w13.only ow611 (by omega)
          have hbw24 := hbw24.only ow611 (by omega)
          have hbw29 := hbw29.only ow611 (by omega)
          have hc1w29 := hc1w29.only ow611 (by omega)
          have hbw568 := hbw568.only ow611 (by omega)
          have fw13 := fw13.only ow611 (fun k h1 h2 => by omega)
          have fw55 := fw55.only ow611 (fun k h1 h2 => by omega)
          have fw72 := fw72.only ow611 (fun k h1 h2 => by omega)
          have fw86 := fw86.only ow611 (fun k h1 h2 => by omega)
          have fw367 := fw367.only ow611 (fun k h1 h2 => by omega)
          have fw520 := fw520.only ow611 (fun k h1 h2 => by omega)
          have fw595_0 := fw595_0.only ow611 (fun k h1 h2 => by omega)
          have e := Ext.own e ow611 (fun k hk => by omega)
          have er := Ext.own er ow611 (fun k hk => by omega)
          have hbw602 := hbw602q
          have hbl := hbw568.lt
          have hcl1 := hbw602.lt
          exact ⟨_, _, _, _, _, rfl, rfl, by omega, by omega, by omega, by omega, hbl, by omega, hcl1, by omega, by omega, hbw602, hbw568, fw595_0, er⟩
         ·
          trivial
        ·
         trivial
       ·
        trivial
      ·
       refine ⟨?_, ?_⟩
       ·
        refine alloc_step (fun w576 ew576 hbw576 nw576 => ?_)
        have hbw1 := hbw1.ext ew576
        have hbw2 := hbw2.ext ew576
        have hbw13 := hbw13.ext ew576
        have hc1w13 := hc1w13.ext ew576
        have hbw24 := hbw24.ext ew576
        have hbw29 := hbw29.ext ew576
        have hc1w29 := hc1w29.ext ew576
        have hbw568 := hbw568.ext ew576
        have fw13 := fw13.ext ew576
        have fw55 := fw55.ext ew576
        have fw72 := fw72.ext ew576
        have fw86 := fw86.ext ew576
        have fw367 := fw367.ext ew576
        have fw520 := fw520.ext ew576
        have e := Only.trans e ew576
        have er := Only.trans er ew576
        have zw576 := ew576.size
        refine ⟨⟨_, hbw2.cell 0, _, hbw2.cell 1, _, hbw2.cell 2, rfl⟩, ?_⟩
        refine ⟨⟨_, hbw1.cell 0, _, hbw1.cell 1, p0_2, hbw1.cell 2, p0_3, hbw1.cell 3, rfl⟩, ?_⟩
        refine ⟨?_, ?_⟩
        ·
         refine (implSchedStep fw367.is sz0 fw520.is).mono ?_
         rintro _ w585 ⟨yw585_0, rfl, fw585_0, ew585⟩
         have hbw1 := hbw1.ext ew585
         have hbw2 := hbw2.ext ew585
         have hbw13 := hbw13.ext ew585
         have hc1w13 := hc1w13.ext ew585
         have hbw24 := hbw24.ext ew585
         have hbw29 := hbw29.ext ew585
         have hc1w29 := hc1w29.ext ew585
         have hbw568 := hbw568.ext ew585
         have hbw576 := hbw576.ext ew585
         have fw13 := fw13.ext ew585
         have fw55 := fw55.ext ew585
         have fw72 := fw72.ext ew585
         have fw86 := fw86.ext ew585
         have fw367 := fw367.ext ew585
         have fw520 := fw520.ext ew585
         have e := Only.trans e ew585
         have er := Only.trans er ew585
         have zw585 := ew585.size
         have hiyw585_0 := fw585_0.is
         obtain ⟨ryw585_0_2, ryw585_0_3, rfl, _, _, _, _⟩ := cells_Sched hiyw585_0
         refine ⟨_, _, ryw585_0_2, ryw585_0_3, _, _, rfl, ?_⟩
         refine ⟨?_, ?_⟩
         ·
          refine put_step hbw568 rfl rfl (fun w592 ow592 hbw568q nw592 => ?_)
          have hbw1 := hbw1.only ow592 (by omega)
          have hbw2 := hbw2.only ow592 (by omega)
          have hbw13 := hbw13.only ow592 (by omega)
          have hc1w13 := hc1w13.only ow592 (by omega)
          have hbw24 := hbw24.only ow592 (by omega)
          have hbw29 := hbw29.only ow592 (by omega)
          have hc1w29 := hc1w29.only ow592 (by omega)
          have hbw576 := hbw576.only ow592 (by omega)
          have fw13 := fw13.only ow592 (fun k h1 h2 => by omega)
          have fw55 := fw55.only ow592 (fun k h1 h2 => by omega)
          have fw72 := fw72.only ow592 (fun k h1 h2 => by omega)
          have fw86 := fw86.only ow592 (fun k h1 h2 => by omega)
          have fw367 := fw367.only ow592 (fun k h1 h2 => by omega)
          have fw520 := fw520.only ow592 (fun k h1 h2 => by omega)
          have fw585_0 := fw585_0.only ow592 (fun k h1 h2 => by omega)
          have e := Ext.own e ow592 (fun k hk => by omega)
          have er := Ext.own er ow592 (fun k hk => by omega)
          have hbw568 := hbw568q
          refine ⟨?_, ?_⟩
          ·
           refine put_step hbw576 rfl rfl (fun w593 ow593 hbw576q nw593 => ?_)
           have hbw1 := hbw1.only ow593 (by omega)
           have hbw2 := hbw2.only ow593 (by omega)
           have hbw13 := hbw13.only ow593 (by omega)
           have hc1w13 := hc1w13.only ow593 (by omega)
           have hbw24 := hbw24.only ow593 (by omega)
           have hbw29 := hbw29.only ow593 (by omega)
           have hc1w29 := hc1w29.only ow593 (by omega)
           have hbw568 := hbw568.only ow593 (by omega)
           have fw13 := fw13.only ow593 (fun k h1 h2 => by omega)
           have fw55 := fw55.only ow593 (fun k h1 h2 => by omega)
           have fw72 := fw72.only ow593 (fun k h1 h2 => by omega)
           have fw86 := fw86.only ow593 (fun k h1 h2 => by omega)
           have fw367 := fw367.only ow593 (fun k h1 h2 => by omega)
           have fw520 := fw520.only ow593 (fun k h1 h2 => by omega)
           have fw585_0 := fw585_0.only ow593 (fun k h1 h2 => by omega)
           have e := Ext.own e ow593 (fun k hk => by omega)
           have er := Ext.own er ow593 (fun k hk => by omega)
           have hbw576 := hbw576q
           have hbl := hbw568.lt
           have hcl1 := hbw576.lt
           exact ⟨_, _, _, _, _, rfl, rfl, by omega, by omega, by omega, by omega, hbl, by omega, hcl1, by omega, by omega, hbw576, hbw568, fw585_0, er⟩
          ·
           trivial
         ·
          trivial
        ·
         trivial
       ·
        trivial
     ·
      refine ⟨?_, ?_⟩
      ·
       refine alloc_step (fun w524 ew524 hbw524 nw524 => ?_)
       have hbw1 := hbw1.ext ew524
       have hbw2 := hbw2.ext ew524
       have hbw13 := hbw13.ext ew524
       have hc1w13 := hc1w13.ext ew524
       have hbw24 := hbw24.ext ew524
       have hbw29 := hbw29.ext ew524
       have hc1w29 := hc1w29.ext ew524
       have fw13 := fw13.ext ew524
       have fw55 := fw55.ext ew524
       have fw72 := fw72.ext ew524
       have fw86 := fw86.ext ew524
       have fw367 := fw367.ext ew524
       have fw520 := fw520.ext ew524
       have e := Only.trans e ew524
       have er := Only.trans er ew524
       have zw524 := ew524.size
       refine ⟨⟨_, hbw2.cell 0, _, hbw2.cell 1, _, hbw2.cell 2, rfl⟩, ?_⟩
       refine ⟨⟨_, hbw1.cell 0, _, hbw1.cell 1, p0_2, hbw1.cell 2, p0_3, hbw1.cell 3, rfl⟩, ?_⟩
       refine ⟨?_, ?_⟩
       ·
        refine (implSchedStep fw367.is sz0 fw520.is).mono ?_
        rintro _ w551 ⟨yw551_0, rfl, fw551_0, ew551⟩
        have hbw1 := hbw1.ext ew551
        have hbw2 := hbw2.ext ew551
        have hbw13 := hbw13.ext ew551
        have hc1w13 := hc1w13.ext ew551
        have hbw24 := hbw24.ext ew551
        have hbw29 := hbw29.ext ew551
        have hc1w29 := hc1w29.ext ew551
        have hbw524 := hbw524.ext ew551
        have fw13 := fw13.ext ew551
        have fw55 := fw55.ext ew551
        have fw72 := fw72.ext ew551
        have fw86 := fw86.ext ew551
        have fw367 := fw367.ext ew551
        have fw520 := fw520.ext ew551
        have e := Only.trans e ew551
        have er := Only.trans er ew551
        have zw551 := ew551.size
        have hiyw551_0 := fw551_0.is
        obtain ⟨ryw551_0_2, ryw551_0_3, rfl, _, _, _, _⟩ := cells_Sched hiyw551_0
        refine ⟨_, _, ryw551_0_2, ryw551_0_3, _, _, rfl, ?_⟩
        refine ⟨?_, ?_⟩
        ·
         refine alloc_step (fun w558 ew558 hbw558 nw558 => ?_)
         have hbw1 := hbw1.ext ew558
         have hbw2 := hbw2.ext ew558
         have hbw13 := hbw13.ext ew558
         have hc1w13 := hc1w13.ext ew558
         have hbw24 := hbw24.ext ew558
         have hbw29 := hbw29.ext ew558
         have hc1w29 := hc1w29.ext ew558
         have hbw524 := hbw524.ext ew558
         have fw13 := fw13.ext ew558
         have fw55 := fw55.ext ew558
         have fw72 := fw72.ext ew558
         have fw86 := fw86.ext ew558
         have fw367 := fw367.ext ew558
         have fw520 := fw520.ext ew558
         have fw551_0 := fw551_0.ext ew558
         have e := Only.trans e ew558
         have er := Only.trans er ew558
         have zw558 := ew558.size
         refine ⟨⟨_, hbw2.cell 0, _, hbw2.cell 1, _, hbw2.cell 2, rfl⟩, ?_⟩
         refine ⟨⟨_, hbw1.cell 0, _, hbw1.cell 1, p0_2, hbw1.cell 2, p0_3, hbw1.cell 3, rfl⟩, ?_⟩
         refine ⟨?_, ?_⟩
         ·
          refine put_step hbw558 rfl rfl (fun w566 ow566 hbw558q nw566 => ?_)
          have hbw1 := hbw1.only ow566 (by omega)
          have hbw2 := hbw2.only ow566 (by omega)
          have hbw13 := hbw13.only ow566 (by omega)
          have hc1w13 := hc1w13.only ow566 (by omega)
          have hbw24 := hbw24.only ow566 (by omega)
          have hbw29 := hbw29.only ow566 (by omega)
          have hc1w29 := hc1w29.only ow566 (by omega)
          have hbw524 := hbw524.only ow566 (by omega)
          have fw13 := fw13.only ow566 (fun k h1 h2 => by omega)
          have fw55 := fw55.only ow566 (fun k h1 h2 => by omega)
          have fw72 := fw72.only ow566 (fun k h1 h2 => by omega)
          have fw86 := fw86.only ow566 (fun k h1 h2 => by omega)
          have fw367 := fw367.only ow566 (fun k h1 h2 => by omega)
          have fw520 := fw520.only ow566 (fun k h1 h2 => by omega)
          have fw551_0 := fw551_0.only ow566 (fun k h1 h2 => by omega)
          have e := Ext.own e ow566 (fun k hk => by omega)
          have er := Ext.own er ow566 (fun k hk => by omega)
          have hbw558 := hbw558q
          refine ⟨?_, ?_⟩
          ·
           refine put_step hbw524 rfl rfl (fun w567 ow567 hbw524q nw567 => ?_)
           have hbw1 := hbw1.only ow567 (by omega)
           have hbw2 := hbw2.only ow567 (by omega)
           have hbw13 := hbw13.only ow567 (by omega)
           have hc1w13 := hc1w13.only ow567 (by omega)
           have hbw24 := hbw24.only ow567 (by omega)
           have hbw29 := hbw29.only ow567 (by omega)
           have hc1w29 := hc1w29.only ow567 (by omega)
           have hbw558 := hbw558.only ow567 (by omega)
           have fw13 := fw13.only ow567 (fun k h1 h2 => by omega)
           have fw55 := fw55.only ow567 (fun k h1 h2 => by omega)
           have fw72 := fw72.only ow567 (fun k h1 h2 => by omega)
           have fw86 := fw86.only ow567 (fun k h1 h2 => by omega)
           have fw367 := fw367.only ow567 (fun k h1 h2 => by omega)
           have fw520 := fw520.only ow567 (fun k h1 h2 => by omega)
           have fw551_0 := fw551_0.only ow567 (fun k h1 h2 => by omega)
           have e := Ext.own e ow567 (fun k hk => by omega)
           have er := Ext.own er ow567 (fun k hk => by omega)
           have hbw524 := hbw524q
           have hbl := hbw558.lt
           have hcl1 := hbw524.lt
           exact ⟨_, _, _, _, _, rfl, rfl, by omega, by omega, by omega, by omega, hbl, by omega, hcl1, by omega, by omega, hbw524, hbw558, fw551_0, er⟩
          ·
           trivial
         ·
          trivial
        ·
         trivial
       ·
        refine ⟨?_, ?_⟩
        ·
         refine alloc_step (fun w532 ew532 hbw532 nw532 => ?_)
         have hbw1 := hbw1.ext ew532
         have hbw2 := hbw2.ext ew532
         have hbw13 := hbw13.ext ew532
         have hc1w13 := hc1w13.ext ew532
         have hbw24 := hbw24.ext ew532
         have hbw29 := hbw29.ext ew532
         have hc1w29 := hc1w29.ext ew532
         have hbw524 := hbw524.ext ew532
         have fw13 := fw13.ext ew532
         have fw55 := fw55.ext ew532
         have fw72 := fw72.ext ew532
         have fw86 := fw86.ext ew532
         have fw367 := fw367.ext ew532
         have fw520 := fw520.ext ew532
         have e := Only.trans e ew532
         have er := Only.trans er ew532
         have zw532 := ew532.size
         refine ⟨⟨_, hbw2.cell 0, _, hbw2.cell 1, _, hbw2.cell 2, rfl⟩, ?_⟩
         refine ⟨⟨_, hbw1.cell 0, _, hbw1.cell 1, p0_2, hbw1.cell 2, p0_3, hbw1.cell 3, rfl⟩, ?_⟩
         refine ⟨?_, ?_⟩
         ·
          refine (implSchedStep fw367.is sz0 fw520.is).mono ?_
          rintro _ w541 ⟨yw541_0, rfl, fw541_0, ew541⟩
          have hbw1 := hbw1.ext ew541
          have hbw2 := hbw2.ext ew541
          have hbw13 := hbw13.ext ew541
          have hc1w13 := hc1w13.ext ew541
          have hbw24 := hbw24.ext ew541
          have hbw29 := hbw29.ext ew541
          have hc1w29 := hc1w29.ext ew541
          have hbw524 := hbw524.ext ew541
          have hbw532 := hbw532.ext ew541
          have fw13 := fw13.ext ew541
          have fw55 := fw55.ext ew541
          have fw72 := fw72.ext ew541
          have fw86 := fw86.ext ew541
          have fw367 := fw367.ext ew541
          have fw520 := fw520.ext ew541
          have e := Only.trans e ew541
          have er := Only.trans er ew541
          have zw541 := ew541.size
          have hiyw541_0 := fw541_0.is
          obtain ⟨ryw541_0_2, ryw541_0_3, rfl, _, _, _, _⟩ := cells_Sched hiyw541_0
          refine ⟨_, _, ryw541_0_2, ryw541_0_3, _, _, rfl, ?_⟩
          refine ⟨?_, ?_⟩
          ·
           refine put_step hbw532 rfl rfl (fun w548 ow548 hbw532q nw548 => ?_)
           have hbw1 := hbw1.only ow548 (by omega)
           have hbw2 := hbw2.only ow548 (by omega)
           have hbw13 := hbw13.only ow548 (by omega)
           have hc1w13 := hc1w13.only ow548 (by omega)
           have hbw24 := hbw24.only ow548 (by omega)
           have hbw29 := hbw29.only ow548 (by omega)
           have hc1w29 := hc1w29.only ow548 (by omega)
           have hbw524 := hbw524.only ow548 (by omega)
           have fw13 := fw13.only ow548 (fun k h1 h2 => by omega)
           have fw55 := fw55.only ow548 (fun k h1 h2 => by omega)
           have fw72 := fw72.only ow548 (fun k h1 h2 => by omega)
           have fw86 := fw86.only ow548 (fun k h1 h2 => by omega)
           have fw367 := fw367.only ow548 (fun k h1 h2 => by omega)
           have fw520 := fw520.only ow548 (fun k h1 h2 => by omega)
           have fw541_0 := fw541_0.only ow548 (fun k h1 h2 => by omega)
           have e := Ext.own e ow548 (fun k hk => by omega)
           have er := Ext.own er ow548 (fun k hk => by omega)
           have hbw532 := hbw532q
           refine ⟨?_, ?_⟩
           ·
            refine put_step hbw524 rfl rfl (fun w549 ow549 hbw524q nw549 => ?_)
            have hbw1 := hbw1.only ow549 (by omega)
            have hbw2 := hbw2.only ow549 (by omega)
            have hbw13 := hbw13.only ow549 (by omega)
            have hc1w13 := hc1w13.only ow549 (by omega)
            have hbw24 := hbw24.only ow549 (by omega)
            have hbw29 := hbw29.only ow549 (by omega)
            have hc1w29 := hc1w29.only ow549 (by omega)
            have hbw532 := hbw532.only ow549 (by omega)
            have fw13 := fw13.only ow549 (fun k h1 h2 => by omega)
            have fw55 := fw55.only ow549 (fun k h1 h2 => by omega)
            have fw72 := fw72.only ow549 (fun k h1 h2 => by omega)
            have fw86 := fw86.only ow549 (fun k h1 h2 => by omega)
            have fw367 := fw367.only ow549 (fun k h1 h2 => by omega)
            have fw520 := fw520.only ow549 (fun k h1 h2 => by omega)
            have fw541_0 := fw541_0.only ow549 (fun k h1 h2 => by omega)
            have e := Ext.own e ow549 (fun k hk => by omega)
            have er := Ext.own er ow549 (fun k hk => by omega)
            have hbw524 := hbw524q
            have hbl := hbw532.lt
            have hcl1 := hbw524.lt
            exact ⟨_, _, _, _, _, rfl, rfl, by omega, by omega, by omega, by omega, hbl, by omega, hcl1, by omega, by omega, hbw524, hbw532, fw541_0, er⟩
           ·
            trivial
          ·
           trivial
         ·
          trivial
        ·
         trivial
      ·
       trivial
   ·
    refine ⟨?_, ?_⟩
    ·
     refine alloc_step (fun w447 ew447 hbw447 nw447 => ?_)
     have hbw1 := hbw1.ext ew447
     have hbw2 := hbw2.ext ew447
     have hbw13 := hbw13.ext ew447
     have hc1w13 := hc1w13.ext ew447
     have hbw24 := hbw24.ext ew447
     have hbw29 := hbw29.ext ew447
     have hc1w29 := hc1w29.ext ew447
     have fw13 := fw13.ext ew447
     have fw55 := fw55.ext ew447
     have fw72 := fw72.ext ew447
     have fw86 := fw86.ext ew447
     have fw367 := fw367.ext ew447
     have e := Only.trans e ew447
     have er := Only.trans er ew447
     have zw447 := ew447.size
     refine ⟨⟨_, hbw2.cell 0, _, hbw2.cell 1, _, hbw2.cell 2, rfl⟩, ?_⟩
     refine ⟨⟨_, hbw1.cell 0, _, hbw1.cell 1, p0_2, hbw1.cell 2, p0_3, hbw1.cell 3, rfl⟩, ?_⟩
     refine ⟨?_, ?_⟩
     ·
      refine (c23 (DSchedOp.has _) (IsD.ext e _ _ h1) (by have := op_sz op; omega)).mono ?_
      rintro _ w479 ⟨yw479, rfl, fw479, ew479⟩
      have hbw1 := hbw1.ext ew479
      have hbw2 := hbw2.ext ew479
      have hbw13 := hbw13.ext ew479
      have hc1w13 := hc1w13.ext ew479
      have hbw24 := hbw24.ext ew479
      have hbw29 := hbw29.ext ew479
      have hc1w29 := hc1w29.ext ew479
      have hbw447 := hbw447.ext ew479
      have fw13 := fw13.ext ew479
      have fw55 := fw55.ext ew479
      have fw72 := fw72.ext ew479
      have fw86 := fw86.ext ew479
      have fw367 := fw367.ext ew479
      have e := Only.trans e ew479
      have er := Only.trans er ew479
      have zw479 := ew479.size
      have hiyw479 := fw479.is
      obtain ⟨rfl, _, _, _⟩ := cells_SchedOp hiyw479
      refine ⟨_, _, _, rfl, ?_⟩
      refine ⟨?_, ?_⟩
      ·
       refine (implSchedStep fw367.is sz0 fw479.is).mono ?_
       rintro _ w502 ⟨yw502_0, rfl, fw502_0, ew502⟩
       have hbw1 := hbw1.ext ew502
       have hbw2 := hbw2.ext ew502
       have hbw13 := hbw13.ext ew502
       have hc1w13 := hc1w13.ext ew502
       have hbw24 := hbw24.ext ew502
       have hbw29 := hbw29.ext ew502
       have hc1w29 := hc1w29.ext ew502
       have hbw447 := hbw447.ext ew502
       have fw13 := fw13.ext ew502
       have fw55 := fw55.ext ew502
       have fw72 := fw72.ext ew502
       have fw86 := fw86.ext ew502
       have fw367 := fw367.ext ew502
       have fw479 := fw479.ext ew502
       have e := Only.trans e ew502
       have er := Only.trans er ew502
       have zw502 := ew502.size
       have hiyw502_0 := fw502_0.is
       obtain ⟨ryw502_0_2, ryw502_0_3, rfl, _, _, _, _⟩ := cells_Sched hiyw502_0
       refine ⟨_, _, ryw502_0_2, ryw502_0_3, _, _, rfl, ?_⟩
       refine ⟨?_, ?_⟩
       ·
        refine alloc_step (fun w509 ew509 hbw509 nw509 => ?_)
        have hbw1 := hbw1.ext ew509
        have hbw2 := hbw2.ext ew509
        have hbw13 := hbw13.ext ew509
        have hc1w13 := hc1w13.ext ew509
        have hbw24 := hbw24.ext ew509
        have hbw29 := hbw29.ext ew509
        have hc1w29 := hc1w29.ext ew509
        have hbw447 := hbw447.ext ew509
        have fw13 := fw13.ext ew509
        have fw55 := fw55.ext ew509
        have fw72 := fw72.ext ew509
        have fw86 := fw86.ext ew509
        have fw367 := fw367.ext ew509
        have fw479 := fw479.ext ew509
        have fw502_0 := fw502_0.ext ew509
        have e := Only.trans e ew509
        have er := Only.trans er ew509
        have zw509 := ew509.size
        refine ⟨⟨_, hbw2.cell 0, _, hbw2.cell 1, _, hbw2.cell 2, rfl⟩, ?_⟩
        refine ⟨⟨_, hbw1.cell 0, _, hbw1.cell 1, p0_2, hbw1.cell 2, p0_3, hbw1.cell 3, rfl⟩, ?_⟩
        refine ⟨?_, ?_⟩
        ·
         refine put_step hbw447 rfl rfl (fun w517 ow517 hbw447q nw517 => ?_)
         have hbw1 := hbw1.only ow517 (by omega)
         have hbw2 := hbw2.only ow517 (by omega)
         have hbw13 := hbw13.only ow517 (by omega)
         have hc1w13 := hc1w13.only ow517 (by omega)
         have hbw24 := hbw24.only ow517 (by omega)
         have hbw29 := hbw29.only ow517 (by omega)
         have hc1w29 := hc1w29.only ow517 (by omega)
         have hbw509 := hbw509.only ow517 (by omega)
         have fw13 := fw13.only ow517 (fun k h1 h2 => by omega)
         have fw55 := fw55.only ow517 (fun k h1 h2 => by omega)
         have fw72 := fw72.only ow517 (fun k h1 h2 => by omega)
         have fw86 := fw86.only ow517 (fun k h1 h2 => by omega)
         have fw367 := fw367.only ow517 (fun k h1 h2 => by omega)
         have fw479 := fw479.only ow517 (fun k h1 h2 => by omega)
         have fw502_0 := fw502_0.only ow517 (fun k h1 h2 => by omega)
         have e := Ext.own e ow517 (fun k hk => by omega)
         have er := Ext.own er ow517 (fun k hk => by omega)
         have hbw447 := hbw447q
         refine ⟨?_, ?_⟩
         ·
          refine put_step hbw509 rfl rfl (fun w518 ow518 hbw509q nw518 => ?_)
          have hbw1 := hbw1.only ow518 (by omega)
          have hbw2 := hbw2.only ow518 (by omega)
          have hbw13 := hbw13.only ow518 (by omega)
          have hc1w13 := hc1w13.only ow518 (by omega)
          have hbw24 := hbw24.only ow518 (by omega)
          have hbw29 := hbw29.only ow518 (by omega)
          have hc1w29 := hc1w29.only ow518 (by omega)
          have hbw447 := hbw447.only ow518 (by omega)
          have fw13 := fw13.only ow518 (fun k h1 h2 => by omega)
          have fw55 := fw55.only ow518 (fun k h1 h2 => by omega)
          have fw72 := fw72.only ow518 (fun k h1 h2 => by omega)
          have fw86 := fw86.only ow518 (fun k h1 h2 => by omega)
          have fw367 := fw367.only ow518 (fun k h1 h2 => by omega)
          have fw479 := fw479.only ow518 (fun k h1 h2 => by omega)
          have fw502_0 := fw502_0.only ow518 (fun k h1 h2 => by omega)
          have e := Ext.own e ow518 (fun k hk => by omega)
          have er := Ext.own er ow518 (fun k hk => by omega)
          have hbw509 := hbw509q
          have hbl := hbw447.lt
          have hcl1 := hbw509.lt
          exact ⟨_, _, _, _, _, rfl, rfl, by omega, by omega, by omega, by omega, hbl, by omega, hcl1, by omega, by omega, hbw509, hbw447, fw502_0, er⟩
         ·
          trivial
        ·
         trivial
       ·
        trivial
      ·
       refine ⟨?_, ?_⟩
       ·
        refine alloc_step (fun w483 ew483 hbw483 nw483 => ?_)
        have hbw1 := hbw1.ext ew483
        have hbw2 := hbw2.ext ew483
        have hbw13 := hbw13.ext ew483
        have hc1w13 := hc1w13.ext ew483
        have hbw24 := hbw24.ext ew483
        have hbw29 := hbw29.ext ew483
        have hc1w29 := hc1w29.ext ew483
        have hbw447 := hbw447.ext ew483
        have fw13 := fw13.ext ew483
        have fw55 := fw55.ext ew483
        have fw72 := fw72.ext ew483
        have fw86 := fw86.ext ew483
        have fw367 := fw367.ext ew483
        have fw479 := fw479.ext ew483
        have e := Only.trans e ew483
        have er := Only.trans er ew483
        have zw483 := ew483.size
        refine ⟨⟨_, hbw2.cell 0, _, hbw2.cell 1, _, hbw2.cell 2, rfl⟩, ?_⟩
        refine ⟨⟨_, hbw1.cell 0, _, hbw1.cell 1, p0_2, hbw1.cell 2, p0_3, hbw1.cell 3, rfl⟩, ?_⟩
        refine ⟨?_, ?_⟩
        ·
         refine (implSchedStep fw367.is sz0 fw479.is).mono ?_
         rintro _ w492 ⟨yw492_0, rfl, fw492_0, ew492⟩
         have hbw1 := hbw1.ext ew492
         have hbw2 := hbw2.ext ew492
         have hbw13 := hbw13.ext ew492
         have hc1w13 := hc1w13.ext ew492
         have hbw24 := hbw24.ext ew492
         have hbw29 := hbw29.ext ew492
         have hc1w29 := hc1w29.ext ew492
         have hbw447 := hbw447.ext ew492
         have hbw483 := hbw483.ext ew492
         have fw13 := fw13.ext ew492
         have fw55 := fw55.ext ew492
         have fw72 := fw72.ext ew492
         have fw86 := fw86.ext ew492
         have fw367 := fw367.ext ew492
         have fw479 := fw479.ext ew492
         have e := Only.trans e ew492
         have er := Only.trans er ew492
         have zw492 := ew492.size
         have hiyw492_0 := fw492_0.is
         obtain ⟨ryw492_0_2, ryw492_0_3, rfl, _, _, _, _⟩ := cells_Sched hiyw492_0
         refine ⟨_, _, ryw492_0_2, ryw492_0_3, _, _, rfl, ?_⟩
         refine ⟨?_, ?_⟩
         ·
          refine put_step hbw447 rfl rfl (fun w499 ow499 hbw447q nw499 => ?_)
          have hbw1 := hbw1.only ow499 (by omega)
          have hbw2 := hbw2.only ow499 (by omega)
          have hbw13 := hbw13.only ow499 (by omega)
          have hc1w13 := hc1w13.only ow499 (by omega)
          have hbw24 := hbw24.only ow499 (by omega)
          have hbw29 := hbw29.only ow499 (by omega)
          have hc1w29 := hc1w29.only ow499 (by omega)
          have hbw483 := hbw483.only ow499 (by omega)
          have fw13 := fw13.only ow499 (fun k h1 h2 => by omega)
          have fw55 := fw55.only ow499 (fun k h1 h2 => by omega)
          have fw72 := fw72.only ow499 (fun k h1 h2 => by omega)
          have fw86 := fw86.only ow499 (fun k h1 h2 => by omega)
          have fw367 := fw367.only ow499 (fun k h1 h2 => by omega)
          have fw479 := fw479.only ow499 (fun k h1 h2 => by omega)
          have fw492_0 := fw492_0.only ow499 (fun k h1 h2 => by omega)
          have e := Ext.own e ow499 (fun k hk => by omega)
          have er := Ext.own er ow499 (fun k hk => by omega)
          have hbw447 := hbw447q
          refine ⟨?_, ?_⟩
          ·
           refine put_step hbw483 rfl rfl (fun w500 ow500 hbw483q nw500 => ?_)
           have hbw1 := hbw1.only ow500 (by omega)
           have hbw2 := hbw2.only ow500 (by omega)
           have hbw13 := hbw13.only ow500 (by omega)
           have hc1w13 := hc1w13.only ow500 (by omega)
           have hbw24 := hbw24.only ow500 (by omega)
           have hbw29 := hbw29.only ow500 (by omega)
           have hc1w29 := hc1w29.only ow500 (by omega)
           have hbw447 := hbw447.only ow500 (by omega)
           have fw13 := fw13.only ow500 (fun k h1 h2 => by omega)
           have fw55 := fw55.only ow500 (fun k h1 h2 => by omega)
           have fw72 := fw72.only ow500 (fun k h1 h2 => by omega)
           have fw86 := fw86.only ow500 (fun k h1 h2 => by omega)
           have fw367 := fw367.only ow500 (fun k h1 h2 => by omega)
           have fw479 := fw479.only ow500 (fun k h1 h2 => by omega)
           have fw492_0 := fw492_0.only ow500 (fun k h1 h2 => by omega)
           have e := Ext.own e ow500 (fun k hk => by omega)
           have er := Ext.own er ow500 (fun k hk => by omega)
           have hbw483 := hbw483q
           have hbl := hbw447.lt
           have hcl1 := hbw483.lt
           exact ⟨_, _, _, _, _, rfl, rfl, by omega, by omega, by omega, by omega, hbl, by omega, hcl1, by omega, by omega, hbw483, hbw447, fw492_0, er⟩
          ·
           trivial
         ·
          trivial
        ·
         trivial
       ·
        trivial
     ·
      refine ⟨?_, ?_⟩
      ·
       refine alloc_step (fun w455 ew455 hbw455 nw455 => ?_)
       have hbw1 := hbw1.ext ew455
       have hbw2 := hbw2.ext ew455
       have hbw13 := hbw13.ext ew455
       have hc1w13 := hc1w13.ext ew455
       have hbw24 := hbw24.ext ew455
       have hbw29 := hbw29.ext ew455
       have hc1w29 := hc1w29.ext ew455
       have hbw447 := hbw447.ext ew455
       have fw13 := fw13.ext ew455
       have fw55 := fw55.ext ew455
       have fw72 := fw72.ext ew455
       have fw86 := fw86.ext ew455
       have fw367 := fw367.ext ew455
       have e := Only.trans e ew455
       have er := Only.trans er ew455
       have zw455 := ew455.size
       refine ⟨⟨_, hbw2.cell 0, _, hbw2.cell 1, _, hbw2.cell 2, rfl⟩, ?_⟩
       refine ⟨⟨_, hbw1.cell 0, _, hbw1.cell 1, p0_2, hbw1.cell 2, p0_3, hbw1.cell 3, rfl⟩, ?_⟩
       refine ⟨?_, ?_⟩
       ·
        refine (c23 (DSchedOp.has _) (IsD.ext e _ _ h1) (by have := op_sz op; omega)).mono ?_
        rintro _ w464 ⟨yw464, rfl, fw464, ew464⟩
        have hbw1 := hbw1.ext ew464
        have hbw2 := hbw2.ext ew464
        have hbw13 := hbw13.ext ew464
        have hc1w13 := hc1w13.ext ew464
        have hbw24 := hbw24.ext ew464
        have hbw29 := hbw29.ext ew464
        have hc1w29 := hc1w29.ext ew464
        have hbw447 := hbw447.ext ew464
        have hbw455 := hbw455.ext ew464
        have fw13 := fw13.ext ew464
        have fw55 := fw55.ext ew464
        have fw72 := fw72.ext ew464
        have fw86 := fw86.ext ew464
        have fw367 := fw367.ext ew464
        have e := Only.trans e ew464
        have er := Only.trans er ew464
        have zw464 := ew464.size
        have hiyw464 := fw464.is
        obtain ⟨rfl, _, _, _⟩ := cells_SchedOp hiyw464
        refine ⟨_, _, _, rfl, ?_⟩
        refine ⟨?_, ?_⟩
        ·
         refine (implSchedStep fw367.is sz0 fw464.is).mono ?_
         rintro _ w469 ⟨yw469_0, rfl, fw469_0, ew469⟩
         have hbw1 := hbw1.ext ew469
         have hbw2 := hbw2.ext ew469
         have hbw13 := hbw13.ext ew469
         have hc1w13 := hc1w13.ext ew469
         have hbw24 := hbw24.ext ew469
         have hbw29 := hbw29.ext ew469
         have hc1w29 := hc1w29.ext ew469
         have hbw447 := hbw447.ext ew469
         have hbw455 := hbw455.ext ew469
         have fw13 := fw13.ext ew469
         have fw55 := fw55.ext ew469
         have fw72 := fw72.ext ew469
         have fw86 := fw86.ext ew469
         have fw367 := fw367.ext ew469
         have fw464 := fw464.ext ew469
         have e := Only.trans e ew469
         have er := Only.trans er ew469
         have zw469 := ew469.size
         have hiyw469_0 := fw469_0.is
         obtain ⟨ryw469_0_2, ryw469_0_3, rfl, _, _, _, _⟩ := cells_Sched hiyw469_0
         refine ⟨_, _, ryw469_0_2, ryw469_0_3, _, _, rfl, ?_⟩
         refine ⟨?_, ?_⟩
         ·
          refine put_step hbw447 rfl rfl (fun w476 ow476 hbw447q nw476 => ?_)
          have hbw1 := hbw1.only ow476 (by omega)
          have hbw2 := hbw2.only ow476 (by omega)
          have hbw13 := hbw13.only ow476 (by omega)
          have hc1w13 := hc1w13.only ow476 (by omega)
          have hbw24 := hbw24.only ow476 (by omega)
          have hbw29 := hbw29.only ow476 (by omega)
          have hc1w29 := hc1w29.only ow476 (by omega)
          have hbw455 := hbw455.only ow476 (by omega)
          have fw13 := fw13.only ow476 (fun k h1 h2 => by omega)
          have fw55 := fw55.only ow476 (fun k h1 h2 => by omega)
          have fw72 := fw72.only ow476 (fun k h1 h2 => by omega)
          have fw86 := fw86.only ow476 (fun k h1 h2 => by omega)
          have fw367 := fw367.only ow476 (fun k h1 h2 => by omega)
          have fw464 := fw464.only ow476 (fun k h1 h2 => by omega)
          have fw469_0 := fw469_0.only ow476 (fun k h1 h2 => by omega)
          have e := Ext.own e ow476 (fun k hk => by omega)
          have er := Ext.own er ow476 (fun k hk => by omega)
          have hbw447 := hbw447q
          refine ⟨?_, ?_⟩
          ·
           refine put_step hbw455 rfl rfl (fun w477 ow477 hbw455q nw477 => ?_)
           have hbw1 := hbw1.only ow477 (by omega)
           have hbw2 := hbw2.only ow477 (by omega)
           have hbw13 := hbw13.only ow477 (by omega)
           have hc1w13 := hc1w13.only ow477 (by omega)
           have hbw24 := hbw24.only ow477 (by omega)
           have hbw29 := hbw29.only ow477 (by omega)
           have hc1w29 := hc1w29.only ow477 (by omega)
           have hbw447 := hbw447.only ow477 (by omega)
           have fw13 := fw13.only ow477 (fun k h1 h2 => by omega)
           have fw55 := fw55.only ow477 (fun k h1 h2 => by omega)
           have fw72 := fw72.only ow477 (fun k h1 h2 => by omega)
           have fw86 := fw86.only ow477 (fun k h1 h2 => by omega)
           have fw367 := fw367.only ow477 (fun k h1 h2 => by omega)
           have fw464 := fw464.only ow477 (fun k h1 h2 => by omega)
           have fw469_0 := fw469_0.only ow477 (fun k h1 h2 => by omega)
           have e := Ext.own e ow477 (fun k hk => by omega)
           have er := Ext.own er ow477 (fun k hk => by omega)
           have hbw455 := hbw455q
           have hbl := hbw447.lt
           have hcl1 := hbw455.lt
           exact ⟨_, _, _, _, _, rfl, rfl, by omega, by omega, by omega, by omega, hbl, by omega, hcl1, by omega, by omega, hbw455, hbw447, fw469_0, er⟩
          ·
           trivial
         ·
          trivial
        ·
         trivial
       ·
        trivial
      ·
       trivial
    ·
     refine ⟨?_, ?_⟩
     ·
      refine alloc_step (fun w375 ew375 hbw375 nw375 => ?_)
      have hbw1 := hbw1.ext ew375
      have hbw2 := hbw2.ext ew375
      have hbw13 := hbw13.ext ew375
      have hc1w13 := hc1w13.ext ew375
      have hbw24 := hbw24.ext ew375
      have hbw29 := hbw29.ext ew375
      have hc1w29 := hc1w29.ext ew375
      have fw13 := fw13.ext ew375
      have fw55 := fw55.ext ew375
      have fw72 := fw72.ext ew375
      have fw86 := fw86.ext ew375
      have fw367 := fw367.ext ew375
      have e := Only.trans e ew375
      have er := Only.trans er ew375
      have zw375 := ew375.size
      refine ⟨⟨_, hbw2.cell 0, _, hbw2.cell 1, _, hbw2.cell 2, rfl⟩, ?_⟩
      refine ⟨⟨_, hbw1.cell 0, _, hbw1.cell 1, p0_2, hbw1.cell 2, p0_3, hbw1.cell 3, rfl⟩, ?_⟩
      refine ⟨?_, ?_⟩
      ·
       refine (c23 (DSchedOp.has _) (IsD.ext e _ _ h1) (by have := op_sz op; omega)).mono ?_
       rintro _ w407 ⟨yw407, rfl, fw407, ew407⟩
       have hbw1 := hbw1.ext ew407
       have hbw2 := hbw2.ext ew407
       have hbw13 := hbw13.ext ew407
       have hc1w13 := hc1w13.ext ew407
       have hbw24 := hbw24.ext ew407
       have hbw29 := hbw29.ext ew407
       have hc1w29 := hc1w29.ext ew407
       have hbw375 := hbw375.ext ew407
       have fw13 := fw13.ext ew407
       have fw55 := fw55.ext ew407
       have fw72 := fw72.ext ew407
       have fw86 := fw86.ext ew407
       have fw367 := fw367.ext ew407
       have e := Only.trans e ew407
       have er := Only.trans er ew407
       have zw407 := ew407.size
       have hiyw407 := fw407.is
       obtain ⟨rfl, _, _, _⟩ := cells_SchedOp hiyw407
       refine ⟨_, _, _, rfl, ?_⟩
       refine ⟨?_, ?_⟩
       ·
        refine (implSchedStep fw367.is sz0 fw407.is).mono ?_
        rintro _ w430 ⟨yw430_0, rfl, fw430_0, ew430⟩
        have hbw1 := hbw1.ext ew430
        have hbw2 := hbw2.ext ew430
        have hbw13 := hbw13.ext ew430
        have hc1w13 := hc1w13.ext ew430
        have hbw24 := hbw24.ext ew430
        have hbw29 := hbw29.ext ew430
        have hc1w29 := hc1w29.ext ew430
        have hbw375 := hbw375.ext ew430
        have fw13 := fw13.ext ew430
        have fw55 := fw55.ext ew430
        have fw72 := fw72.ext ew430
        have fw86 := fw86.ext ew430
        have fw367 := fw367.ext ew430
        have fw407 := fw407.ext ew430
        have e := Only.trans e ew430
        have er := Only.trans er ew430
        have zw430 := ew430.size
        have hiyw430_0 := fw430_0.is
        obtain ⟨ryw430_0_2, ryw430_0_3, rfl, _, _, _, _⟩ := cells_Sched hiyw430_0
        refine ⟨_, _, ryw430_0_2, ryw430_0_3, _, _, rfl, ?_⟩
        refine ⟨?_, ?_⟩
        ·
         refine alloc_step (fun w437 ew437 hbw437 nw437 => ?_)
         have hbw1 := hbw1.ext ew437
         have hbw2 := hbw2.ext ew437
         have hbw13 := hbw13.ext ew437
         have hc1w13 := hc1w13.ext ew437
         have hbw24 := hbw24.ext ew437
         have hbw29 := hbw29.ext ew437
         have hc1w29 := hc1w29.ext ew437
         have hbw375 := hbw375.ext ew437
         have fw13 := fw13.ext ew437
         have fw55 := fw55.ext ew437
         have fw72 := fw72.ext ew437
         have fw86 := fw86.ext ew437
         have fw367 := fw367.ext ew437
         have fw407 := fw407.ext ew437
         have fw430_0 := fw430_0.ext ew437
         have e := Only.trans e ew437
         have er := Only.trans er ew437
         have zw437 := ew437.size
         refine ⟨⟨_, hbw2.cell 0, _, hbw2.cell 1, _, hbw2.cell 2, rfl⟩, ?_⟩
         refine ⟨⟨_, hbw1.cell 0, _, hbw1.cell 1, p0_2, hbw1.cell 2, p0_3, hbw1.cell 3, rfl⟩, ?_⟩
         refine ⟨?_, ?_⟩
         ·
          refine put_step hbw437 rfl rfl (fun w445 ow445 hbw437q nw445 => ?_)
          have hbw1 := hbw1.only ow445 (by omega)
          have hbw2 := hbw2.only ow445 (by omega)
          have hbw13 := hbw13.only ow445 (by omega)
          have hc1w13 := hc1w13.only ow445 (by omega)
          have hbw24 := hbw24.only ow445 (by omega)
          have hbw29 := hbw29.only ow445 (by omega)
          have hc1w29 := hc1w29.only ow445 (by omega)
          have hbw375 := hbw375.only ow445 (by omega)
          have fw13 := fw13.only ow445 (fun k h1 h2 => by omega)
          have fw55 := fw55.only ow445 (fun k h1 h2 => by omega)
          have fw72 := fw72.only ow445 (fun k h1 h2 => by omega)
          have fw86 := fw86.only ow445 (fun k h1 h2 => by omega)
          have fw367 := fw367.only ow445 (fun k h1 h2 => by omega)
          have fw407 := fw407.only ow445 (fun k h1 h2 => by omega)
          have fw430_0 := fw430_0.only ow445 (fun k h1 h2 => by omega)
          have e := Ext.own e ow445 (fun k hk => by omega)
          have er := Ext.own er ow445 (fun k hk => by omega)
          have hbw437 := hbw437q
          refine ⟨?_, ?_⟩
          ·
           refine put_step hbw375 rfl rfl (fun w446 ow446 hbw375q nw446 => ?_)
           have hbw1 := hbw1.only ow446 (by omega)
           have hbw2 := hbw2.only ow446 (by omega)
           have hbw13 := hbw13.only ow446 (by omega)
           have hc1w13 := hc1w13.only ow446 (by omega)
           have hbw24 := hbw24.only ow446 (by omega)
           have hbw29 := hbw29.only ow446 (by omega)
           have hc1w29 := hc1w29.only ow446 (by omega)
           have hbw437 := hbw437.only ow446 (by omega)
           have fw13 := fw13.only ow446 (fun k h1 h2 => by omega)
           have fw55 := fw55.only ow446 (fun k h1 h2 => by omega)
           have fw72 := fw72.only ow446 (fun k h1 h2 => by omega)
           have fw86 := fw86.only ow446 (fun k h1 h2 => by omega)
           have fw367 := fw367.only ow446 (fun k h1 h2 => by omega)
           have fw407 := fw407.only ow446 (fun k h1 h2 => by omega)
           have fw430_0 := fw430_0.only ow446 (fun k h1 h2 => by omega)
           have e := Ext.own e ow446 (fun k hk => by omega)
           have er := Ext.own er ow446 (fun k hk => by omega)
           have hbw375 := hbw375q
           have hbl := hbw437.lt
           have hcl1 := hbw375.lt
           exact ⟨_, _, _, _, _, rfl, rfl, by omega, by omega, by omega, by omega, hbl, by omega, hcl1, by omega, by omega, hbw375, hbw437, fw430_0, er⟩
          ·
           trivial
         ·
          trivial
        ·
         trivial
       ·
        refine ⟨?_, ?_⟩
        ·
         refine alloc_step (fun w411 ew411 hbw411 nw411 => ?_)
         have hbw1 := hbw1.ext ew411
         have hbw2 := hbw2.ext ew411
         have hbw13 := hbw13.ext ew411
         have hc1w13 := hc1w13.ext ew411
         have hbw24 := hbw24.ext ew411
         have hbw29 := hbw29.ext ew411
         have hc1w29 := hc1w29.ext ew411
         have hbw375 := hbw375.ext ew411
         have fw13 := fw13.ext ew411
         have fw55 := fw55.ext ew411
         have fw72 := fw72.ext ew411
         have fw86 := fw86.ext ew411
         have fw367 := fw367.ext ew411
         have fw407 := fw407.ext ew411
         have e := Only.trans e ew411
         have er := Only.trans er ew411
         have zw411 := ew411.size
         refine ⟨⟨_, hbw2.cell 0, _, hbw2.cell 1, _, hbw2.cell 2, rfl⟩, ?_⟩
         refine ⟨⟨_, hbw1.cell 0, _, hbw1.cell 1, p0_2, hbw1.cell 2, p0_3, hbw1.cell 3, rfl⟩, ?_⟩
         refine ⟨?_, ?_⟩
         ·
          refine (implSchedStep fw367.is sz0 fw407.is).mono ?_
          rintro _ w420 ⟨yw420_0, rfl, fw420_0, ew420⟩
          have hbw1 := hbw1.ext ew420
          have hbw2 := hbw2.ext ew420
          have hbw13 := hbw13.ext ew420
          have hc1w13 := hc1w13.ext ew420
          have hbw24 := hbw24.ext ew420
          have hbw29 := hbw29.ext ew420
          have hc1w29 := hc1w29.ext ew420
          have hbw375 := hbw375.ext ew420
          have hbw411 := hbw411.ext ew420
          have fw13 := fw13.ext ew420
          have fw55 := fw55.ext ew420
          have fw72 := fw72.ext ew420
          have fw86 := fw86.ext ew420
          have fw367 := fw367.ext ew420
          have fw407 := fw407.ext ew420
          have e := Only.trans e ew420
          have er := Only.trans er ew420
          have zw420 := ew420.size
          have hiyw420_0 := fw420_0.is
          obtain ⟨ryw420_0_2, ryw420_0_3, rfl, _, _, _, _⟩ := cells_Sched hiyw420_0
          refine ⟨_, _, ryw420_0_2, ryw420_0_3, _, _, rfl, ?_⟩
          refine ⟨?_, ?_⟩
          ·
           refine put_step hbw411 rfl rfl (fun w427 ow427 hbw411q nw427 => ?_)
           have hbw1 := hbw1.only ow427 (by omega)
           have hbw2 := hbw2.only ow427 (by omega)
           have hbw13 := hbw13.only ow427 (by omega)
           have hc1w13 := hc1w13.only ow427 (by omega)
           have hbw24 := hbw24.only ow427 (by omega)
           have hbw29 := hbw29.only ow427 (by omega)
           have hc1w29 := hc1w29.only ow427 (by omega)
           have hbw375 := hbw375.only ow427 (by omega)
           have fw13 := fw13.only ow427 (fun k h1 h2 => by omega)
           have fw55 := fw55.only ow427 (fun k h1 h2 => by omega)
           have fw72 := fw72.only ow427 (fun k h1 h2 => by omega)
           have fw86 := fw86.only ow427 (fun k h1 h2 => by omega)
           have fw367 := fw367.only ow427 (fun k h1 h2 => by omega)
           have fw407 := fw407.only ow427 (fun k h1 h2 => by omega)
           have fw420_0 := fw420_0.only ow427 (fun k h1 h2 => by omega)
           have e := Ext.own e ow427 (fun k hk => by omega)
           have er := Ext.own er ow427 (fun k hk => by omega)
           have hbw411 := hbw411q
           refine ⟨?_, ?_⟩
           ·
            refine put_step hbw375 rfl rfl (fun w428 ow428 hbw375q nw428 => ?_)
            have hbw1 := hbw1.only ow428 (by omega)
            have hbw2 := hbw2.only ow428 (by omega)
            have hbw13 := hbw13.only ow428 (by omega)
            have hc1w13 := hc1w13.only ow428 (by omega)
            have hbw24 := hbw24.only ow428 (by omega)
            have hbw29 := hbw29.only ow428 (by omega)
            have hc1w29 := hc1w29.only ow428 (by omega)
            have hbw411 := hbw411.only ow428 (by omega)
            have fw13 := fw13.only ow428 (fun k h1 h2 => by omega)
            have fw55 := fw55.only ow428 (fun k h1 h2 => by omega)
            have fw72 := fw72.only ow428 (fun k h1 h2 => by omega)
            have fw86 := fw86.only ow428 (fun k h1 h2 => by omega)
            have fw367 := fw367.only ow428 (fun k h1 h2 => by omega)
            have fw407 := fw407.only ow428 (fun k h1 h2 => by omega)
            have fw420_0 := fw420_0.only ow428 (fun k h1 h2 => by omega)
            have e := Ext.own e ow428 (fun k hk => by omega)
            have er := Ext.own er ow428 (fun k hk => by omega)
            have hbw375 := hbw375q
            have hbl := hbw411.lt
            have hcl1 := hbw375.lt
            exact ⟨_, _, _, _, _, rfl, rfl, by omega, by omega, by omega, by omega, hbl, by omega, hcl1, by omega, by omega, hbw375, hbw411, fw420_0, er⟩
           ·
            trivial
          ·
           trivial
         ·
          trivial
        ·
         trivial
      ·
       refine ⟨?_, ?_⟩
       ·
        refine alloc_step (fun w383 ew383 hbw383 nw383 => ?_)
        have hbw1 := hbw1.ext ew383
        have hbw2 := hbw2.ext ew383
        have hbw13 := hbw13.ext ew383
        have hc1w13 := hc1w13.ext ew383
        have hbw24 := hbw24.ext ew383
        have hbw29 := hbw29.ext ew383
        have hc1w29 := hc1w29.ext ew383
        have hbw375 := hbw375.ext ew383
        have fw13 := fw13.ext ew383
        have fw55 := fw55.ext ew383
        have fw72 := fw72.ext ew383
        have fw86 := fw86.ext ew383
        have fw367 := fw367.ext ew383
        have e := Only.trans e ew383
        have er := Only.trans er ew383
        have zw383 := ew383.size
        refine ⟨⟨_, hbw2.cell 0, _, hbw2.cell 1, _, hbw2.cell 2, rfl⟩, ?_⟩
        refine ⟨⟨_, hbw1.cell 0, _, hbw1.cell 1, p0_2, hbw1.cell 2, p0_3, hbw1.cell 3, rfl⟩, ?_⟩
        refine ⟨?_, ?_⟩
        ·
         refine (c23 (DSchedOp.has _) (IsD.ext e _ _ h1) (by have := op_sz op; omega)).mono ?_
         rintro _ w392 ⟨yw392, rfl, fw392, ew392⟩
         have hbw1 := hbw1.ext ew392
         have hbw2 := hbw2.ext ew392
         have hbw13 := hbw13.ext ew392
         have hc1w13 := hc1w13.ext ew392
         have hbw24 := hbw24.ext ew392
         have hbw29 := hbw29.ext ew392
         have hc1w29 := hc1w29.ext ew392
         have hbw375 := hbw375.ext ew392
         have hbw383 := hbw383.ext ew392
         have fw13 := fw13.ext ew392
         have fw55 := fw55.ext ew392
         have fw72 := fw72.ext ew392
         have fw86 := fw86.ext ew392
         have fw367 := fw367.ext ew392
         have e := Only.trans e ew392
         have er := Only.trans er ew392
         have zw392 := ew392.size
         have hiyw392 := fw392.is
         obtain ⟨rfl, _, _, _⟩ := cells_SchedOp hiyw392
         refine ⟨_, _, _, rfl, ?_⟩
         refine ⟨?_, ?_⟩
         ·
          refine (implSchedStep fw367.is sz0 fw392.is).mono ?_
          rintro _ w397 ⟨yw397_0, rfl, fw397_0, ew397⟩
          have hbw1 := hbw1.ext ew397
          have hbw2 := hbw2.ext ew397
          have hbw13 := hbw13.ext ew397
          have hc1w13 := hc1w13.ext ew397
          have hbw24 := hbw24.ext ew397
          have hbw29 := hbw29.ext ew397
          have hc1w29 := hc1w29.ext ew397
          have hbw375 := hbw375.ext ew397
          have hbw383 := hbw383.ext ew397
          have fw13 := fw13.ext ew397
          have fw55 := fw55.ext ew397
          have fw72 := fw72.ext ew397
          have fw86 := fw86.ext ew397
          have fw367 := fw367.ext ew397
          have fw392 := fw392.ext ew397
          have e := Only.trans e ew397
          have er := Only.trans er ew397
          have zw397 := ew397.size
          have hiyw397_0 := fw397_0.is
          obtain ⟨ryw397_0_2, ryw397_0_3, rfl, _, _, _, _⟩ := cells_Sched hiyw397_0
          refine ⟨_, _, ryw397_0_2, ryw397_0_3, _, _, rfl, ?_⟩
          refine ⟨?_, ?_⟩
          ·
           refine put_step hbw383 rfl rfl (fun w404 ow404 hbw383q nw404 => ?_)
           have hbw1 := hbw1.only ow404 (by omega)
           have hbw2 := hbw2.only ow404 (by omega)
           have hbw13 := hbw13.only ow404 (by omega)
           have hc1w13 := hc1w13.only ow404 (by omega)
           have hbw24 := hbw24.only ow404 (by omega)
           have hbw29 := hbw29.only ow404 (by omega)
           have hc1w29 := hc1w29.only ow404 (by omega)
           have hbw375 := hbw375.only ow404 (by omega)
           have fw13 := fw13.only ow404 (fun k h1 h2 => by omega)
           have fw55 := fw55.only ow404 (fun k h1 h2 => by omega)
           have fw72 := fw72.only ow404 (fun k h1 h2 => by omega)
           have fw86 := fw86.only ow404 (fun k h1 h2 => by omega)
           have fw367 := fw367.only ow404 (fun k h1 h2 => by omega)
           have fw392 := fw392.only ow404 (fun k h1 h2 => by omega)
           have fw397_0 := fw397_0.only ow404 (fun k h1 h2 => by omega)
           have e := Ext.own e ow404 (fun k hk => by omega)
           have er := Ext.own er ow404 (fun k hk => by omega)
           have hbw383 := hbw383q
           refine ⟨?_, ?_⟩
           ·
            refine put_step hbw375 rfl rfl (fun w405 ow405 hbw375q nw405 => ?_)
            have hbw1 := hbw1.only ow405 (by omega)
            have hbw2 := hbw2.only ow405 (by omega)
            have hbw13 := hbw13.only ow405 (by omega)
            have hc1w13 := hc1w13.only ow405 (by omega)
            have hbw24 := hbw24.only ow405 (by omega)
            have hbw29 := hbw29.only ow405 (by omega)
            have hc1w29 := hc1w29.only ow405 (by omega)
            have hbw383 := hbw383.only ow405 (by omega)
            have fw13 := fw13.only ow405 (fun k h1 h2 => by omega)
            have fw55 := fw55.only ow405 (fun k h1 h2 => by omega)
            have fw72 := fw72.only ow405 (fun k h1 h2 => by omega)
            have fw86 := fw86.only ow405 (fun k h1 h2 => by omega)
            have fw367 := fw367.only ow405 (fun k h1 h2 => by omega)
            have fw392 := fw392.only ow405 (fun k h1 h2 => by omega)
            have fw397_0 := fw397_0.only ow405 (fun k h1 h2 => by omega)
            have e := Ext.own e ow405 (fun k hk => by omega)
            have er := Ext.own er ow405 (fun k hk => by omega)
            have hbw375 := hbw375q
            have hbl := hbw383.lt
            have hcl1 := hbw375.lt
            exact ⟨_, _, _, _, _, rfl, rfl, by omega, by omega, by omega, by omega, hbl, by omega, hcl1, by omega, by omega, hbw375, hbw383, fw397_0, er⟩
           ·
            trivial
          ·
           trivial
         ·
          trivial
        ·
         trivial
       ·
        trivial
     ·
      trivial
  ·
   refine ⟨?_, ?_⟩
   ·
    refine alloc_step (fun w253 ew253 hbw253 nw253 => ?_)
    have hbw1 := hbw1.ext ew253
    have hbw2 := hbw2.ext ew253
    have hbw13 := hbw13.ext ew253
    have hc1w13 := hc1w13.ext ew253
    have hbw24 := hbw24.ext ew253
    have hbw29 := hbw29.ext ew253
    have hc1w29 := hc1w29.ext ew253
    have fw13 := fw13.ext ew253
    have fw55 := fw55.ext ew253
    have fw72 := fw72.ext ew253
    have fw86 := fw86.ext ew253
    have e := Only.trans e ew253
    have er := Only.trans er ew253
    have zw253 := ew253.size
    refine ⟨⟨_, hbw2.cell 0, _, hbw2.cell 1, _, hbw2.cell 2, rfl⟩, ?_⟩
    refine ⟨⟨_, hbw1.cell 0, _, hbw1.cell 1, p0_2, hbw1.cell 2, p0_3, hbw1.cell 3, rfl⟩, ?_⟩
    refine ⟨?_, ?_⟩
    ·
     refine (c22 (DSched.has _) (IsD.ext e _ _ h0) (by have := sz0; omega)).mono ?_
     rintro _ w294 ⟨yw294, rfl, fw294, ew294⟩
     have hbw1 := hbw1.ext ew294
     have hbw2 := hbw2.ext ew294
     have hbw13 := hbw13.ext ew294
     have hc1w13 := hc1w13.ext ew294
     have hbw24 := hbw24.ext ew294
     have hbw29 := hbw29.ext ew294
     have hc1w29 := hc1w29.ext ew294
     have hbw253 := hbw253.ext ew294
     have fw13 := fw13.ext ew294
     have fw55 := fw55.ext ew294
     have fw72 := fw72.ext ew294
     have fw86 := fw86.ext ew294
     have e := Only.trans e ew294
     have er := Only.trans er ew294
     have zw294 := ew294.size
     have hiyw294 := fw294.is
     obtain ⟨ryw294_2, ryw294_3, rfl, _, _, _, _⟩ := cells_Sched hiyw294
     refine ⟨_, _, ryw294_2, ryw294_3, rfl, ?_⟩
     refine ⟨⟨_, hbw2.cell 0, _, hbw2.cell 1, _, hbw2.cell 2, rfl⟩, ?_⟩
     refine ⟨?_, ?_⟩
     ·
      refine (c23 (DSchedOp.has _) (IsD.ext e _ _ h1) (by have := op_sz op; omega)).mono ?_
      rintro _ w326 ⟨yw326, rfl, fw326, ew326⟩
      have hbw1 := hbw1.ext ew326
      have hbw2 := hbw2.ext ew326
      have hbw13 := hbw13.ext ew326
      have hc1w13 := hc1w13.ext ew326
      have hbw24 := hbw24.ext ew326
      have hbw29 := hbw29.ext ew326
      have hc1w29 := hc1w29.ext ew326
      have hbw253 := hbw253.ext ew326
      have fw13 := fw13.ext ew326
      have fw55 := fw55.ext ew326
      have fw72 := fw72.ext ew326
      have fw86 := fw86.ext ew326
      have fw294 := fw294.ext ew326
      have e := Only.trans e ew326
      have er := Only.trans er ew326
      have zw326 := ew326.size
      have hiyw326 := fw326.is
      obtain ⟨rfl, _, _, _⟩ := cells_SchedOp hiyw326
      refine ⟨_, _, _, rfl, ?_⟩
      refine ⟨?_, ?_⟩
      ·
       refine (implSchedStep fw294.is sz0 fw326.is).mono ?_
       rintro _ w349 ⟨yw349_0, rfl, fw349_0, ew349⟩
       have hbw1 := hbw1.ext ew349
       have hbw2 := hbw2.ext ew349
       have hbw13 := hbw13.ext ew349
       have hc1w13 := hc1w13.ext ew349
       have hbw24 := hbw24.ext ew349
       have hbw29 := hbw29.ext ew349
       have hc1w29 := hc1w29.ext ew349
       have hbw253 := hbw253.ext ew349
       have fw13 := fw13.ext ew349
       have fw55 := fw55.ext ew349
       have fw72 := fw72.ext ew349
       have fw86 := fw86.ext ew349
       have fw294 := fw294.ext ew349
       have fw326 := fw326.ext ew349
       have e := Only.trans e ew349
       have er := Only.trans er ew349
       have zw349 := ew349.size
       have hiyw349_0 := fw349_0.is
       obtain ⟨ryw349_0_2, ryw349_0_3, rfl, _, _, _, _⟩ := cells_Sched hiyw349_0
       refine ⟨_, _, ryw349_0_2, ryw349_0_3, _, _, rfl, ?_⟩
       refine ⟨?_, ?_⟩
       ·
        refine alloc_step (fun w356 ew356 hbw356 nw356 => ?_)
        have hbw1 := hbw1.ext ew356
        have hbw2 := hbw2.ext ew356
        have hbw13 := hbw13.ext ew356
        have hc1w13 := hc1w13.ext ew356
        have hbw24 := hbw24.ext ew356
        have hbw29 := hbw29.ext ew356
        have hc1w29 := hc1w29.ext ew356
        have hbw253 := hbw253.ext ew356
        have fw13 := fw13.ext ew356
        have fw55 := fw55.ext ew356
        have fw72 := fw72.ext ew356
        have fw86 := fw86.ext ew356
        have fw294 := fw294.ext ew356
        have fw326 := fw326.ext ew356
        have fw349_0 := fw349_0.ext ew356
        have e := Only.trans e ew356
        have er := Only.trans er ew356
        have zw356 := ew356.size
        refine ⟨⟨_, hbw2.cell 0, _, hbw2.cell 1, _, hbw2.cell 2, rfl⟩, ?_⟩
        refine ⟨⟨_, hbw1.cell 0, _, hbw1.cell 1, p0_2, hbw1.cell 2, p0_3, hbw1.cell 3, rfl⟩, ?_⟩
        refine ⟨?_, ?_⟩
        ·
         refine put_step hbw253 rfl rfl (fun w364 ow364 hbw253q nw364 => ?_)
         have hbw1 := hbw1.only ow364 (by omega)
         have hbw2 := hbw2.only ow364 (by omega)
         have hbw13 := hbw13.only ow364 (by omega)
         have hc1w13 := hc1w13.only ow364 (by omega)
         have hbw24 := hbw24.only ow364 (by omega)
         have hbw29 := hbw29.only ow364 (by omega)
         have hc1w29 := hc1w29.only ow364 (by omega)
         have hbw356 := hbw356.only ow364 (by omega)
         have fw13 := fw13.only ow364 (fun k h1 h2 => by omega)
         have fw55 := fw55.only ow364 (fun k h1 h2 => by omega)
         have fw72 := fw72.only ow364 (fun k h1 h2 => by omega)
         have fw86 := fw86.only ow364 (fun k h1 h2 => by omega)
         have fw294 := fw294.only ow364 (fun k h1 h2 => by omega)
         have fw326 := fw326.only ow364 (fun k h1 h2 => by omega)
         have fw349_0 := fw349_0.only ow364 (fun k h1 h2 => by omega)
         have e := Ext.own e ow364 (fun k hk => by omega)
         have er := Ext.own er ow364 (fun k hk => by omega)
         have hbw253 := hbw253q
         refine ⟨?_, ?_⟩
         ·
          refine put_step hbw356 rfl rfl (fun w365 ow365 hbw356q nw365 => ?_)
          have hbw1 := hbw1.only ow365 (by omega)
          have hbw2 := hbw2.only ow365 (by omega)
          have hbw13 := hbw13.only ow365 (by omega)
          have hc1w13 := hc1w13.only ow365 (by omega)
          have hbw24 := hbw24.only ow365 (by omega)
          have hbw29 := hbw29.only ow365 (by omega)
          have hc1w29 := hc1w29.only ow365 (by omega)
          have hbw253 := hbw253.only ow365 (by omega)
          have fw13 := fw13.only ow365 (fun k h1 h2 => by omega)
          have fw55 := fw55.only ow365 (fun k h1 h2 => by omega)
          have fw72 := fw72.only ow365 (fun k h1 h2 => by omega)
          have fw86 := fw86.only ow365 (fun k h1 h2 => by omega)
          have fw294 := fw294.only ow365 (fun k h1 h2 => by omega)
          have fw326 := fw326.only ow365 (fun k h1 h2 => by omega)
          have fw349_0 := fw349_0.only ow365 (fun k h1 h2 => by omega)
          have e := Ext.own e ow365 (fun k hk => by omega)
          have er := Ext.own er ow365 (fun k hk => by omega)
          have hbw356 := hbw356q
          have hbl := hbw253.lt
          have hcl1 := hbw356.lt
          exact ⟨_, _, _, _, _, rfl, rfl, by omega, by omega, by omega, by omega, hbl, by omega, hcl1, by omega, by omega, hbw356, hbw253, fw349_0, er⟩
         ·
          trivial
        ·
         trivial
       ·
        trivial
      ·
       refine ⟨?_, ?_⟩
       ·
        refine alloc_step (fun w330 ew330 hbw330 nw330 => ?_)
        have hbw1 := hbw1.ext ew330
        have hbw2 := hbw2.ext ew330
        have hbw13 := hbw13.ext ew330
        have hc1w13 := hc1w13.ext ew330
        have hbw24 := hbw24.ext ew330
        have hbw29 := hbw29.ext ew330
        have hc1w29 := hc1w29.ext ew330
        have hbw253 := hbw253.ext ew330
        have fw13 := fw13.ext ew330
        have fw55 := fw55.ext ew330
        have fw72 := fw72.ext ew330
        have fw86 := fw86.ext ew330
        have fw294 := fw294.ext ew330
        have fw326 := fw326.ext ew330
        have e := Only.trans e ew330
        have er := Only.trans er ew330
        have zw330 := ew330.size
        refine ⟨⟨_, hbw2.cell 0, _, hbw2.cell 1, _, hbw2.cell 2, rfl⟩, ?_⟩
        refine ⟨⟨_, hbw1.cell 0, _, hbw1.cell 1, p0_2, hbw1.cell 2, p0_3, hbw1.cell 3, rfl⟩, ?_⟩
        refine ⟨?_, ?_⟩
        ·
         refine (implSchedStep fw294.is sz0 fw326.is).mono ?_
         rintro _ w339 ⟨yw339_0, rfl, fw339_0, ew339⟩
         have hbw1 := hbw1.ext ew339
         have hbw2 := hbw2.ext ew339
         have hbw13 := hbw13.ext ew339
         have hc1w13 := hc1w13.ext ew339
         have hbw24 := hbw24.ext ew339
         have hbw29 := hbw29.ext ew339
         have hc1w29 := hc1w29.ext ew339
         have hbw253 := hbw253.ext ew339
         have hbw330 := hbw330.ext ew339
         have fw13 := fw13.ext ew339
         have fw55 := fw55.ext ew339
         have fw72 := fw72.ext ew339
         have fw86 := fw86.ext ew339
         have fw294 := fw294.ext ew339
         have fw326 := fw326.ext ew339
         have e := Only.trans e ew339
         have er := Only.trans er ew339
         have zw339 := ew339.size
         have hiyw339_0 := fw339_0.is
         obtain ⟨ryw339_0_2, ryw339_0_3, rfl, _, _, _, _⟩ := cells_Sched hiyw339_0
         refine ⟨_, _, ryw339_0_2, ryw339_0_3, _, _, rfl, ?_⟩
         refine ⟨?_, ?_⟩
         ·
          refine put_step hbw253 rfl rfl (fun w346 ow346 hbw253q nw346 => ?_)
          have hbw1 := hbw1.only ow346 (by omega)
          have hbw2 := hbw2.only ow346 (by omega)
          have hbw13 := hbw13.only ow346 (by omega)
          have hc1w13 := hc1w13.only ow346 (by omega)
          have hbw24 := hbw24.only ow346 (by omega)
          have hbw29 := hbw29.only ow346 (by omega)
          have hc1w29 := hc1w29.only ow346 (by omega)
          have hbw330 := hbw330.only ow346 (by omega)
          have fw13 := fw13.only ow346 (fun k h1 h2 => by omega)
          have fw55 := fw55.only ow346 (fun k h1 h2 => by omega)
          have fw72 := fw72.only ow346 (fun k h1 h2 => by omega)
          have fw86 := fw86.only ow346 (fun k h1 h2 => by omega)
          have fw294 := fw294.only ow346 (fun k h1 h2 => by omega)
          have fw326 := fw326.only ow346 (fun k h1 h2 => by omega)
          have fw339_0 := fw339_0.only ow346 (fun k h1 h2 => by omega)
          have e := Ext.own e ow346 (fun k hk => by omega)
          have er := Ext.own er ow346 (fun k hk => by omega)
          have hbw253 := hbw253q
          refine ⟨?_, ?_⟩
          ·
           refine put_step hbw330 rfl rfl (fun w347 ow347 hbw330q nw347 => ?_)
           have hbw1 := hbw1.only ow347 (by omega)
           have hbw2 := hbw2.only ow347 (by omega)
           have hbw13 := hbw13.only ow347 (by omega)
           have hc1w13 := hc1w13.only ow347 (by omega)
           have hbw24 := hbw24.only ow347 (by omega)
           have hbw29 := hbw29.only ow347 (by omega)
           have hc1w29 := hc1w29.only ow347 (by omega)
           have hbw253 := hbw253.only ow347 (by omega)
           have fw13 := fw13.only ow347 (fun k h1 h2 => by omega)
           have fw55 := fw55.only ow347 (fun k h1 h2 => by omega)
           have fw72 := fw72.only ow347 (fun k h1 h2 => by omega)
           have fw86 := fw86.only ow347 (fun k h1 h2 => by omega)
           have fw294 := fw294.only ow347 (fun k h1 h2 => by omega)
           have fw326 := fw326.only ow347 (fun k h1 h2 => by omega)
           have fw339_0 := fw339_0.only ow347 (fun k h1 h2 => by omega)
           have e := Ext.own e ow347 (fun k hk => by omega)
           have er := Ext.own er ow347 (fun k hk => by omega)
           have hbw330 := hbw330q
           have hbl := hbw253.lt
           have hcl1 := hbw330.lt
           exact ⟨_, _, _, _, _, rfl, rfl, by omega, by omega, by omega, by omega, hbl, by omega, hcl1, by omega, by omega, hbw330, hbw253, fw339_0, er⟩
          ·
           trivial
         ·
          trivial
        ·
         trivial
       ·
        trivial
     ·
      refine ⟨?_, ?_⟩
      ·
       refine alloc_step (fun w302 ew302 hbw302 nw302 => ?_)
       have hbw1 := hbw1.ext ew302
       have hbw2 := hbw2.ext ew302
       have hbw13 := hbw13.ext ew302
       have hc1w13 := hc1w13.ext ew302
       have hbw24 := hbw24.ext ew302
       have hbw29 := hbw29.ext ew302
       have hc1w29 := hc1w29.ext ew302
       have hbw253 := hbw253.ext ew302
       have fw13 := fw13.ext ew302
       have fw55 := fw55.ext ew302
       have fw72 := fw72.ext ew302
       have fw86 := fw86.ext ew302
       have fw294 := fw294.ext ew302
       have e := Only.trans e ew302
       have er := Only.trans er ew302
       have zw302 := ew302.size
       refine ⟨⟨_, hbw2.cell 0, _, hbw2.cell 1, _, hbw2.cell 2, rfl⟩, ?_⟩
       refine ⟨⟨_, hbw1.cell 0, _, hbw1.cell 1, p0_2, hbw1.cell 2, p0_3, hbw1.cell 3, rfl⟩, ?_⟩
       refine ⟨?_, ?_⟩
       ·
        refine (c23 (DSchedOp.has _) (IsD.ext e _ _ h1) (by have := op_sz op; omega)).mono ?_
        rintro _ w311 ⟨yw311, rfl, fw311, ew311⟩
        have hbw1 := hbw1.ext ew311
        have hbw2 := hbw2.ext ew311
        have hbw13 := hbw13.ext ew311
        have hc1w13 := hc1w13.ext ew311
        have hbw24 := hbw24.ext ew311
        have hbw29 := hbw29.ext ew311
        have hc1w29 := hc1w29.ext ew311
        have hbw253 := hbw253.ext ew311
        have hbw302 := hbw302.ext ew311
        have fw13 := fw13.ext ew311
        have fw55 := fw55.ext ew311
        have fw72 := fw72.ext ew311
        have fw86 := fw86.ext ew311
        have fw294 := fw294.ext ew311
        have e := Only.trans e ew311
        have er := Only.trans er ew311
        have zw311 := ew311.size
        have hiyw311 := fw311.is
        obtain ⟨rfl, _, _, _⟩ := cells_SchedOp hiyw311
        refine ⟨_, _, _, rfl, ?_⟩
        refine ⟨?_, ?_⟩
        ·
         refine (implSchedStep fw294.is sz0 fw311.is).mono ?_
         rintro _ w316 ⟨yw316_0, rfl, fw316_0, ew316⟩
         have hbw1 := hbw1.ext ew316
         have hbw2 := hbw2.ext ew316
         have hbw13 := hbw13.ext ew316
         have hc1w13 := hc1w13.ext ew316
         have hbw24 := hbw24.ext ew316
         have hbw29 := hbw29.ext ew316
         have hc1w29 := hc1w29.ext ew316
         have hbw253 := hbw253.ext ew316
         have hbw302 := hbw302.ext ew316
         have fw13 := fw13.ext ew316
         have fw55 := fw55.ext ew316
         have fw72 := fw72.ext ew316
         have fw86 := fw86.ext ew316
         have fw294 := fw294.ext ew316
         have fw311 := fw311.ext ew316
         have e := Only.trans e ew316
         have er := Only.trans er ew316
         have zw316 := ew316.size
         have hiyw316_0 := fw316_0.is
         obtain ⟨ryw316_0_2, ryw316_0_3, rfl, _, _, _, _⟩ := cells_Sched hiyw316_0
         refine ⟨_, _, ryw316_0_2, ryw316_0_3, _, _, rfl, ?_⟩
         refine ⟨?_, ?_⟩
         ·
          refine put_step hbw253 rfl rfl (fun w323 ow323 hbw253q nw323 => ?_)
          have hbw1 := hbw1.only ow323 (by omega)
          have hbw2 := hbw2.only ow323 (by omega)
          have hbw13 := hbw13.only ow323 (by omega)
          have hc1w13 := hc1w13.only ow323 (by omega)
          have hbw24 := hbw24.only ow323 (by omega)
          have hbw29 := hbw29.only ow323 (by omega)
          have hc1w29 := hc1w29.only ow323 (by omega)
          have hbw302 := hbw302.only ow323 (by omega)
          have fw13 := fw13.only ow323 (fun k h1 h2 => by omega)
          have fw55 := fw55.only ow323 (fun k h1 h2 => by omega)
          have fw72 := fw72.only ow323 (fun k h1 h2 => by omega)
          have fw86 := fw86.only ow323 (fun k h1 h2 => by omega)
          have fw294 := fw294.only ow323 (fun k h1 h2 => by omega)
          have fw311 := fw311.only ow323 (fun k h1 h2 => by omega)
          have fw316_0 := fw316_0.only ow323 (fun k h1 h2 => by omega)
          have e := Ext.own e ow323 (fun k hk => by omega)
          have er := Ext.own er ow323 (fun k hk => by omega)
          have hbw253 := hbw253q
          refine ⟨?_, ?_⟩
          ·
           refine put_step hbw302 rfl rfl (fun w324 ow324 hbw302q nw324 => ?_)
           have hbw1 := hbw1.only ow324 (by omega)
           have hbw2 := hbw2.only ow324 (by omega)
           have hbw13 := hbw13.only ow324 (by omega)
           have hc1w13 := hc1w13.only ow324 (by omega)
           have hbw24 := hbw24.only ow324 (by omega)
           have hbw29 := hbw29.only ow324 (by omega)
           have hc1w29 := hc1w29.only ow324 (by omega)
           have hbw253 := hbw253.only ow324 (by omega)
           have fw13 := fw13.only ow324 (fun k h1 h2 => by omega)
           have fw55 := fw55.only ow324 (fun k h1 h2 => by omega)
           have fw72 := fw72.only ow324 (fun k h1 h2 => by omega)
           have fw86 := fw86.only ow324 (fun k h1 h2 => by omega)
           have fw294 := fw294.only ow324 (fun k h1 h2 => by omega)
           have fw311 := fw311.only ow324 (fun k h1 h2 => by omega)
           have fw316_0 := fw316_0.only ow324 (fun k h1 h2 => by omega)
           have e := Ext.own e ow324 (fun k hk => by omega)
           have er := Ext.own er ow324 (fun k hk => by omega)
           have hbw302 := hbw302q
           have hbl := hbw253.lt
           have hcl1 := hbw302.lt
           exact ⟨_, _, _, _, _, rfl, rfl, by omega, by omega, by omega, by omega, hbl, by omega, hcl1, by omega, by omega, hbw302, hbw253, fw316_0, er⟩
          ·
           trivial
         ·
          trivial
        ·
         trivial
       ·
        trivial
      ·
       trivial
    ·
     refine ⟨?_, ?_⟩
     ·
      refine alloc_step (fun w261 ew261 hbw261 nw261 => ?_)
      have hbw1 := hbw1.ext ew261
      have hbw2 := hbw2.ext ew261
      have hbw13 := hbw13.ext ew261
      have hc1w13 := hc1w13.ext ew261
      have hbw24 := hbw24.ext ew261
      have hbw29 := hbw29.ext ew261
      have hc1w29 := hc1w29.ext ew261
      have hbw253 := hbw253.ext ew261
      have fw13 := fw13.ext ew261
      have fw55 := fw55.ext ew261
      have fw72 := fw72.ext ew261
      have fw86 := fw86.ext ew261
      have e := Only.trans e ew261
      have er := Only.trans er ew261
      have zw261 := ew261.size
      refine ⟨⟨_, hbw2.cell 0, _, hbw2.cell 1, _, hbw2.cell 2, rfl⟩, ?_⟩
      refine ⟨⟨_, hbw1.cell 0, _, hbw1.cell 1, p0_2, hbw1.cell 2, p0_3, hbw1.cell 3, rfl⟩, ?_⟩
      refine ⟨?_, ?_⟩
      ·
       refine (c22 (DSched.has _) (IsD.ext e _ _ h0) (by have := sz0; omega)).mono ?_
       rintro _ w270 ⟨yw270, rfl, fw270, ew270⟩
       have hbw1 := hbw1.ext ew270
       have hbw2 := hbw2.ext ew270
       have hbw13 := hbw13.ext ew270
       have hc1w13 := hc1w13.ext ew270
       have hbw24 := hbw24.ext ew270
       have hbw29 := hbw29.ext ew270
       have hc1w29 := hc1w29.ext ew270
       have hbw253 := hbw253.ext ew270
       have hbw261 := hbw261.ext ew270
       have fw13 := fw13.ext ew270
       have fw55 := fw55.ext ew270
       have fw72 := fw72.ext ew270
       have fw86 := fw86.ext ew270
       have e := Only.trans e ew270
       have er := Only.trans er ew270
       have zw270 := ew270.size
       have hiyw270 := fw270.is
       obtain ⟨ryw270_2, ryw270_3, rfl, _, _, _, _⟩ := cells_Sched hiyw270
       refine ⟨_, _, ryw270_2, ryw270_3, rfl, ?_⟩
       refine ⟨⟨_, hbw2.cell 0, _, hbw2.cell 1, _, hbw2.cell 2, rfl⟩, ?_⟩
       refine ⟨?_, ?_⟩
       ·
        refine (c23 (DSchedOp.has _) (IsD.ext e _ _ h1) (by have := op_sz op; omega)).mono ?_
        rintro _ w279 ⟨yw279, rfl, fw279, ew279⟩
        have hbw1 := hbw1.ext ew279
        have hbw2 := hbw2.ext ew279
        have hbw13 := hbw13.ext ew279
        have hc1w13 := hc1w13.ext ew279
        have hbw24 := hbw24.ext ew279
        have hbw29 := hbw29.ext ew279
        have hc1w29 := hc1w29.ext ew279
        have hbw253 := hbw253.ext ew279
        have hbw261 := hbw261.ext ew279
        have fw13 := fw13.ext ew279
        have fw55 := fw55.ext ew279
        have fw72 := fw72.ext ew279
        have fw86 := fw86.ext ew279
        have fw270 := fw270.ext ew279
        have e := Only.trans e ew279
        have er := Only.trans er ew279
        have zw279 := ew279.size
        have hiyw279 := fw279.is
        obtain ⟨rfl, _, _, _⟩ := cells_SchedOp hiyw279
        refine ⟨_, _, _, rfl, ?_⟩
        refine ⟨?_, ?_⟩
        ·
         refine (implSchedStep fw270.is sz0 fw279.is).mono ?_
         rintro _ w284 ⟨yw284_0, rfl, fw284_0, ew284⟩
         have hbw1 := hbw1.ext ew284
         have hbw2 := hbw2.ext ew284
         have hbw13 := hbw13.ext ew284
         have hc1w13 := hc1w13.ext ew284
         have hbw24 := hbw24.ext ew284
         have hbw29 := hbw29.ext ew284
         have hc1w29 := hc1w29.ext ew284
         have hbw253 := hbw253.ext ew284
         have hbw261 := hbw261.ext ew284
         have fw13 := fw13.ext ew284
         have fw55 := fw55.ext ew284
         have fw72 := fw72.ext ew284
         have fw86 := fw86.ext ew284
         have fw270 := fw270.ext ew284
         have fw279 := fw279.ext ew284
         have e := Only.trans e ew284
         have er := Only.trans er ew284
         have zw284 := ew284.size
         have hiyw284_0 := fw284_0.is
         obtain ⟨ryw284_0_2, ryw284_0_3, rfl, _, _, _, _⟩ := cells_Sched hiyw284_0
         refine ⟨_, _, ryw284_0_2, ryw284_0_3, _, _, rfl, ?_⟩
         refine ⟨?_, ?_⟩
         ·
          refine put_step hbw253 rfl rfl (fun w291 ow291 hbw253q nw291 => ?_)
          have hbw1 := hbw1.only ow291 (by omega)
          have hbw2 := hbw2.only ow291 (by omega)
          have hbw13 := hbw13.only ow291 (by omega)
          have hc1w13 := hc1w13.only ow291 (by omega)
          have hbw24 := hbw24.only ow291 (by omega)
          have hbw29 := hbw29.only ow291 (by omega)
          have hc1w29 := hc1w29.only ow291 (by omega)
          have hbw261 := hbw261.only ow291 (by omega)
          have fw13 := fw13.only ow291 (fun k h1 h2 => by omega)
          have fw55 := fw55.only ow291 (fun k h1 h2 => by omega)
          have fw72 := fw72.only ow291 (fun k h1 h2 => by omega)
          have fw86 := fw86.only ow291 (fun k h1 h2 => by omega)
          have fw270 := fw270.only ow291 (fun k h1 h2 => by omega)
          have fw279 := fw279.only ow291 (fun k h1 h2 => by omega)
          have fw284_0 := fw284_0.only ow291 (fun k h1 h2 => by omega)
          have e := Ext.own e ow291 (fun k hk => by omega)
          have er := Ext.own er ow291 (fun k hk => by omega)
          have hbw253 := hbw253q
          refine ⟨?_, ?_⟩
          ·
           refine put_step hbw261 rfl rfl (fun w292 ow292 hbw261q nw292 => ?_)
           have hbw1 := hbw1.only ow292 (by omega)
           have hbw2 := hbw2.only ow292 (by omega)
           have hbw13 := hbw13.only ow292 (by omega)
           have hc1w13 := hc1w13.only ow292 (by omega)
           have hbw24 := hbw24.only ow292 (by omega)
           have hbw29 := hbw29.only ow292 (by omega)
           have hc1w29 := hc1w29.only ow292 (by omega)
           have hbw253 := hbw253.only ow292 (by omega)
           have fw13 := fw13.only ow292 (fun k h1 h2 => by omega)
           have fw55 := fw55.only ow292 (fun k h1 h2 => by omega)
           have fw72 := fw72.only ow292 (fun k h1 h2 => by omega)
           have fw86 := fw86.only ow292 (fun k h1 h2 => by omega)
           have fw270 := fw270.only ow292 (fun k h1 h2 => by omega)
           have fw279 := fw279.only ow292 (fun k h1 h2 => by omega)
           have fw284_0 := fw284_0.only ow292 (fun k h1 h2 => by omega)
           have e := Ext.own e ow292 (fun k hk => by omega)
           have er := Ext.own er ow292 (fun k hk => by omega)
           have hbw261 := hbw261q
           have hbl := hbw253.lt
           have hcl1 := hbw261.lt
           exact ⟨_, _, _, _, _, rfl, rfl, by omega, by omega, by omega, by omega, hbl, by omega, hcl1, by omega, by omega, hbw261, hbw253, fw284_0, er⟩
          ·
           trivial
         ·
          trivial
        ·
         trivial
       ·
        trivial
      ·
       trivial
     ·
      trivial
   ·
    refine ⟨?_, ?_⟩
    ·
     refine alloc_step (fun w140 ew140 hbw140 nw140 => ?_)
     have hbw1 := hbw1.ext ew140
     have hbw2 := hbw2.ext ew140
     have hbw13 := hbw13.ext ew140
     have hc1w13 := hc1w13.ext ew140
     have hbw24 := hbw24.ext ew140
     have hbw29 := hbw29.ext ew140
     have hc1w29 := hc1w29.ext ew140
     have fw13 := fw13.ext ew140
     have fw55 := fw55.ext ew140
     have fw72 := fw72.ext ew140
     have fw86 := fw86.ext ew140
     have e := Only.trans e ew140
     have er := Only.trans er ew140
     have zw140 := ew140.size
     refine ⟨⟨_, hbw2.cell 0, _, hbw2.cell 1, _, hbw2.cell 2, rfl⟩, ?_⟩
     refine ⟨⟨_, hbw1.cell 0, _, hbw1.cell 1, p0_2, hbw1.cell 2, p0_3, hbw1.cell 3, rfl⟩, ?_⟩
     refine ⟨?_, ?_⟩
     ·
      refine (c22 (DSched.has _) (IsD.ext e _ _ h0) (by have := sz0; omega)).mono ?_
      rintro _ w181 ⟨yw181, rfl, fw181, ew181⟩
      have hbw1 := hbw1.ext ew181
      have hbw2 := hbw2.ext ew181
      have hbw13 := hbw13.ext ew181
      have hc1w13 := hc1w13.ext ew181
      have hbw24 := hbw24.ext ew181
      have hbw29 := hbw29.ext ew181
      have hc1w29 := hc1w29.ext ew181
      have hbw140 := hbw140.ext ew181
      have fw13 := fw13.ext ew181
      have fw55 := fw55.ext ew181
      have fw72 := fw72.ext ew181
      have fw86 := fw86.ext ew181
      have e := Only.trans e ew181
      have er := Only.trans er ew181
      have zw181 := ew181.size
      have hiyw181 := fw181.is
      obtain ⟨ryw181_2, ryw181_3, rfl, _, _, _, _⟩ := cells_Sched hiyw181
      refine ⟨_, _, ryw181_2, ryw181_3, rfl, ?_⟩
      refine ⟨⟨_, hbw2.cell 0, _, hbw2.cell 1, _, hbw2.cell 2, rfl⟩, ?_⟩
      refine ⟨?_, ?_⟩
      ·
       refine (c23 (DSchedOp.has _) (IsD.ext e _ _ h1) (by have := op_sz op; omega)).mono ?_
       rintro _ w213 ⟨yw213, rfl, fw213, ew213⟩
       have hbw1 := hbw1.ext ew213
       have hbw2 := hbw2.ext ew213
       have hbw13 := hbw13.ext ew213
       have hc1w13 := hc1w13.ext ew213
       have hbw24 := hbw24.ext ew213
       have hbw29 := hbw29.ext ew213
       have hc1w29 := hc1w29.ext ew213
       have hbw140 := hbw140.ext ew213
       have fw13 := fw13.ext ew213
       have fw55 := fw55.ext ew213
       have fw72 := fw72.ext ew213
       have fw86 := fw86.ext ew213
       have fw181 := fw181.ext ew213
       have e := Only.trans e ew213
       have er := Only.trans er ew213
       have zw213 := ew213.size
       have hiyw213 := fw213.is
       obtain ⟨rfl, _, _, _⟩ := cells_SchedOp hiyw213
       refine ⟨_, _, _, rfl, ?_⟩
       refine ⟨?_, ?_⟩
       ·
        refine (implSchedStep fw181.is sz0 fw213.is).mono ?_
        rintro _ w236 ⟨yw236_0, rfl, fw236_0, ew236⟩
        have hbw1 := hbw1.ext ew236
        have hbw2 := hbw2.ext ew236
        have hbw13 := hbw13.ext ew236
        have hc1w13 := hc1w13.ext ew236
        have hbw24 := hbw24.ext ew236
        have hbw29 := hbw29.ext ew236
        have hc1w29 := hc1w29.ext ew236
        have hbw140 := hbw140.ext ew236
        have fw13 := fw13.ext ew236
        have fw55 := fw55.ext ew236
        have fw72 := fw72.ext ew236
        have fw86 := fw86.ext ew236
        have fw181 := fw181.ext ew236
        have fw213 := fw213.ext ew236
        have e := Only.trans e ew236
        have er := Only.trans er ew236
        have zw236 := ew236.size
        have hiyw236_0 := fw236_0.is
        obtain ⟨ryw236_0_2, ryw236_0_3, rfl, _, _, _, _⟩ := cells_Sched hiyw236_0
        refine ⟨_, _, ryw236_0_2, ryw236_0_3, _, _, rfl, ?_⟩
        refine ⟨?_, ?_⟩
        ·
         refine alloc_step (fun w243 ew243 hbw243 nw243 => ?_)
         have hbw1 := hbw1.ext ew243
         have hbw2 := hbw2.ext ew243
         have hbw13 := hbw13.ext ew243
         have hc1w13 := hc1w13.ext ew243
         have hbw24 := hbw24.ext ew243
         have hbw29 := hbw29.ext ew243
         have hc1w29 := hc1w29.ext ew243
         have hbw140 := hbw140.ext ew243
         have fw13 := fw13.ext ew243
         have fw55 := fw55.ext ew243
         have fw72 := fw72.ext ew243
         have fw86 := fw86.ext ew243
         have fw181 := fw181.ext ew243
         have fw213 := fw213.ext ew243
         have fw236_0 := fw236_0.ext ew243
         have e := Only.trans e ew243
         have er := Only.trans er ew243
         have zw243 := ew243.size
         refine ⟨⟨_, hbw2.cell 0, _, hbw2.cell 1, _, hbw2.cell 2, rfl⟩, ?_⟩
         refine ⟨⟨_, hbw1.cell 0, _, hbw1.cell 1, p0_2, hbw1.cell 2, p0_3, hbw1.cell 3, rfl⟩, ?_⟩
         refine ⟨?_, ?_⟩
         ·
          refine put_step hbw243 rfl rfl (fun w251 ow251 hbw243q nw251 => ?_)
          have hbw1 := hbw1.only ow251 (by omega)
          have hbw2 := hbw2.only ow251 (by omega)
          have hbw13 := hbw13.only ow251 (by omega)
          have hc1w13 := hc1w13.only ow251 (by omega)
          have hbw24 := hbw24.only ow251 (by omega)
          have hbw29 := hbw29.only ow251 (by omega)
          have hc1w29 := hc1w29.only ow251 (by omega)
          have hbw140 := hbw140.only ow251 (by omega)
          have fw13 := fw13.only ow251 (fun k h1 h2 => by omega)
          have fw55 := fw55.only ow251 (fun k h1 h2 => by omega)
          have fw72 := fw72.only ow251 (fun k h1 h2 => by omega)
          have fw86 := fw86.only ow251 (fun k h1 h2 => by omega)
          have fw181 := fw181.only ow251 (fun k h1 h2 => by omega)
          have fw213 := fw213.only ow251 (fun k h1 h2 => by omega)
          have fw236_0 := fw236_0.only ow251 (fun k h1 h2 => by omega)
          have e := Ext.own e ow251 (fun k hk => by omega)
          have er := Ext.own er ow251 (fun k hk => by omega)
          have hbw243 := hbw243q
          refine ⟨?_, ?_⟩
          ·
           refine put_step hbw140 rfl rfl (fun w252 ow252 hbw140q nw252 => ?_)
           have hbw1 := hbw1.only ow252 (by omega)
           have hbw2 := hbw2.only ow252 (by omega)
           have hbw13 := hbw13.only ow252 (by omega)
           have hc1w13 := hc1w13.only ow252 (by omega)
           have hbw24 := hbw24.only ow252 (by omega)
           have hbw29 := hbw29.only ow252 (by omega)
           have hc1w29 := hc1w29.only ow252 (by omega)
           have hbw243 := hbw243.only ow252 (by omega)
           have fw13 := fw13.only ow252 (fun k h1 h2 => by omega)
           have fw55 := fw55.only ow252 (fun k h1 h2 => by omega)
           have fw72 := fw72.only ow252 (fun k h1 h2 => by omega)
           have fw86 := fw86.only ow252 (fun k h1 h2 => by omega)
           have fw181 := fw181.only ow252 (fun k h1 h2 => by omega)
           have fw213 := fw213.only ow252 (fun k h1 h2 => by omega)
           have fw236_0 := fw236_0.only ow252 (fun k h1 h2 => by omega)
           have e := Ext.own e ow252 (fun k hk => by omega)
           have er := Ext.own er ow252 (fun k hk => by omega)
           have hbw140 := hbw140q
           have hbl := hbw243.lt
           have hcl1 := hbw140.lt
           exact ⟨_, _, _, _, _, rfl, rfl, by omega, by omega, by omega, by omega, hbl, by omega, hcl1, by omega, by omega, hbw140, hbw243, fw236_0, er⟩
          ·
           trivial
         ·
          trivial
        ·
         trivial
       ·
        refine ⟨?_, ?_⟩
        ·
         refine alloc_step (fun w217 ew217 hbw217 nw217 => ?_)
         have hbw1 := hbw1.ext ew217
         have hbw2 := hbw2.ext ew217
         have hbw13 := hbw13.ext ew217
         have hc1w13 := hc1w13.ext ew217
         have hbw24 := hbw24.ext ew217
         have hbw29 := hbw29.ext ew217
         have hc1w29 := hc1w29.ext ew217
         have hbw140 := hbw140.ext ew217
         have fw13 := fw13.ext ew217
         have fw55 := fw55.ext ew217
         have fw72 := fw72.ext ew217
         have fw86 := fw86.ext ew217
         have fw181 := fw181.ext ew217
         have fw213 := fw213.ext ew217
         have e := Only.trans e ew217
         have er := Only.trans er ew217
         have zw217 := ew217.size
         refine ⟨⟨_, hbw2.cell 0, _, hbw2.cell 1, _, hbw2.cell 2, rfl⟩, ?_⟩
         refine ⟨⟨_, hbw1.cell 0, _, hbw1.cell 1, p0_2, hbw1.cell 2, p0_3, hbw1.cell 3, rfl⟩, ?_⟩
         refine ⟨?_, ?_⟩
         ·
          refine (implSchedStep fw181.is sz0 fw213.is).mono ?_
          rintro _ w226 ⟨yw226_0, rfl, fw226_0, ew226⟩
          have hbw1 := hbw1.ext ew226
          have hbw2 := hbw2.ext ew226
          have hbw13 := hbw13.ext ew226
          have hc1w13 := hc1w13.ext ew226
          have hbw24 := hbw24.ext ew226
          have hbw29 := hbw29.ext ew226
          have hc1w29 := hc1w29.ext ew226
          have hbw140 := hbw140.ext ew226
          have hbw217 := hbw217.ext ew226
          have fw13 := fw13.ext ew226
          have fw55 := fw55.ext ew226
          have fw72 := fw72.ext ew226
          have fw86 := fw86.ext ew226
          have fw181 := fw181.ext ew226
          have fw213 := fw213.ext ew226
          have e := Only.trans e ew226
          have er := Only.trans er ew226
          have zw226 := ew226.size
          have hiyw226_0 := fw226_0.is
          obtain ⟨ryw226_0_2, ryw226_0_3, rfl, _, _, _, _⟩ := cells_Sched hiyw226_0
          refine ⟨_, _, ryw226_0_2, ryw226_0_3, _, _, rfl, ?_⟩
          refine ⟨?_, ?_⟩
          ·
           refine put_step hbw217 rfl rfl (fun w233 ow233 hbw217q nw233 => ?_)
           have hbw1 := hbw1.only ow233 (by omega)
           have hbw2 := hbw2.only ow233 (by omega)
           have hbw13 := hbw13.only ow233 (by omega)
           have hc1w13 := hc1w13.only ow233 (by omega)
           have hbw24 := hbw24.only ow233 (by omega)
           have hbw29 := hbw29.only ow233 (by omega)
           have hc1w29 := hc1w29.only ow233 (by omega)
           have hbw140 := hbw140.only ow233 (by omega)
           have fw13 := fw13.only ow233 (fun k h1 h2 => by omega)
           have fw55 := fw55.only ow233 (fun k h1 h2 => by omega)
           have fw72 := fw72.only ow233 (fun k h1 h2 => by omega)
           have fw86 := fw86.only ow233 (fun k h1 h2 => by omega)
           have fw181 := fw181.only ow233 (fun k h1 h2 => by omega)
           have fw213 := fw213.only ow233 (fun k h1 h2 => by omega)
           have fw226_0 := fw226_0.only ow233 (fun k h1 h2 => by omega)
           have e := Ext.own e ow233 (fun k hk => by omega)
           have er := Ext.own er ow233 (fun k hk => by omega)
           have hbw217 := hbw217q
           refine ⟨?_, ?_⟩
           ·
            refine put_step hbw140 rfl rfl (fun w234 ow234 hbw140q nw234 => ?_)
            have hbw1 := hbw1.only ow234 (by omega)
            have hbw2 := hbw2.only ow234 (by omega)
            have hbw13 := hbw13.only ow234 (by omega)
            have hc1w13 := hc1w13.only ow234 (by omega)
            have hbw24 := hbw24.only ow234 (by omega)
            have hbw29 := hbw29.only ow234 (by omega)
            have hc1w29 := hc1w29.only ow234 (by omega)
            have hbw217 := hbw217.only ow234 (by omega)
            have fw13 := fw13.only ow234 (fun k h1 h2 => by omega)
            have fw55 := fw55.only ow234 (fun k h1 h2 => by omega)
            have fw72 := fw72.only ow234 (fun k h1 h2 => by omega)
            have fw86 := fw86.only ow234 (fun k h1 h2 => by omega)
            have fw181 := fw181.only ow234 (fun k h1 h2 => by omega)
            have fw213 := fw213.only ow234 (fun k h1 h2 => by omega)
            have fw226_0 := fw226_0.only ow234 (fun k h1 h2 => by omega)
            have e := Ext.own e ow234 (fun k hk => by omega)
            have er := Ext.own er ow234 (fun k hk => by omega)
            have hbw140 := hbw140q
            have hbl := hbw217.lt
            have hcl1 := hbw140.lt
            exact ⟨_, _, _, _, _, rfl, rfl, by omega, by omega, by omega, by omega, hbl, by omega, hcl1, by omega, by omega, hbw140, hbw217, fw226_0, er⟩
           ·
            trivial
          ·
           trivial
         ·
          trivial
        ·
         trivial
      ·
       refine ⟨?_, ?_⟩
       ·
        refine alloc_step (fun w189 ew189 hbw189 nw189 => ?_)
        have hbw1 := hbw1.ext ew189
        have hbw2 := hbw2.ext ew189
        have hbw13 := hbw13.ext ew189
        have hc1w13 := hc1w13.ext ew189
        have hbw24 := hbw24.ext ew189
        have hbw29 := hbw29.ext ew189
        have hc1w29 := hc1w29.ext ew189
        have hbw140 := hbw140.ext ew189
        have fw13 := fw13.ext ew189
        have fw55 := fw55.ext ew189
        have fw72 := fw72.ext ew189
        have fw86 := fw86.ext ew189
        have fw181 := fw181.ext ew189
        have e := Only.trans e ew189
        have er := Only.trans er ew189
        have zw189 := ew189.size
        refine ⟨⟨_, hbw2.cell 0, _, hbw2.cell 1, _, hbw2.cell 2, rfl⟩, ?_⟩
        refine ⟨⟨_, hbw1.cell 0, _, hbw1.cell 1, p0_2, hbw1.cell 2, p0_3, hbw1.cell 3, rfl⟩, ?_⟩
        refine ⟨?_, ?_⟩
        ·
         refine (c23 (DSchedOp.has _) (IsD.ext e _ _ h1) (by have := op_sz op; omega)).mono ?_
         rintro _ w198 ⟨yw198, rfl, fw198, ew198⟩
         have hbw1 := hbw1.ext ew198
         have hbw2 := hbw2.ext ew198
         have hbw13 := hbw13.ext ew198
         have hc1w13 := hc1w13.ext ew198
         have hbw24 := hbw24.ext ew198
         have hbw29 := hbw29.ext ew198
         have hc1w29 := hc1w29.ext ew198
         have hbw140 := hbw140.ext ew198
         have hbw189 := hbw189.ext ew198
         have fw13 := fw13.ext ew198
         have fw55 := fw55.ext ew198
         have fw72 := fw72.ext ew198
         have fw86 := fw86.ext ew198
         have fw181 := fw181.ext ew198
         have e := Only.trans e ew198
         have er := Only.trans er ew198
         have zw198 := ew198.size
         have hiyw198 := fw198.is
         obtain ⟨rfl, _, _, _⟩ := cells_SchedOp hiyw198
         refine ⟨_, _, _, rfl, ?_⟩
         refine ⟨?_, ?_⟩
         ·
          refine (implSchedStep fw181.is sz0 fw198.is).mono ?_
          rintro _ w203 ⟨yw203_0, rfl, fw203_0, ew203⟩
          have hbw1 := hbw1.ext ew203
          have hbw2 := hbw2.ext ew203
          have hbw13 := hbw13.ext ew203
          have hc1w13 := hc1w13.ext ew203
          have hbw24 := hbw24.ext ew203
          have hbw29 := hbw29.ext ew203
          have hc1w29 := hc1w29.ext ew203
          have hbw140 := hbw140.ext ew203
          have hbw189 := hbw189.ext ew203
          have fw13 := fw13.ext ew203
          have fw55 := fw55.ext ew203
          have fw72 := fw72.ext ew203
          have fw86 := fw86.ext ew203
          have fw181 := fw181.ext ew203
          have fw198 := fw198.ext ew203
          have e := Only.trans e ew203
          have er := Only.trans er ew203
          have zw203 := ew203.size
          have hiyw203_0 := fw203_0.is
          obtain ⟨ryw203_0_2, ryw203_0_3, rfl, _, _, _, _⟩ := cells_Sched hiyw203_0
          refine ⟨_, _, ryw203_0_2, ryw203_0_3, _, _, rfl, ?_⟩
          refine ⟨?_, ?_⟩
          ·
           refine put_step hbw189 rfl rfl (fun w210 ow210 hbw189q nw210 => ?_)
           have hbw1 := hbw1.only ow210 (by omega)
           have hbw2 := hbw2.only ow210 (by omega)
           have hbw13 := hbw13.only ow210 (by omega)
           have hc1w13 := hc1w13.only ow210 (by omega)
           have hbw24 := hbw24.only ow210 (by omega)
           have hbw29 := hbw29.only ow210 (by omega)
           have hc1w29 := hc1w29.only ow210 (by omega)
           have hbw140 := hbw140.only ow210 (by omega)
           have fw13 := fw13.only ow210 (fun k h1 h2 => by omega)
           have fw55 := fw55.only ow210 (fun k h1 h2 => by omega)
           have fw72 := fw72.only ow210 (fun k h1 h2 => by omega)
           have fw86 := fw86.only ow210 (fun k h1 h2 => by omega)
           have fw181 := fw181.only ow210 (fun k h1 h2 => by omega)
           have fw198 := fw198.only ow210 (fun k h1 h2 => by omega)
           have fw203_0 := fw203_0.only ow210 (fun k h1 h2 => by omega)
           have e := Ext.own e ow210 (fun k hk => by omega)
           have er := Ext.own er ow210 (fun k hk => by omega)
           have hbw189 := hbw189q
           refine ⟨?_, ?_⟩
           ·
            refine put_step hbw140 rfl rfl (fun w211 ow211 hbw140q nw211 => ?_)
            have hbw1 := hbw1.only ow211 (by omega)
            have hbw2 := hbw2.only ow211 (by omega)
            have hbw13 := hbw13.only ow211 (by omega)
            have hc1w13 := hc1w13.only ow211 (by omega)
            have hbw24 := hbw24.only ow211 (by omega)
            have hbw29 := hbw29.only ow211 (by omega)
            have hc1w29 := hc1w29.only ow211 (by omega)
            have hbw189 := hbw189.only ow211 (by omega)
            have fw13 := fw13.only ow211 (fun k h1 h2 => by omega)
            have fw55 := fw55.only ow211 (fun k h1 h2 => by omega)
            have fw72 := fw72.only ow211 (fun k h1 h2 => by omega)
            have fw86 := fw86.only ow211 (fun k h1 h2 => by omega)
            have fw181 := fw181.only ow211 (fun k h1 h2 => by omega)
            have fw198 := fw198.only ow211 (fun k h1 h2 => by omega)
            have fw203_0 := fw203_0.only ow211 (fun k h1 h2 => by omega)
            have e := Ext.own e ow211 (fun k hk => by omega)
            have er := Ext.own er ow211 (fun k hk => by omega)
            have hbw140 := hbw140q
            have hbl := hbw189.lt
            have hcl1 := hbw140.lt
            exact ⟨_, _, _, _, _, rfl, rfl, by omega, by omega, by omega, by omega, hbl, by omega, hcl1, by omega, by omega, hbw140, hbw189, fw203_0, er⟩
           ·
            trivial
          ·
           trivial
         ·
          trivial
        ·
         trivial
       ·
        trivial
     ·
      refine ⟨?_, ?_⟩
      ·
       refine alloc_step (fun w148 ew148 hbw148 nw148 => ?_)
       have hbw1 := hbw1.ext ew148
       have hbw2 := hbw2.ext ew148
       have hbw13 := hbw13.ext ew148
       have hc1w13 := hc1w13.ext ew148
       have hbw24 := hbw24.ext ew148
       have hbw29 := hbw29.ext ew148
       have hc1w29 := hc1w29.ext ew148
       have hbw140 := hbw140.ext ew148
       have fw13 := fw13.ext ew148
       have fw55 := fw55.ext ew148
       have fw72 := fw72.ext ew148
       have fw86 := fw86.ext ew148
       have e := Only.trans e ew148
       have er := Only.trans er ew148
       have zw148 := ew148.size
       refine ⟨⟨_, hbw2.cell 0, _, hbw2.cell 1, _, hbw2.cell 2, rfl⟩, ?_⟩
       refine ⟨⟨_, hbw1.cell 0, _, hbw1.cell 1, p0_2, hbw1.cell 2, p0_3, hbw1.cell 3, rfl⟩, ?_⟩
       refine ⟨?_, ?_⟩
       ·
        refine (c22 (DSched.has _) (IsD.ext e _ _ h0) (by have := sz0; omega)).mono ?_
        rintro _ w157 ⟨yw157, rfl, fw157, ew157⟩
        have hbw1 := hbw1.ext ew157
        have hbw2 := hbw2.ext ew157
        have hbw13 := hbw13.ext ew157
        have hc1w13 := hc1w13.ext ew157
        have hbw24 := hbw24.ext ew157
        have hbw29 := hbw29.ext ew157
        have hc1w29 := hc1w29.ext ew157
        have hbw140 := hbw140.ext ew157
        have hbw148 := hbw148.ext ew157
        have fw13 := fw13.ext ew157
        have fw55 := fw55.ext ew157
        have fw72 := fw72.ext ew157
        have fw86 := fw86.ext ew157
        have e := Only.trans e ew157
        have er := Only.trans er ew157
        have zw157 := ew157.size
        have hiyw157 := fw157.is
        obtain ⟨ryw157_2, ryw157_3, rfl, _, _, _, _⟩ := cells_Sched hiyw157
        refine ⟨_, _, ryw157_2, ryw157_3, rfl, ?_⟩
        refine ⟨⟨_, hbw2.cell 0, _, hbw2.cell 1, _, hbw2.cell 2, rfl⟩, ?_⟩
        refine ⟨?_, ?_⟩
        ·
         refine (c23 (DSchedOp.has _) (IsD.ext e _ _ h1) (by have := op_sz op; omega)).mono ?_
         rintro _ w166 ⟨yw166, rfl, fw166, ew166⟩
         have hbw1 := hbw1.ext ew166
         have hbw2 := hbw2.ext ew166
         have hbw13 := hbw13.ext ew166
         have hc1w13 := hc1w13.ext ew166
         have hbw24 := hbw24.ext ew166
         have hbw29 := hbw29.ext ew166
         have hc1w29 := hc1w29.ext ew166
         have hbw140 := hbw140.ext ew166
         have hbw148 := hbw148.ext ew166
         have fw13 := fw13.ext ew166
         have fw55 := fw55.ext ew166
         have fw72 := fw72.ext ew166
         have fw86 := fw86.ext ew166
         have fw157 := fw157.ext ew166
         have e := Only.trans e ew166
         have er := Only.trans er ew166
         have zw166 := ew166.size
         have hiyw166 := fw166.is
         obtain ⟨rfl, _, _, _⟩ := cells_SchedOp hiyw166
         refine ⟨_, _, _, rfl, ?_⟩
         refine ⟨?_, ?_⟩
         ·
          refine (implSchedStep fw157.is sz0 fw166.is).mono ?_
          rintro _ w171 ⟨yw171_0, rfl, fw171_0, ew171⟩
          have hbw1 := hbw1.ext ew171
          have hbw2 := hbw2.ext ew171
          have hbw13 := hbw13.ext ew171
          have hc1w13 := hc1w13.ext ew171
          have hbw24 := hbw24.ext ew171
          have hbw29 := hbw29.ext ew171
          have hc1w29 := hc1w29.ext ew171
          have hbw140 := hbw140.ext ew171
          have hbw148 := hbw148.ext ew171
          have fw13 := fw13.ext ew171
          have fw55 := fw55.ext ew171
          have fw72 := fw72.ext ew171
          have fw86 := fw86.ext ew171
          have fw157 := fw157.ext ew171
          have fw166 := fw166.ext ew171
          have e := Only.trans e ew171
          have er := Only.trans er ew171
          have zw171 := ew171.size
          have hiyw171_0 := fw171_0.is
          obtain ⟨ryw171_0_2, ryw171_0_3, rfl, _, _, _, _⟩ := cells_Sched hiyw171_0
          refine ⟨_, _, ryw171_0_2, ryw171_0_3, _, _, rfl, ?_⟩
          refine ⟨?_, ?_⟩
          ·
           refine put_step hbw148 rfl rfl (fun w178 ow178 hbw148q nw178 => ?_)
           have hbw1 := hbw1.only ow178 (by omega)
           have hbw2 := hbw2.only ow178 (by omega)
           have hbw13 := hbw13.only ow178 (by omega)
           have hc1w13 := hc1w13.only ow178 (by omega)
           have hbw24 := hbw24.only ow178 (by omega)
           have hbw29 := hbw29.only ow178 (by omega)
           have hc1w29 := hc1w29.only ow178 (by omega)
           have hbw140 := hbw140.only ow178 (by omega)
           have fw13 := fw13.only ow178 (fun k h1 h2 => by omega)
           have fw55 := fw55.only ow178 (fun k h1 h2 => by omega)
           have fw72 := fw72.only ow178 (fun k h1 h2 => by omega)
           have fw86 := fw86.only ow178 (fun k h1 h2 => by omega)
           have fw157 := fw157.only ow178 (fun k h1 h2 => by omega)
           have fw166 := fw166.only ow178 (fun k h1 h2 => by omega)
           have fw171_0 := fw171_0.only ow178 (fun k h1 h2 => by omega)
           have e := Ext.own e ow178 (fun k hk => by omega)
           have er := Ext.own er ow178 (fun k hk => by omega)
           have hbw148 := hbw148q
           refine ⟨?_, ?_⟩
           ·
            refine put_step hbw140 rfl rfl (fun w179 ow179 hbw140q nw179 => ?_)
            have hbw1 := hbw1.only ow179 (by omega)
            have hbw2 := hbw2.only ow179 (by omega)
            have hbw13 := hbw13.only ow179 (by omega)
            have hc1w13 := hc1w13.only ow179 (by omega)
            have hbw24 := hbw24.only ow179 (by omega)
            have hbw29 := hbw29.only ow179 (by omega)
            have hc1w29 := hc1w29.only ow179 (by omega)
            have hbw148 := hbw148.only ow179 (by omega)
            have fw13 := fw13.only ow179 (fun k h1 h2 => by omega)
            have fw55 := fw55.only ow179 (fun k h1 h2 => by omega)
            have fw72 := fw72.only ow179 (fun k h1 h2 => by omega)
            have fw86 := fw86.only ow179 (fun k h1 h2 => by omega)
            have fw157 := fw157.only ow179 (fun k h1 h2 => by omega)
            have fw166 := fw166.only ow179 (fun k h1 h2 => by omega)
            have fw171_0 := fw171_0.only ow179 (fun k h1 h2 => by omega)
            have e := Ext.own e ow179 (fun k hk => by omega)
            have er := Ext.own er ow179 (fun k hk => by omega)
            have hbw140 := hbw140q
            have hbl := hbw148.lt
            have hcl1 := hbw140.lt
            exact ⟨_, _, _, _, _, rfl, rfl, by omega, by omega, by omega, by omega, hbl, by omega, hcl1, by omega, by omega, hbw140, hbw148, fw171_0, er⟩
           ·
            trivial
          ·
           trivial
         ·
          trivial
        ·
         trivial
       ·
        trivial
      ·
       trivial
    ·
     trivial
 rintro (p96 : Option Addr) (p97 : Option Addr) w99 ⟨bw99, low99, hiw99, yw99, c1w99, rfl, rfl, hxw99, hlow99, hhiw99, hdsw99, hblw99, hcx1w99, hcl1w99, hcb1w99, hcd1w99, hc1w99, hbw99, fw99, erw99⟩
 have hbw1 := hbw1.ext erw99
 have hbw2 := hbw2.ext erw99
 have hbw13 := hbw13.ext erw99
 have hc1w13 := hc1w13.ext erw99
 have hbw24 := hbw24.ext erw99
 have hbw29 := hbw29.ext erw99
 have hc1w29 := hc1w29.ext erw99
 have fw13 := fw13.ext erw99
 have fw55 := fw55.ext erw99
 have fw72 := fw72.ext erw99
 have fw86 := fw86.ext erw99
 have e := Only.trans e erw99
 have zw99 := erw99.size
 have hiyw99 := fw99.is
 obtain ⟨ryw99_2, ryw99_3, rfl, _, _, _, _⟩ := cells_Sched hiyw99
 refine addrOf_mk ?_
 refine ⟨_, hbw99.cell 0, ?_⟩
 refine ⟨_, hbw99.cell 1, ?_⟩
 refine ⟨ryw99_2, hbw99.cell 2, ?_⟩
 refine ⟨ryw99_3, hbw99.cell 3, ?_⟩
 refine addrOf_mk ?_
 refine ⟨_, hbw13.cell 0, ?_⟩
 refine ⟨_, hbw13.cell 1, ?_⟩
 refine ⟨ryw13_2, hbw13.cell 2, ?_⟩
 refine ⟨ryw13_3, hbw13.cell 3, ?_⟩
 refine (c25 (DSched.has _) fw99.is fw13.is).mono ?_
 rintro _ w111 ⟨rfl, ew111⟩
 have hbw1 := hbw1.ext ew111
 have hbw2 := hbw2.ext ew111
 have hbw13 := hbw13.ext ew111
 have hc1w13 := hc1w13.ext ew111
 have hbw24 := hbw24.ext ew111
 have hbw29 := hbw29.ext ew111
 have hc1w29 := hc1w29.ext ew111
 have hbw99 := hbw99.ext ew111
 have hc1w99 := hc1w99.ext ew111
 have fw13 := fw13.ext ew111
 have fw55 := fw55.ext ew111
 have fw72 := fw72.ext ew111
 have fw86 := fw86.ext ew111
 have fw99 := fw99.ext ew111
 have e := Only.trans e ew111
 have zw111 := ew111.size
 refine ⟨_, rfl, ?_⟩
 refine JoinW.each ?_
 refine BIf.f rfl ?_
 refine addrOf_mk ?_
 refine ⟨_, hc1w99.cell 0, ?_⟩
 refine ⟨_, hc1w99.cell 1, ?_⟩
 refine addrOf_mk ?_
 refine ⟨_, hc1w13.cell 0, ?_⟩
 refine ⟨_, hc1w13.cell 1, ?_⟩
 refine (c26 (DSchedRes.has _) ((stepA_is x op) _) ((stepA_is x op) _)).mono ?_
 rintro _ w131 ⟨rfl, ew131⟩
 have hbw1 := hbw1.ext ew131
 have hbw2 := hbw2.ext ew131
 have hbw13 := hbw13.ext ew131
 have hc1w13 := hc1w13.ext ew131
 have hbw24 := hbw24.ext ew131
 have hbw29 := hbw29.ext ew131
 have hc1w29 := hc1w29.ext ew131
 have hbw99 := hbw99.ext ew131
 have hc1w99 := hc1w99.ext ew131
 have fw13 := fw13.ext ew131
 have fw55 := fw55.ext ew131
 have fw72 := fw72.ext ew131
 have fw86 := fw86.ext ew131
 have fw99 := fw99.ext ew131
 have e := Only.trans e ew131
 have zw131 := ew131.size
 refine ⟨_, rfl, ?_⟩
 refine BIf.f (by first | (simp; done) | (simp; omega)) ?_
 refine addrOf_mk ?_
 refine ⟨_, hbw29.cell 0, ?_⟩
 refine ⟨_, hbw29.cell 1, ?_⟩
 refine ⟨ryw29_2, hbw29.cell 2, ?_⟩
 refine ⟨ryw29_3, hbw29.cell 3, ?_⟩
 refine (c28 hsw86 fw86.is mkw86 (by omega) (by have := cnw86; have := stepD_cnt x op; omega)).mono ?_
 rintro _ w122 ⟨rfl, ew122⟩
 have hbw1 := hbw1.ext ew122
 have hbw2 := hbw2.ext ew122
 have hbw13 := hbw13.ext ew122
 have hc1w13 := hc1w13.ext ew122
 have hbw24 := hbw24.ext ew122
 have hbw29 := hbw29.ext ew122
 have hc1w29 := hc1w29.ext ew122
 have hbw99 := hbw99.ext ew122
 have hc1w99 := hc1w99.ext ew122
 have fw13 := fw13.ext ew122
 have fw55 := fw55.ext ew122
 have fw72 := fw72.ext ew122
 have fw86 := fw86.ext ew122
 have fw99 := fw99.ext ew122
 have e := Only.trans e ew122
 have zw122 := ew122.size
 refine ⟨_, rfl, ?_⟩
 refine BIf.f (decide_eq_false (by omega)) ?_
 refine BIf.f (by first | (simp; done) | (simp; omega)) ?_
 exact ⟨by trivial, e⟩
open Go.RowKit in
theorem law_calls4 {w : World} {c0 : Array Value} {x : DSched} (h0 : cDSched.is w c0.toList x) {c1 : Array Value} {op : DSchedOp} (h1 : cDSchedOp.is w c1.toList op) : Calls Try.prog 4 #[.agg c0, .agg c1] w (fun e w' => e = .returned (.bool true) ∧ Below w.heap.size w w') :=
 (walk4 (cDSched_dat h0) (cDSchedOp_dat h1)).mono (by rintro e w' ⟨v, rfl, rfl, he⟩; exact ⟨rfl, he.below⟩)
end Go.Proofs.Yteigefjiifihpaa
