/- Part 7 of 8: plain readings of code, rules for them, and a proof over them, joined by a program. Conditions: none. -/
import Derived.Test.YteigefjiifihpaaPstp6
/- The walk of a law: copies, both sides, comparisons; printed by a program. Conditions: none. -/
set_option linter.unusedVariables false
set_option linter.unusedSimpArgs false
set_option maxRecDepth 4000
namespace Go.Proofs.Yteigefjiifihpaa
open Go Go.Den
theorem goc8 {a0_0 : Sl} {a1_0 : Int} {a1_1 : Int} {a1_2 : Int} {a1_3 : Int} {w : World} {K : Value → World → Prop} (h : W8 a0_0 a1_0 a1_1 a1_2 a1_3 w K) : Calls Try.prog 8 #[.agg #[.slice a0_0.a a0_0.len a0_0.cap], .agg #[.int .i64 a1_0, .int .i64 a1_1, .int .i64 a1_2, .int .i64 a1_3]] w (fun e w' => ∃ v, e = .returned v ∧ K v w') :=
 denFn_sound tt_ok mix Try.func8 (by kernel_rfl) (eq8 a0_0 a1_0 a1_1 a1_2 a1_3 w K ▸ h)
set_option maxHeartbeats 8000000 in
theorem walk8 {w : World} {x : DProcs} {cs0 : List Value} (h0 : IsD w (x.dat) cs0) {op : DProcOp} {cs1 : List Value} (h1 : IsD w (op.dat) cs1) : Calls Try.prog 8 #[.agg ⟨cs0⟩, .agg ⟨cs1⟩] w (fun e w' => ∃ v, e = .returned v ∧ (v = .bool true ∧ Ext w w')) := by
 obtain ⟨p0_0, rfl, _⟩ := cells_Procs h0
 obtain ⟨rfl, _, _, _, _⟩ := cells_ProcOp h1
 refine goc8 ?_
 unfold W8
 refine alloc_step (fun w1 ew1 hbw1 nw1 => ?_)
 have e := ew1
 have zw1 := ew1.size
 refine alloc_step (fun w2 ew2 hbw2 nw2 => ?_)
 have hbw1 := hbw1.ext ew2
 have e := Only.trans e ew2
 have zw2 := ew2.size
 refine ⟨p0_0, hbw1.cell 0, ?_⟩
 refine (c47 (DProcs.has _) (IsD.ext e _ _ h0) (by omega) (by omega)).mono ?_
 rintro _ w5 ⟨⟨rw5, rfl, hrw5⟩, ew5⟩
 have hbw1 := hbw1.ext ew5
 have hbw2 := hbw2.ext ew5
 have e := Only.trans e ew5
 have zw5 := ew5.size
 refine ⟨_, rfl, ?_⟩
 refine BIf.dec (fun hn => ⟨rfl, e⟩) (fun hpw5 => ?_)
 have sz0 : (x.dat).sz ≤ 1048576 := by omega
 refine JoinW.cut2 (fun (p7 : Option Addr) (p8 : Option Addr) w' => ∃ (b lo hi : Nat) (y : List Value) (c1 : Nat), p7 = some ⟨b, 0, none⟩ ∧ p8 = some ⟨c1, 0, none⟩ ∧ w5.heap.size ≤ b ∧ w5.heap.size ≤ lo ∧ hi ≤ w'.heap.size ∧ (b < lo ∨ hi ≤ b) ∧ b < w'.heap.size ∧ w5.heap.size ≤ c1 ∧ c1 < w'.heap.size ∧ b ≠ c1 ∧ (c1 < lo ∨ hi ≤ c1) ∧ Blk w' c1 [.int .i64 (pstepA x op).Code, .int .i64 (pstepA x op).N, .int .i64 (pstepA x op).Status] ∧ Blk w' b y ∧ Fr lo hi w' (pstepD x op).dat y ∧ Ext w5 w') ?_ ?_
 ·
  have er : Ext w5 w5 := Only.refl _ _
  have zr0 : w5.heap.size ≤ w5.heap.size := Nat.le_refl _
  have ed := ext_drew w5
  have hbw1 := hbw1.ext ed
  have hbw2 := hbw2.ext ed
  have e := Only.trans e ed
  have er := Only.trans er ed
  have zw5_drew := ed.size
  refine ⟨p0_0, hbw1.cell 0, ?_⟩
  refine ⟨_, hbw2.cell 0, ?_⟩
  refine ⟨_, hbw2.cell 1, ?_⟩
  refine ⟨_, hbw2.cell 2, ?_⟩
  refine ⟨_, hbw2.cell 3, ?_⟩
  refine ⟨?_, ?_⟩
  ·
   refine (c49 (DProcs.has _) (IsD.ext e _ _ h0) (by have := sz0; omega)).mono ?_
   rintro _ w979 ⟨yw979, rfl, fw979, ew979⟩
   have hbw1 := hbw1.ext ew979
   have hbw2 := hbw2.ext ew979
   have e := Only.trans e ew979
   have er := Only.trans er ew979
   have zw979 := ew979.size
   have hiyw979 := fw979.is
   obtain ⟨ryw979_0, rfl, _⟩ := cells_Procs hiyw979
   refine ⟨ryw979_0, rfl, ?_⟩
   refine ⟨⟨_, hbw2.cell 0, _, hbw2.cell 1, _, hbw2.cell 2, _, hbw2.cell 3, rfl⟩, ?_⟩
   refine ⟨?_, ?_⟩
   ·
    refine (c50 (DProcOp.has _) (IsD.ext e _ _ h1) (by have := pop_sz op; omega)).mono ?_
    rintro _ w1106 ⟨yw1106, rfl, fw1106, ew1106⟩
    have hbw1 := hbw1.ext ew1106
    have hbw2 := hbw2.ext ew1106
    have fw979 := fw979.ext ew1106
    have e := Only.trans e ew1106
    have er := Only.trans er ew1106
    have zw1106 := ew1106.size
    have hiyw1106 := fw1106.is
    obtain ⟨rfl, _, _, _, _⟩ := cells_ProcOp hiyw1106
    refine ⟨_, _, _, _, rfl, ?_⟩
    refine ⟨?_, ?_⟩
    ·
     refine (specProcStep fw979.is sz0 fw1106.is).mono ?_
     rintro _ w1180 ⟨yw1180_0, rfl, fw1180_0, ew1180⟩
     have hbw1 := hbw1.ext ew1180
     have hbw2 := hbw2.ext ew1180
     have fw979 := fw979.ext ew1180
     have fw1106 := fw1106.ext ew1180
     have e := Only.trans e ew1180
     have er := Only.trans er ew1180
     have zw1180 := ew1180.size
     have hiyw1180_0 := fw1180_0.is
     obtain ⟨ryw1180_0_0, rfl, _⟩ := cells_Procs hiyw1180_0
     refine ⟨ryw1180_0_0, _, _, _, rfl, ?_⟩
     refine ⟨?_, ?_⟩
     ·
      refine alloc_step (fun w1199 ew1199 hbw1199 nw1199 => ?_)
      have hbw1 := hbw1.ext ew1199
      have hbw2 := hbw2.ext ew1199
      have fw979 := fw979.ext ew1199
      have fw1106 := fw1106.ext ew1199
      have fw1180_0 := fw1180_0.ext ew1199
      have e := Only.trans e ew1199
      have er := Only.trans er ew1199
      have zw1199 := ew1199.size
      refine ⟨⟨_, hbw2.cell 0, _, hbw2.cell 1, _, hbw2.cell 2, _, hbw2.cell 3, rfl⟩, ?_⟩
      refine ⟨⟨p0_0, hbw1.cell 0, rfl⟩, ?_⟩
      refine ⟨?_, ?_⟩
      ·
       refine alloc_step (fun w1205 ew1205 hbw1205 nw1205 => ?_)
       have hbw1 := hbw1.ext ew1205
       have hbw2 := hbw2.ext ew1205
       have hbw1199 := hbw1199.ext ew1205
       have fw979 := fw979.ext ew1205
       have fw1106 := fw1106.ext ew1205
       have fw1180_0 := fw1180_0.ext ew1205
       have e := Only.trans e ew1205
       have er := Only.trans er ew1205
       have zw1205 := ew1205.size
       refine ⟨⟨_, hbw2.cell 0, _, hbw2.cell 1, _, hbw2.cell 2, _, hbw2.cell 3, rfl⟩, ?_⟩
       refine ⟨⟨p0_0, hbw1.cell 0, rfl⟩, ?_⟩
       refine ⟨?_, ?_⟩
       ·
        refine set_step hbw1199 (by simp) (fun w1211 ow1211 hbw1199q nw1211 => ?_)
        have hbw1 := hbw1.only ow1211 (by omega)
        have hbw2 := hbw2.only ow1211 (by omega)
        have hbw1205 := hbw1205.only ow1211 (by omega)
        have fw979 := fw979.only ow1211 (fun k h1 h2 => by omega)
        have fw1106 := fw1106.only ow1211 (fun k h1 h2 => by omega)
        have fw1180_0 := fw1180_0.only ow1211 (fun k h1 h2 => by omega)
        have e := Ext.own e ow1211 (fun k hk => by omega)
        have er := Ext.own er ow1211 (fun k hk => by omega)
        have hbw1199 := hbw1199q
        refine ⟨?_, ?_⟩
        ·
         refine put_step hbw1205 rfl rfl (fun w1212 ow1212 hbw1205q nw1212 => ?_)
         have hbw1 := hbw1.only ow1212 (by omega)
         have hbw2 := hbw2.only ow1212 (by omega)
         have hbw1199 := hbw1199.only ow1212 (by omega)
         have fw979 := fw979.only ow1212 (fun k h1 h2 => by omega)
         have fw1106 := fw1106.only ow1212 (fun k h1 h2 => by omega)
         have fw1180_0 := fw1180_0.only ow1212 (fun k h1 h2 => by omega)
         have e := Ext.own e ow1212 (fun k hk => by omega)
         have er := Ext.own er ow1212 (fun k hk => by omega)
         have hbw1205 := hbw1205q
         have hbl := hbw1199.lt
         have hcl1 := hbw1205.lt
         exact ⟨_, _, _, _, _, rfl, rfl, by omega, by omega, by omega, by omega, hbl, by omega, hcl1, by omega, by omega, hbw1205, hbw1199, fw1180_0, er⟩
        ·
         trivial
       ·
        trivial
      ·
       trivial
     ·
      refine ⟨?_, ?_⟩
      ·
       refine alloc_step (fun w1185 ew1185 hbw1185 nw1185 => ?_)
       have hbw1 := hbw1.ext ew1185
       have hbw2 := hbw2.ext ew1185
       have fw979 := fw979.ext ew1185
       have fw1106 := fw1106.ext ew1185
       have fw1180_0 := fw1180_0.ext ew1185
       have e := Only.trans e ew1185
       have er := Only.trans er ew1185
       have zw1185 := ew1185.size
       refine ⟨⟨_, hbw2.cell 0, _, hbw2.cell 1, _, hbw2.cell 2, _, hbw2.cell 3, rfl⟩, ?_⟩
       refine ⟨⟨p0_0, hbw1.cell 0, rfl⟩, ?_⟩
       refine ⟨?_, ?_⟩
       ·
        refine alloc_step (fun w1191 ew1191 hbw1191 nw1191 => ?_)
        have hbw1 := hbw1.ext ew1191
        have hbw2 := hbw2.ext ew1191
        have hbw1185 := hbw1185.ext ew1191
        have fw979 := fw979.ext ew1191
        have fw1106 := fw1106.ext ew1191
        have fw1180_0 := fw1180_0.ext ew1191
        have e := Only.trans e ew1191
        have er := Only.trans er ew1191
        have zw1191 := ew1191.size
        refine ⟨⟨_, hbw2.cell 0, _, hbw2.cell 1, _, hbw2.cell 2, _, hbw2.cell 3, rfl⟩, ?_⟩
        refine ⟨⟨p0_0, hbw1.cell 0, rfl⟩, ?_⟩
        refine ⟨?_, ?_⟩
        ·
         refine set_step hbw1191 (by simp) (fun w1197 ow1197 hbw1191q nw1197 => ?_)
         have hbw1 := hbw1.only ow1197 (by omega)
         have hbw2 := hbw2.only ow1197 (by omega)
         have hbw1185 := hbw1185.only ow1197 (by omega)
         have fw979 := fw979.only ow1197 (fun k h1 h2 => by omega)
         have fw1106 := fw1106.only ow1197 (fun k h1 h2 => by omega)
         have fw1180_0 := fw1180_0.only ow1197 (fun k h1 h2 => by omega)
         have e := Ext.own e ow1197 (fun k hk => by omega)
         have er := Ext.own er ow1197 (fun k hk => by omega)
         have hbw1191 := hbw1191q
         refine ⟨?_, ?_⟩
         ·
          refine put_step hbw1185 rfl rfl (fun w1198 ow1198 hbw1185q nw1198 => ?_)
          have hbw1 := hbw1.only ow1198 (by omega)
          have hbw2 := hbw2.only ow1198 (by omega)
          have hbw1191 := hbw1191.only ow1198 (by omega)
          have fw979 := fw979.only ow1198 (fun k h1 h2 => by omega)
          have fw1106 := fw1106.only ow1198 (fun k h1 h2 => by omega)
          have fw1180_0 := fw1180_0.only ow1198 (fun k h1 h2 => by omega)
          have e := Ext.own e ow1198 (fun k hk => by omega)
          have er := Ext.own er ow1198 (fun k hk => by omega)
          have hbw1185 := hbw1185q
          have hbl := hbw1191.lt
          have hcl1 := hbw1185.lt
          exact ⟨_, _, _, _, _, rfl, rfl, by omega, by omega, by omega, by omega, hbl, by omega, hcl1, by omega, by omega, hbw1185, hbw1191, fw1180_0, er⟩
         ·
          trivial
        ·
         trivial
       ·
        trivial
      ·
       trivial
    ·
     refine ⟨?_, ?_⟩
     ·
      refine alloc_step (fun w1145 ew1145 hbw1145 nw1145 => ?_)
      have hbw1 := hbw1.ext ew1145
      have hbw2 := hbw2.ext ew1145
      have fw979 := fw979.ext ew1145
      have fw1106 := fw1106.ext ew1145
      have e := Only.trans e ew1145
      have er := Only.trans er ew1145
      have zw1145 := ew1145.size
      refine ⟨⟨_, hbw2.cell 0, _, hbw2.cell 1, _, hbw2.cell 2, _, hbw2.cell 3, rfl⟩, ?_⟩
      refine ⟨⟨p0_0, hbw1.cell 0, rfl⟩, ?_⟩
      refine ⟨?_, ?_⟩
      ·
       refine (specProcStep fw979.is sz0 fw1106.is).mono ?_
       rintro _ w1166 ⟨yw1166_0, rfl, fw1166_0, ew1166⟩
       have hbw1 := hbw1.ext ew1166
       have hbw2 := hbw2.ext ew1166
       have hbw1145 := hbw1145.ext ew1166
       have fw979 := fw979.ext ew1166
       have fw1106 := fw1106.ext ew1166
       have e := Only.trans e ew1166
       have er := Only.trans er ew1166
       have zw1166 := ew1166.size
       have hiyw1166_0 := fw1166_0.is
       obtain ⟨ryw1166_0_0, rfl, _⟩ := cells_Procs hiyw1166_0
       refine ⟨ryw1166_0_0, _, _, _, rfl, ?_⟩
       refine ⟨?_, ?_⟩
       ·
        refine alloc_step (fun w1171 ew1171 hbw1171 nw1171 => ?_)
        have hbw1 := hbw1.ext ew1171
        have hbw2 := hbw2.ext ew1171
        have hbw1145 := hbw1145.ext ew1171
        have fw979 := fw979.ext ew1171
        have fw1106 := fw1106.ext ew1171
        have fw1166_0 := fw1166_0.ext ew1171
        have e := Only.trans e ew1171
        have er := Only.trans er ew1171
        have zw1171 := ew1171.size
        refine ⟨⟨_, hbw2.cell 0, _, hbw2.cell 1, _, hbw2.cell 2, _, hbw2.cell 3, rfl⟩, ?_⟩
        refine ⟨⟨p0_0, hbw1.cell 0, rfl⟩, ?_⟩
        refine ⟨?_, ?_⟩
        ·
         refine set_step hbw1145 (by simp) (fun w1177 ow1177 hbw1145q nw1177 => ?_)
         have hbw1 := hbw1.only ow1177 (by omega)
         have hbw2 := hbw2.only ow1177 (by omega)
         have hbw1171 := hbw1171.only ow1177 (by omega)
         have fw979 := fw979.only ow1177 (fun k h1 h2 => by omega)
         have fw1106 := fw1106.only ow1177 (fun k h1 h2 => by omega)
         have fw1166_0 := fw1166_0.only ow1177 (fun k h1 h2 => by omega)
         have e := Ext.own e ow1177 (fun k hk => by omega)
         have er := Ext.own er ow1177 (fun k hk => by omega)
         have hbw1145 := hbw1145q
         refine ⟨?_, ?_⟩
         ·
          refine put_step hbw1171 rfl rfl (fun w1178 ow1178 hbw1171q nw1178 => ?_)
          have hbw1 := hbw1.only ow1178 (by omega)
          have hbw2 := hbw2.only ow1178 (by omega)
          have hbw1145 := hbw1145.only ow1178 (by omega)
          have fw979 := fw979.only ow1178 (fun k h1 h2 => by omega)
          have fw1106 := fw1106.only ow1178 (fun k h1 h2 => by omega)
          have fw1166_0 := fw1166_0.only ow1178 (fun k h1 h2 => by omega)
          have e := Ext.own e ow1178 (fun k hk => by omega)
          have er := Ext.own er ow1178 (fun k hk => by omega)
          have hbw1171 := hbw1171q
          have hbl := hbw1145.lt
          have hcl1 := hbw1171.lt
          exact ⟨_, _, _, _, _, rfl, rfl, by omega, by omega, by omega, by omega, hbl, by omega, hcl1, by omega, by omega, hbw1171, hbw1145, fw1166_0, er⟩
         ·
          trivial
        ·
         trivial
       ·
        trivial
      ·
       refine ⟨?_, ?_⟩
       ·
        refine alloc_step (fun w1151 ew1151 hbw1151 nw1151 => ?_)
        have hbw1 := hbw1.ext ew1151
        have hbw2 := hbw2.ext ew1151
        have hbw1145 := hbw1145.ext ew1151
        have fw979 := fw979.ext ew1151
        have fw1106 := fw1106.ext ew1151
        have e := Only.trans e ew1151
        have er := Only.trans er ew1151
        have zw1151 := ew1151.size
        refine ⟨⟨_, hbw2.cell 0, _, hbw2.cell 1, _, hbw2.cell 2, _, hbw2.cell 3, rfl⟩, ?_⟩
        refine ⟨⟨p0_0, hbw1.cell 0, rfl⟩, ?_⟩
        refine ⟨?_, ?_⟩
        ·
         refine (specProcStep fw979.is sz0 fw1106.is).mono ?_
         rintro _ w1158 ⟨yw1158_0, rfl, fw1158_0, ew1158⟩
         have hbw1 := hbw1.ext ew1158
         have hbw2 := hbw2.ext ew1158
         have hbw1145 := hbw1145.ext ew1158
         have hbw1151 := hbw1151.ext ew1158
         have fw979 := fw979.ext ew1158
         have fw1106 := fw1106.ext ew1158
         have e := Only.trans e ew1158
         have er := Only.trans er ew1158
         have zw1158 := ew1158.size
         have hiyw1158_0 := fw1158_0.is
         obtain ⟨ryw1158_0_0, rfl, _⟩ := cells_Procs hiyw1158_0
         refine ⟨ryw1158_0_0, _, _, _, rfl, ?_⟩
         refine ⟨?_, ?_⟩
         ·
          refine set_step hbw1145 (by simp) (fun w1163 ow1163 hbw1145q nw1163 => ?_)
          have hbw1 := hbw1.only ow1163 (by omega)
          have hbw2 := hbw2.only ow1163 (by omega)
          have hbw1151 := hbw1151.only ow1163 (by omega)
          have fw979 := fw979.only ow1163 (fun k h1 h2 => by omega)
          have fw1106 := fw1106.only ow1163 (fun k h1 h2 => by omega)
          have fw1158_0 := fw1158_0.only ow1163 (fun k h1 h2 => by omega)
          have e := Ext.own e ow1163 (fun k hk => by omega)
          have er := Ext.own er ow1163 (fun k hk => by omega)
          have hbw1145 := hbw1145q
          refine ⟨?_, ?_⟩
          ·
           refine put_step hbw1151 rfl rfl (fun w1164 ow1164 hbw1151q nw1164 => ?_)
           have hbw1 := hbw1.only ow1164 (by omega)
           have hbw2 := hbw2.only ow1164 (by omega)
           have hbw1145 := hbw1145.only ow1164 (by omega)
           have fw979 := fw979.only ow1164 (fun k h1 h2 => by omega)
           have fw1106 := fw1106.only ow1164 (fun k h1 h2 => by omega)
           have fw1158_0 := fw1158_0.only ow1164 (fun k h1 h2 => by omega)
           have e := Ext.own e ow1164 (fun k hk => by omega)
           have er := Ext.own er ow1164 (fun k hk => by omega)
           have hbw1151 := hbw1151q
           have hbl := hbw1145.lt
           have hcl1 := hbw1151.lt
           exact ⟨_, _, _, _, _, rfl, rfl, by omega, by omega, by omega, by omega, hbl, by omega, hcl1, by omega, by omega, hbw1151, hbw1145, fw1158_0, er⟩
          ·
           trivial
         ·
          trivial
        ·
         trivial
       ·
        trivial
     ·
      refine ⟨?_, ?_⟩
      ·
       refine alloc_step (fun w1111 ew1111 hbw1111 nw1111 => ?_)
       have hbw1 := hbw1.ext ew1111
       have hbw2 := hbw2.ext ew1111
       have fw979 := fw979.ext ew1111
       have fw1106 := fw1106.ext ew1111
       have e := Only.trans e ew1111
       have er := Only.trans er ew1111
       have zw1111 := ew1111.size
       refine ⟨⟨_, hbw2.cell 0, _, hbw2.cell 1, _, hbw2.cell 2, _, hbw2.cell 3, rfl⟩, ?_⟩
       refine ⟨⟨p0_0, hbw1.cell 0, rfl⟩, ?_⟩
       refine ⟨?_, ?_⟩
       ·
        refine (specProcStep fw979.is sz0 fw1106.is).mono ?_
        rintro _ w1132 ⟨yw1132_0, rfl, fw1132_0, ew1132⟩
        have hbw1 := hbw1.ext ew1132
        have hbw2 := hbw2.ext ew1132
        have hbw1111 := hbw1111.ext ew1132
        have fw979 := fw979.ext ew1132
        have fw1106 := fw1106.ext ew1132
        have e := Only.trans e ew1132
        have er := Only.trans er ew1132
        have zw1132 := ew1132.size
        have hiyw1132_0 := fw1132_0.is
        obtain ⟨ryw1132_0_0, rfl, _⟩ := cells_Procs hiyw1132_0
        refine ⟨ryw1132_0_0, _, _, _, rfl, ?_⟩
        refine ⟨?_, ?_⟩
        ·
         refine alloc_step (fun w1137 ew1137 hbw1137 nw1137 => ?_)
         have hbw1 := hbw1.ext ew1137
         have hbw2 := hbw2.ext ew1137
         have hbw1111 := hbw1111.ext ew1137
         have fw979 := fw979.ext ew1137
         have fw1106 := fw1106.ext ew1137
         have fw1132_0 := fw1132_0.ext ew1137
         have e := Only.trans e ew1137
         have er := Only.trans er ew1137
         have zw1137 := ew1137.size
         refine ⟨⟨_, hbw2.cell 0, _, hbw2.cell 1, _, hbw2.cell 2, _, hbw2.cell 3, rfl⟩, ?_⟩
         refine ⟨⟨p0_0, hbw1.cell 0, rfl⟩, ?_⟩
         refine ⟨?_, ?_⟩
         ·
          refine set_step hbw1137 (by simp) (fun w1143 ow1143 hbw1137q nw1143 => ?_)
          have hbw1 := hbw1.only ow1143 (by omega)
          have hbw2 := hbw2.only ow1143 (by omega)
          have hbw1111 := hbw1111.only ow1143 (by omega)
          have fw979 := fw979.only ow1143 (fun k h1 h2 => by omega)
          have fw1106 := fw1106.only ow1143 (fun k h1 h2 => by omega)
          have fw1132_0 := fw1132_0.only ow1143 (fun k h1 h2 => by omega)
          have e := Ext.own e ow1143 (fun k hk => by omega)
          have er := Ext.own er ow1143 (fun k hk => by omega)
          have hbw1137 := hbw1137q
          refine ⟨?_, ?_⟩
          ·
           refine put_step hbw1111 rfl rfl (fun w1144 ow1144 hbw1111q nw1144 => ?_)
           have hbw1 := hbw1.only ow1144 (by omega)
           have hbw2 := hbw2.only ow1144 (by omega)
           have hbw1137 := hbw1137.only ow1144 (by omega)
           have fw979 := fw979.only ow1144 (fun k h1 h2 => by omega)
           have fw1106 := fw1106.only ow1144 (fun k h1 h2 => by omega)
           have fw1132_0 := fw1132_0.only ow1144 (fun k h1 h2 => by omega)
           have e := Ext.own e ow1144 (fun k hk => by omega)
           have er := Ext.own er ow1144 (fun k hk => by omega)
           have hbw1111 := hbw1111q
           have hbl := hbw1137.lt
           have hcl1 := hbw1111.lt
           exact ⟨_, _, _, _, _, rfl, rfl, by omega, by omega, by omega, by omega, hbl, by omega, hcl1, by omega, by omega, hbw1111, hbw1137, fw1132_0, er⟩
          ·
           trivial
         ·
          trivial
        ·
         trivial
       ·
        refine ⟨?_, ?_⟩
        ·
         refine alloc_step (fun w1117 ew1117 hbw1117 nw1117 => ?_)
         have hbw1 := hbw1.ext ew1117
         have hbw2 := hbw2.ext ew1117
         have hbw1111 := hbw1111.ext ew1117
         have fw979 := fw979.ext ew1117
         have fw1106 := fw1106.ext ew1117
         have e := Only.trans e ew1117
         have er := Only.trans er ew1117
         have zw1117 := ew1117.size
         refine ⟨⟨_, hbw2.cell 0, _, hbw2.cell 1, _, hbw2.cell 2, _, hbw2.cell 3, rfl⟩, ?_⟩
         refine ⟨⟨p0_0, hbw1.cell 0, rfl⟩, ?_⟩
         refine ⟨?_, ?_⟩
         ·
          refine (specProcStep fw979.is sz0 fw1106.is).mono ?_
          rintro _ w1124 ⟨yw1124_0, rfl, fw1124_0, ew1124⟩
          have hbw1 := hbw1.ext ew1124
          have hbw2 := hbw2.ext ew1124
          have hbw1111 := hbw1111.ext ew1124
          have hbw1117 := hbw1117.ext ew1124
          have fw979 := fw979.ext ew1124
          have fw1106 := fw1106.ext ew1124
          have e := Only.trans e ew1124
          have er := Only.trans er ew1124
          have zw1124 := ew1124.size
          have hiyw1124_0 := fw1124_0.is
          obtain ⟨ryw1124_0_0, rfl, _⟩ := cells_Procs hiyw1124_0
          refine ⟨ryw1124_0_0, _, _, _, rfl, ?_⟩
          refine ⟨?_, ?_⟩
          ·
           refine set_step hbw1117 (by simp) (fun w1129 ow1129 hbw1117q nw1129 => ?_)
           have hbw1 := hbw1.only ow1129 (by omega)
           have hbw2 := hbw2.only ow1129 (by omega)
           have hbw1111 := hbw1111.only ow1129 (by omega)
           have fw979 := fw979.only ow1129 (fun k h1 h2 => by omega)
           have fw1106 := fw1106.only ow1129 (fun k h1 h2 => by omega)
           have fw1124_0 := fw1124_0.only ow1129 (fun k h1 h2 => by omega)
           have e := Ext.own e ow1129 (fun k hk => by omega)
           have er := Ext.own er ow1129 (fun k hk => by omega)
           have hbw1117 := hbw1117q
           refine ⟨?_, ?_⟩
           ·
            refine put_step hbw1111 rfl rfl (fun w1130 ow1130 hbw1111q nw1130 => ?_)
            have hbw1 := hbw1.only ow1130 (by omega)
            have hbw2 := hbw2.only ow1130 (by omega)
            have hbw1117 := hbw1117.only ow1130 (by omega)
            have fw979 := fw979.only ow1130 (fun k h1 h2 => by omega)
            have fw1106 := fw1106.only ow1130 (fun k h1 h2 => by omega)
            have fw1124_0 := fw1124_0.only ow1130 (fun k h1 h2 => by omega)
            have e := Ext.own e ow1130 (fun k hk => by omega)
            have er := Ext.own er ow1130 (fun k hk => by omega)
            have hbw1111 := hbw1111q
            have hbl := hbw1117.lt
            have hcl1 := hbw1111.lt
            exact ⟨_, _, _, _, _, rfl, rfl, by omega, by omega, by omega, by omega, hbl, by omega, hcl1, by omega, by omega, hbw1111, hbw1117, fw1124_0, er⟩
           ·
            trivial
          ·
           trivial
         ·
          trivial
        ·
         trivial
      ·
       trivial
   ·
    refine ⟨?_, ?_⟩
    ·
     refine alloc_step (fun w1045 ew1045 hbw1045 nw1045 => ?_)
     have hbw1 := hbw1.ext ew1045
     have hbw2 := hbw2.ext ew1045
     have fw979 := fw979.ext ew1045
     have e := Only.trans e ew1045
     have er := Only.trans er ew1045
     have zw1045 := ew1045.size
     refine ⟨⟨_, hbw2.cell 0, _, hbw2.cell 1, _, hbw2.cell 2, _, hbw2.cell 3, rfl⟩, ?_⟩
     refine ⟨⟨p0_0, hbw1.cell 0, rfl⟩, ?_⟩
     refine ⟨?_, ?_⟩
     ·
      refine (c50 (DProcOp.has _) (IsD.ext e _ _ h1) (by have := pop_sz op; omega)).mono ?_
      rintro _ w1072 ⟨yw1072, rfl, fw1072, ew1072⟩
      have hbw1 := hbw1.ext ew1072
      have hbw2 := hbw2.ext ew1072
      have hbw1045 := hbw1045.ext ew1072
      have fw979 := fw979.ext ew1072
      have e := Only.trans e ew1072
      have er := Only.trans er ew1072
      have zw1072 := ew1072.size
      have hiyw1072 := fw1072.is
      obtain ⟨rfl, _, _, _, _⟩ := cells_ProcOp hiyw1072
      refine ⟨_, _, _, _, rfl, ?_⟩
      refine ⟨?_, ?_⟩
      ·
       refine (specProcStep fw979.is sz0 fw1072.is).mono ?_
       rintro _ w1092 ⟨yw1092_0, rfl, fw1092_0, ew1092⟩
       have hbw1 := hbw1.ext ew1092
       have hbw2 := hbw2.ext ew1092
       have hbw1045 := hbw1045.ext ew1092
       have fw979 := fw979.ext ew1092
       have fw1072 := fw1072.ext ew1092
       have e := Only.trans e ew1092
       have er := Only.trans er ew1092
       have zw1092 := ew1092.size
       have hiyw1092_0 := fw1092_0.is
       obtain ⟨ryw1092_0_0, rfl, _⟩ := cells_Procs hiyw1092_0
       refine ⟨ryw1092_0_0, _, _, _, rfl, ?_⟩
       refine ⟨?_, ?_⟩
       ·
        refine alloc_step (fun w1097 ew1097 hbw1097 nw1097 => ?_)
        have hbw1 := hbw1.ext ew1097
        have hbw2 := hbw2.ext ew1097
        have hbw1045 := hbw1045.ext ew1097
        have fw979 := fw979.ext ew1097
        have fw1072 := fw1072.ext ew1097
        have fw1092_0 := fw1092_0.ext ew1097
        have e := Only.trans e ew1097
        have er := Only.trans er ew1097
        have zw1097 := ew1097.size
        refine ⟨⟨_, hbw2.cell 0, _, hbw2.cell 1, _, hbw2.cell 2, _, hbw2.cell 3, rfl⟩, ?_⟩
        refine ⟨⟨p0_0, hbw1.cell 0, rfl⟩, ?_⟩
        refine ⟨?_, ?_⟩
        ·
         refine set_step hbw1045 (by simp) (fun w1103 ow1103 hbw1045q nw1103 => ?_)
         have hbw1 := hbw1.only ow1103 (by omega)
         have hbw2 := hbw2.only ow1103 (by omega)
         have hbw1097 := hbw1097.only ow1103 (by omega)
         have fw979 := fw979.only ow1103 (fun k h1 h2 => by omega)
         have fw1072 := fw1072.only ow1103 (fun k h1 h2 => by omega)
         have fw1092_0 := fw1092_0.only ow1103 (fun k h1 h2 => by omega)
         have e := Ext.own e ow1103 (fun k hk => by omega)
         have er := Ext.own er ow1103 (fun k hk => by omega)
         have hbw1045 := hbw1045q
         refine ⟨?_, ?_⟩
         ·
          refine put_step hbw1097 rfl rfl (fun w1104 ow1104 hbw1097q nw1104 => ?_)
          have hbw1 := hbw1.only ow1104 (by omega)
          have hbw2 := hbw2.only ow1104 (by omega)
          have hbw1045 := hbw1045.only ow1104 (by omega)
          have fw979 := fw979.only ow1104 (fun k h1 h2 => by omega)
          have fw1072 := fw1072.only ow1104 (fun k h1 h2 => by omega)
          have fw1092_0 := fw1092_0.only ow1104 (fun k h1 h2 => by omega)
          have e := Ext.own e ow1104 (fun k hk => by omega)
          have er := Ext.own er ow1104 (fun k hk => by omega)
          have hbw1097 := hbw1097q
          have hbl := hbw1045.lt
          have hcl1 := hbw1097.lt
          exact ⟨_, _, _, _, _, rfl, rfl, by omega, by omega, by omega, by omega, hbl, by omega, hcl1, by omega, by omega, hbw1097, hbw1045, fw1092_0, er⟩
         ·
          trivial
        ·
         trivial
       ·
        trivial
      ·
       refine ⟨?_, ?_⟩
       ·
        refine alloc_step (fun w1077 ew1077 hbw1077 nw1077 => ?_)
        have hbw1 := hbw1.ext ew1077
        have hbw2 := hbw2.ext ew1077
        have hbw1045 := hbw1045.ext ew1077
        have fw979 := fw979.ext ew1077
        have fw1072 := fw1072.ext ew1077
        have e := Only.trans e ew1077
        have er := Only.trans er ew1077
        have zw1077 := ew1077.size
        refine ⟨⟨_, hbw2.cell 0, _, hbw2.cell 1, _, hbw2.cell 2, _, hbw2.cell 3, rfl⟩, ?_⟩
        refine ⟨⟨p0_0, hbw1.cell 0, rfl⟩, ?_⟩
        refine ⟨?_, ?_⟩
        ·
         refine (specProcStep fw979.is sz0 fw1072.is).mono ?_
         rintro _ w1084 ⟨yw1084_0, rfl, fw1084_0, ew1084⟩
         have hbw1 := hbw1.ext ew1084
         have hbw2 := hbw2.ext ew1084
         have hbw1045 := hbw1045.ext ew1084
         have hbw1077 := hbw1077.ext ew1084
         have fw979 := fw979.ext ew1084
         have fw1072 := fw1072.ext ew1084
         have e := Only.trans e ew1084
         have er := Only.trans er ew1084
         have zw1084 := ew1084.size
         have hiyw1084_0 := fw1084_0.is
         obtain ⟨ryw1084_0_0, rfl, _⟩ := cells_Procs hiyw1084_0
         refine ⟨ryw1084_0_0, _, _, _, rfl, ?_⟩
         refine ⟨?_, ?_⟩
         ·
          refine set_step hbw1045 (by simp) (fun w1089 ow1089 hbw1045q nw1089 => ?_)
          have hbw1 := hbw1.only ow1089 (by omega)
          have hbw2 := hbw2.only ow1089 (by omega)
          have hbw1077 := hbw1077.only ow1089 (by omega)
          have fw979 := fw979.only ow1089 (fun k h1 h2 => by omega)
          have fw1072 := fw1072.only ow1089 (fun k h1 h2 => by omega)
          have fw1084_0 := fw1084_0.only ow1089 (fun k h1 h2 => by omega)
          have e := Ext.own e ow1089 (fun k hk => by omega)
          have er := Ext.own er ow1089 (fun k hk => by omega)
          have hbw1045 := hbw1045q
          refine ⟨?_, ?_⟩
          ·
           refine put_step hbw1077 rfl rfl (fun w1090 ow1090 hbw1077q nw1090 => ?_)
           have hbw1 := hbw1.only ow1090 (by omega)
           have hbw2 := hbw2.only ow1090 (by omega)
           have hbw1045 := hbw1045.only ow1090 (by omega)
           have fw979 := fw979.only ow1090 (fun k h1 h2 => by omega)
           have fw1072 := fw1072.only ow1090 (fun k h1 h2 => by omega)
           have fw1084_0 := fw1084_0.only ow1090 (fun k h1 h2 => by omega)
           have e := Ext.own e ow1090 (fun k hk => by omega)
           have er := Ext.own er ow1090 (fun k hk => by omega)
           have hbw1077 := hbw1077q
           have hbl := hbw1045.lt
           have hcl1 := hbw1077.lt
           exact ⟨_, _, _, _, _, rfl, rfl, by omega, by omega, by omega, by omega, hbl, by omega, hcl1, by omega, by omega, hbw1077, hbw1045, fw1084_0, er⟩
          ·
           trivial
         ·
          trivial
        ·
         trivial
       ·
        trivial
     ·
      refine ⟨?_, ?_⟩
      ·
       refine alloc_step (fun w1051 ew1051 hbw1051 nw1051 => ?_)
       have hbw1 := hbw1.ext ew1051
       have hbw2 := hbw2.ext ew1051
       have hbw1045 := hbw1045.ext ew1051
       have fw979 := fw979.ext ew1051
       have e := Only.trans e ew1051
       have er := Only.trans er ew1051
       have zw1051 := ew1051.size
       refine ⟨⟨_, hbw2.cell 0, _, hbw2.cell 1, _, hbw2.cell 2, _, hbw2.cell 3, rfl⟩, ?_⟩
       refine ⟨⟨p0_0, hbw1.cell 0, rfl⟩, ?_⟩
       refine ⟨?_, ?_⟩
       ·
        refine (c50 (DProcOp.has _) (IsD.ext e _ _ h1) (by have := pop_sz op; omega)).mono ?_
        rintro _ w1058 ⟨yw1058, rfl, fw1058, ew1058⟩
        have hbw1 := hbw1.ext ew1058
        have hbw2 := hbw2.ext ew1058
        have hbw1045 := hbw1045.ext ew1058
        have hbw1051 := hbw1051.ext ew1058
        have fw979 := fw979.ext ew1058
        have e := Only.trans e ew1058
        have er := Only.trans er ew1058
        have zw1058 := ew1058.size
        have hiyw1058 := fw1058.is
        obtain ⟨rfl, _, _, _, _⟩ := cells_ProcOp hiyw1058
        refine ⟨_, _, _, _, rfl, ?_⟩
        refine ⟨?_, ?_⟩
        ·
         refine (specProcStep fw979.is sz0 fw1058.is).mono ?_
         rintro _ w1064 ⟨yw1064_0, rfl, fw1064_0, ew1064⟩
         have hbw1 := hbw1.ext ew1064
         have hbw2 := hbw2.ext ew1064
         have hbw1045 := hbw1045.ext ew1064
         have hbw1051 := hbw1051.ext ew1064
         have fw979 := fw979.ext ew1064
         have fw1058 := fw1058.ext ew1064
         have e := Only.trans e ew1064
         have er := Only.trans er ew1064
         have zw1064 := ew1064.size
         have hiyw1064_0 := fw1064_0.is
         obtain ⟨ryw1064_0_0, rfl, _⟩ := cells_Procs hiyw1064_0
         refine ⟨ryw1064_0_0, _, _, _, rfl, ?_⟩
         refine ⟨?_, ?_⟩
         ·
          refine set_step hbw1045 (by simp) (fun w1069 ow1069 hbw1045q nw1069 => ?_)
          have hbw1 := hbw1.only ow1069 (by omega)
          have hbw2 := hbw2.only ow1069 (by omega)
          have hbw1051 := hbw1051.only ow1069 (by omega)
          have fw979 := fw979.only ow1069 (fun k h1 h2 => by omega)
          have fw1058 := fw1058.only ow1069 (fun k h1 h2 => by omega)
          have fw1064_0 := fw1064_0.only ow1069 (fun k h1 h2 => by omega)
          have e := Ext.own e ow1069 (fun k hk => by omega)
          have er := Ext.own er ow1069 (fun k hk => by omega)
          have hbw1045 := hbw1045q
          refine ⟨?_, ?_⟩
          ·
           refine put_step hbw1051 rfl rfl (fun w1070 ow1070 hbw1051q nw1070 => ?_)
           have hbw1 := hbw1.only ow1070 (by omega)
           have hbw2 := hbw2.only ow1070 (by omega)
           have hbw1045 := hbw1045.only ow1070 (by omega)
           have fw979 := fw979.only ow1070 (fun k h1 h2 => by omega)
           have fw1058 := fw1058.only ow1070 (fun k h1 h2 => by omega)
           have fw1064_0 := fw1064_0.only ow1070 (fun k h1 h2 => by omega)
           have e := Ext.own e ow1070 (fun k hk => by omega)
           have er := Ext.own er ow1070 (fun k hk => by omega)
           have hbw1051 := hbw1051q
           have hbl := hbw1045.lt
           have hcl1 := hbw1051.lt
           exact ⟨_, _, _, _, _, rfl, rfl, by omega, by omega, by omega, by omega, hbl, by omega, hcl1, by omega, by omega, hbw1051, hbw1045, fw1064_0, er⟩
          ·
           trivial
         ·
          trivial
        ·
         trivial
       ·
        trivial
      ·
       trivial
    ·
     refine ⟨?_, ?_⟩
     ·
      refine alloc_step (fun w985 ew985 hbw985 nw985 => ?_)
      have hbw1 := hbw1.ext ew985
      have hbw2 := hbw2.ext ew985
      have fw979 := fw979.ext ew985
      have e := Only.trans e ew985
      have er := Only.trans er ew985
      have zw985 := ew985.size
      refine ⟨⟨_, hbw2.cell 0, _, hbw2.cell 1, _, hbw2.cell 2, _, hbw2.cell 3, rfl⟩, ?_⟩
      refine ⟨⟨p0_0, hbw1.cell 0, rfl⟩, ?_⟩
      refine ⟨?_, ?_⟩
      ·
       refine (c50 (DProcOp.has _) (IsD.ext e _ _ h1) (by have := pop_sz op; omega)).mono ?_
       rintro _ w1012 ⟨yw1012, rfl, fw1012, ew1012⟩
       have hbw1 := hbw1.ext ew1012
       have hbw2 := hbw2.ext ew1012
       have hbw985 := hbw985.ext ew1012
       have fw979 := fw979.ext ew1012
       have e := Only.trans e ew1012
       have er := Only.trans er ew1012
       have zw1012 := ew1012.size
       have hiyw1012 := fw1012.is
       obtain ⟨rfl, _, _, _, _⟩ := cells_ProcOp hiyw1012
       refine ⟨_, _, _, _, rfl, ?_⟩
       refine ⟨?_, ?_⟩
       ·
        refine (specProcStep fw979.is sz0 fw1012.is).mono ?_
        rintro _ w1032 ⟨yw1032_0, rfl, fw1032_0, ew1032⟩
        have hbw1 := hbw1.ext ew1032
        have hbw2 := hbw2.ext ew1032
        have hbw985 := hbw985.ext ew1032
        have fw979 := fw979.ext ew1032
        have fw1012 := fw1012.ext ew1032
        have e := Only.trans e ew1032
        have er := Only.trans er ew1032
        have zw1032 := ew1032.size
        have hiyw1032_0 := fw1032_0.is
        obtain ⟨ryw1032_0_0, rfl, _⟩ := cells_Procs hiyw1032_0
        refine ⟨ryw1032_0_0, _, _, _, rfl, ?_⟩
        refine ⟨?_, ?_⟩
        ·
         refine alloc_step (fun w1037 ew1037 hbw1037 nw1037 => ?_)
         have hbw1 := hbw1.ext ew1037
         have hbw2 := hbw2.ext ew1037
         have hbw985 := hbw985.ext ew1037
         have fw979 := fw979.ext ew1037
         have fw1012 := fw1012.ext ew1037
         have fw1032_0 := fw1032_0.ext ew1037
         have e := Only.trans e ew1037
         have er := Only.trans er ew1037
         have zw1037 := ew1037.size
         refine ⟨⟨_, hbw2.cell 0, _, hbw2.cell 1, _, hbw2.cell 2, _, hbw2.cell 3, rfl⟩, ?_⟩
         refine ⟨⟨p0_0, hbw1.cell 0, rfl⟩, ?_⟩
         refine ⟨?_, ?_⟩
         ·
          refine set_step hbw1037 (by simp) (fun w1043 ow1043 hbw1037q nw1043 => ?_)
          have hbw1 := hbw1.only ow1043 (by omega)
          have hbw2 := hbw2.only ow1043 (by omega)
          have hbw985 := hbw985.only ow1043 (by omega)
          have fw979 := fw979.only ow1043 (fun k h1 h2 => by omega)
          have fw1012 := fw1012.only ow1043 (fun k h1 h2 => by omega)
          have fw1032_0 := fw1032_0.only ow1043 (fun k h1 h2 => by omega)
          have e := Ext.own e ow1043 (fun k hk => by omega)
          have er := Ext.own er ow1043 (fun k hk => by omega)
          have hbw1037 := hbw1037q
          refine ⟨?_, ?_⟩
          ·
           refine put_step hbw985 rfl rfl (fun w1044 ow1044 hbw985q nw1044 => ?_)
           have hbw1 := hbw1.only ow1044 (by omega)
           have hbw2 := hbw2.only ow1044 (by omega)
           have hbw1037 := hbw1037.only ow1044 (by omega)
           have fw979 := fw979.only ow1044 (fun k h1 h2 => by omega)
           have fw1012 := fw1012.only ow1044 (fun k h1 h2 => by omega)
           have fw1032_0 := fw1032_0.only ow1044 (fun k h1 h2 => by omega)
           have e := Ext.own e ow1044 (fun k hk => by omega)
           have er := Ext.own er ow1044 (fun k hk => by omega)
           have hbw985 := hbw985q
           have hbl := hbw1037.lt
           have hcl1 := hbw985.lt
           exact ⟨_, _, _, _, _, rfl, rfl, by omega, by omega, by omega, by omega, hbl, by omega, hcl1, by omega, by omega, hbw985, hbw1037, fw1032_0, er⟩
          ·
           trivial
         ·
          trivial
        ·
         trivial
       ·
        refine ⟨?_, ?_⟩
        ·
         refine alloc_step (fun w1017 ew1017 hbw1017 nw1017 => ?_)
         have hbw1 := hbw1.ext ew1017
         have hbw2 := hbw2.ext ew1017
         have hbw985 := hbw985.ext ew1017
         have fw979 := fw979.ext ew1017
         have fw1012 := fw1012.ext ew1017
         have e := Only.trans e ew1017
         have er := Only.trans er ew1017
         have zw1017 := ew1017.size
         refine ⟨⟨_, hbw2.cell 0, _, hbw2.cell 1, _, hbw2.cell 2, _, hbw2.cell 3, rfl⟩, ?_⟩
         refine ⟨⟨p0_0, hbw1.cell 0, rfl⟩, ?_⟩
         refine ⟨?_, ?_⟩
         ·
          refine (specProcStep fw979.is sz0 fw1012.is).mono ?_
          rintro _ w1024 ⟨yw1024_0, rfl, fw1024_0, ew1024⟩
          have hbw1 := hbw1.ext ew1024
          have hbw2 := hbw2.ext ew1024
          have hbw985 := hbw985.ext ew1024
          have hbw1017 := hbw1017.ext ew1024
          have fw979 := fw979.ext ew1024
          have fw1012 := fw1012.ext ew1024
          have e := Only.trans e ew1024
          have er := Only.trans er ew1024
          have zw1024 := ew1024.size
          have hiyw1024_0 := fw1024_0.is
          obtain ⟨ryw1024_0_0, rfl, _⟩ := cells_Procs hiyw1024_0
          refine ⟨ryw1024_0_0, _, _, _, rfl, ?_⟩
          refine ⟨?_, ?_⟩
          ·
           refine set_step hbw1017 (by simp) (fun w1029 ow1029 hbw1017q nw1029 => ?_)
           have hbw1 := hbw1.only ow1029 (by omega)
           have hbw2 := hbw2.only ow1029 (by omega)
           have hbw985 := hbw985.only ow1029 (by omega)
           have fw979 := fw979.only ow1029 (fun k h1 h2 => by omega)
           have fw1012 := fw1012.only ow1029 (fun k h1 h2 => by omega)
           have fw1024_0 := fw1024_0.only ow1029 (fun k h1 h2 => by omega)
           have e := Ext.own e ow1029 (fun k hk => by omega)
           have er := Ext.own er ow1029 (fun k hk => by omega)
           have hbw1017 := hbw1017q
           refine ⟨?_, ?_⟩
           ·
            refine put_step hbw985 rfl rfl (fun w1030 ow1030 hbw985q nw1030 => ?_)
            have hbw1 := hbw1.only ow1030 (by omega)
            have hbw2 := hbw2.only ow1030 (by omega)
            have hbw1017 := hbw1017.only ow1030 (by omega)
            have fw979 := fw979.only ow1030 (fun k h1 h2 => by omega)
            have fw1012 := fw1012.only ow1030 (fun k h1 h2 => by omega)
            have fw1024_0 := fw1024_0.only ow1030 (fun k h1 h2 => by omega)
            have e := Ext.own e ow1030 (fun k hk => by omega)
            have er := Ext.own er ow1030 (fun k hk => by omega)
            have hbw985 := hbw985q
            have hbl := hbw1017.lt
            have hcl1 := hbw985.lt
            exact ⟨_, _, _, _, _, rfl, rfl, by omega, by omega, by omega, by omega, hbl, by omega, hcl1, by omega, by omega, hbw985, hbw1017, fw1024_0, er⟩
           ·
            trivial
          ·
           trivial
         ·
          trivial
        ·
         trivial
      ·
       refine ⟨?_, ?_⟩
       ·
        refine alloc_step (fun w991 ew991 hbw991 nw991 => ?_)
        have hbw1 := hbw1.ext ew991
        have hbw2 := hbw2.ext ew991
        have hbw985 := hbw985.ext ew991
        have fw979 := fw979.ext ew991
        have e := Only.trans e ew991
        have er := Only.trans er ew991
        have zw991 := ew991.size
        refine ⟨⟨_, hbw2.cell 0, _, hbw2.cell 1, _, hbw2.cell 2, _, hbw2.cell 3, rfl⟩, ?_⟩
        refine ⟨⟨p0_0, hbw1.cell 0, rfl⟩, ?_⟩
        refine ⟨?_, ?_⟩
        ·
         refine (c50 (DProcOp.has _) (IsD.ext e _ _ h1) (by have := pop_sz op; omega)).mono ?_
         rintro _ w998 ⟨yw998, rfl, fw998, ew998⟩
         have hbw1 := hbw1.ext ew998
         have hbw2 := hbw2.ext ew998
         have hbw985 := hbw985.ext ew998
         have hbw991 := hbw991.ext ew998
         have fw979 := fw979.ext ew998
         have e := Only.trans e ew998
         have er := Only.trans er ew998
         have zw998 := ew998.size
         have hiyw998 := fw998.is
         obtain ⟨rfl, _, _, _, _⟩ := cells_ProcOp hiyw998
         refine ⟨_, _, _, _, rfl, ?_⟩
         refine ⟨?_, ?_⟩
         ·
          refine (specProcStep fw979.is sz0 fw998.is).mono ?_
          rintro _ w1004 ⟨yw1004_0, rfl, fw1004_0, ew1004⟩
          have hbw1 := hbw1.ext ew1004
          have hbw2 := hbw2.ext ew1004
          have hbw985 := hbw985.ext ew1004
          have hbw991 := hbw991.ext ew1004
          have fw979 := fw979.ext ew1004
          have fw998 := fw998.ext ew1004
          have e := Only.trans e ew1004
          have er := Only.trans er ew1004
          have zw1004 := ew1004.size
          have hiyw1004_0 := fw1004_0.is
          obtain ⟨ryw1004_0_0, rfl, _⟩ := cells_Procs hiyw1004_0
          refine ⟨ryw1004_0_0, _, _, _, rfl, ?_⟩
          refine ⟨?_, ?_⟩
          ·
           refine set_step hbw991 (by simp) (fun w1009 ow1009 hbw991q nw1009 => ?_)
           have hbw1 := hbw1.only ow1009 (by omega)
           have hbw2 := hbw2.only ow1009 (by omega)
           have hbw985 := hbw985.only ow1009 (by omega)
           have fw979 := fw979.only ow1009 (fun k h1 h2 => by omega)
           have fw998 := fw998.only ow1009 (fun k h1 h2 => by omega)
           have fw1004_0 := fw1004_0.only ow1009 (fun k h1 h2 => by omega)
           have e := Ext.own e ow1009 (fun k hk => by omega)
           have er := Ext.own er ow1009 (fun k hk => by omega)
           have hbw991 := hbw991q
           refine ⟨?_, ?_⟩
           ·
            refine put_step hbw985 rfl rfl (fun w1010 ow1010 hbw985q nw1010 => ?_)
            have hbw1 := hbw1.only ow1010 (by omega)
            have hbw2 := hbw2.only ow1010 (by omega)
            have hbw991 := hbw991.only ow1010 (by omega)
            have fw979 := fw979.only ow1010 (fun k h1 h2 => by omega)
            have fw998 := fw998.only ow1010 (fun k h1 h2 => by omega)
            have fw1004_0 := fw1004_0.only ow1010 (fun k h1 h2 => by omega)
            have e := Ext.own e ow1010 (fun k hk => by omega)
            have er := Ext.own er ow1010 (fun k hk => by omega)
            have hbw985 := hbw985q
            have hbl := hbw991.lt
            have hcl1 := hbw985.lt
            exact ⟨_, _, _, _, _, rfl, rfl, by omega, by omega, by omega, by omega, hbl, by omega, hcl1, by omega, by omega, hbw985, hbw991, fw1004_0, er⟩
           ·
            trivial
          ·
           trivial
         ·
          trivial
        ·
         trivial
       ·
        trivial
     ·
      trivial
  ·
   refine ⟨?_, ?_⟩
   ·
    refine alloc_step (fun w884 ew884 hbw884 nw884 => ?_)
    have hbw1 := hbw1.ext ew884
    have hbw2 := hbw2.ext ew884
    have e := Only.trans e ew884
    have er := Only.trans er ew884
    have zw884 := ew884.size
    refine ⟨⟨_, hbw2.cell 0, _, hbw2.cell 1, _, hbw2.cell 2, _, hbw2.cell 3, rfl⟩, ?_⟩
    refine ⟨⟨p0_0, hbw1.cell 0, rfl⟩, ?_⟩
    refine ⟨?_, ?_⟩
    ·
     refine (c49 (DProcs.has _) (IsD.ext e _ _ h0) (by have := sz0; omega)).mono ?_
     rintro _ w918 ⟨yw918, rfl, fw918, ew918⟩
     have hbw1 := hbw1.ext ew918
     have hbw2 := hbw2.ext ew918
     have hbw884 := hbw884.ext ew918
     have e := Only.trans e ew918
     have er := Only.trans er ew918
     have zw918 := ew918.size
     have hiyw918 := fw918.is
     obtain ⟨ryw918_0, rfl, _⟩ := cells_Procs hiyw918
     refine ⟨ryw918_0, rfl, ?_⟩
     refine ⟨⟨_, hbw2.cell 0, _, hbw2.cell 1, _, hbw2.cell 2, _, hbw2.cell 3, rfl⟩, ?_⟩
     refine ⟨?_, ?_⟩
     ·
      refine (c50 (DProcOp.has _) (IsD.ext e _ _ h1) (by have := pop_sz op; omega)).mono ?_
      rintro _ w945 ⟨yw945, rfl, fw945, ew945⟩
      have hbw1 := hbw1.ext ew945
      have hbw2 := hbw2.ext ew945
      have hbw884 := hbw884.ext ew945
      have fw918 := fw918.ext ew945
      have e := Only.trans e ew945
      have er := Only.trans er ew945
      have zw945 := ew945.size
      have hiyw945 := fw945.is
      obtain ⟨rfl, _, _, _, _⟩ := cells_ProcOp hiyw945
      refine ⟨_, _, _, _, rfl, ?_⟩
      refine ⟨?_, ?_⟩
      ·
       refine (specProcStep fw918.is sz0 fw945.is).mono ?_
       rintro _ w965 ⟨yw965_0, rfl, fw965_0, ew965⟩
       have hbw1 := hbw1.ext ew965
       have hbw2 := hbw2.ext ew965
       have hbw884 := hbw884.ext ew965
       have fw918 := fw918.ext ew965
       have fw945 := fw945.ext ew965
       have e := Only.trans e ew965
       have er := Only.trans er ew965
       have zw965 := ew965.size
       have hiyw965_0 := fw965_0.is
       obtain ⟨ryw965_0_0, rfl, _⟩ := cells_Procs hiyw965_0
       refine ⟨ryw965_0_0, _, _, _, rfl, ?_⟩
       refine ⟨?_, ?_⟩
       ·
        refine alloc_step (fun w970 ew970 hbw970 nw970 => ?_)
        have hbw1 := hbw1.ext ew970
        have hbw2 := hbw2.ext ew970
        have hbw884 := hbw884.ext ew970
        have fw918 := fw918.ext ew970
        have fw945 := fw945.ext ew970
        have fw965_0 := fw965_0.ext ew970
        have e := Only.trans e ew970
        have er := Only.trans er ew970
        have zw970 := ew970.size
        refine ⟨⟨_, hbw2.cell 0, _, hbw2.cell 1, _, hbw2.cell 2, _, hbw2.cell 3, rfl⟩, ?_⟩
        refine ⟨⟨p0_0, hbw1.cell 0, rfl⟩, ?_⟩
        refine ⟨?_, ?_⟩
        ·
         refine set_step hbw884 (by simp) (fun w976 ow976 hbw884q nw976 => ?_)
         have hbw1 := hbw1.only ow976 (by omega)
         have hbw2 := hbw2.only ow976 (by omega)
         have hbw970 := hbw970.only ow976 (by omega)
         have fw918 := fw918.only ow976 (fun k h1 h2 => by omega)
         have fw945 := fw945.only ow976 (fun k h1 h2 => by omega)
         have fw965_0 := fw965_0.only ow976 (fun k h1 h2 => by omega)
         have e := Ext.own e ow976 (fun k hk => by omega)
         have er := Ext.own er ow976 (fun k hk => by omega)
         have hbw884 := hbw884q
         refine ⟨?_, ?_⟩
         ·
          refine put_step hbw970 rfl rfl (fun w977 ow977 hbw970q nw977 => ?_)
          have hbw1 := hbw1.only ow977 (by omega)
          have hbw2 := hbw2.only ow977 (by omega)
          have hbw884 := hbw884.only ow977 (by omega)
          have fw918 := fw918.only ow977 (fun k h1 h2 => by omega)
          have fw945 := fw945.only ow977 (fun k h1 h2 => by omega)
          have fw965_0 := fw965_0.only ow977 (fun k h1 h2 => by omega)
          have e := Ext.own e ow977 (fun k hk => by omega)
          have er := Ext.own er ow977 (fun k hk => by omega)
          have hbw970 := hbw970q
          have hbl := hbw884.lt
          have hcl1 := hbw970.lt
          exact ⟨_, _, _, _, _, rfl, rfl, by omega, by omega, by omega, by omega, hbl, by omega, hcl1, by omega, by omega, hbw970, hbw884, fw965_0, er⟩
         ·
          trivial
        ·
         trivial
       ·
        trivial
      ·
       refine ⟨?_, ?_⟩
       ·
        refine alloc_step (fun w950 ew950 hbw950 nw950 => ?_)
        have hbw1 := hbw1.ext ew950
        have hbw2 := hbw2.ext ew950
        have hbw884 := hbw884.ext ew950
        have fw918 := fw918.ext ew950
        have fw945 := fw945.ext ew950
        have e := Only.trans e ew950
        have er := Only.trans er ew950
        have zw950 := ew950.size
        refine ⟨⟨_, hbw2.cell 0, _, hbw2.cell 1, _, hbw2.cell 2, _, hbw2.cell 3, rfl⟩, ?_⟩
        refine ⟨⟨p0_0, hbw1.cell 0, rfl⟩, ?_⟩
        refine ⟨?_, ?_⟩
        ·
         refine (specProcStep fw918.is sz0 fw945.is).mono ?_
         rintro _ w957 ⟨yw957_0, rfl, fw957_0, ew957⟩
         have hbw1 := hbw1.ext ew957
         have hbw2 := hbw2.ext ew957
         have hbw884 := hbw884.ext ew957
         have hbw950 := hbw950.ext ew957
         have fw918 := fw918.ext ew957
         have fw945 := fw945.ext ew957
         have e := Only.trans e ew957
         have er := Only.trans er ew957
         have zw957 := ew957.size
         have hiyw957_0 := fw957_0.is
         obtain ⟨ryw957_0_0, rfl, _⟩ := cells_Procs hiyw957_0
         refine ⟨ryw957_0_0, _, _, _, rfl, ?_⟩
         refine ⟨?_, ?_⟩
         ·
          refine set_step hbw884 (by simp) (fun w962 ow962 hbw884q nw962 => ?_)
          have hbw1 := hbw1.only ow962 (by omega)
          have hbw2 := hbw2.only ow962 (by omega)
          have hbw950 := hbw950.only ow962 (by omega)
          have fw918 := fw918.only ow962 (fun k h1 h2 => by omega)
          have fw945 := fw945.only ow962 (fun k h1 h2 => by omega)
          have fw957_0 := fw957_0.only ow962 (fun k h1 h2 => by omega)
          have e := Ext.own e ow962 (fun k hk => by omega)
          have er := Ext.own er ow962 (fun k hk => by omega)
          have hbw884 := hbw884q
          refine ⟨?_, ?_⟩
          ·
           refine put_step hbw950 rfl rfl (fun w963 ow963 hbw950q nw963 => ?_)
           have hbw1 := hbw1.only ow963 (by omega)
           have hbw2 := hbw2.only ow963 (by omega)
           have hbw884 := hbw884.only ow963 (by omega)
           have fw918 := fw918.only ow963 (fun k h1 h2 => by omega)
           have fw945 := fw945.only ow963 (fun k h1 h2 => by omega)
           have fw957_0 := fw957_0.only ow963 (fun k h1 h2 => by omega)
           have e := Ext.own e ow963 (fun k hk => by omega)
           have er := Ext.own er ow963 (fun k hk => by omega)
           have hbw950 := hbw950q
           have hbl := hbw884.lt
           have hcl1 := hbw950.lt
           exact ⟨_, _, _, _, _, rfl, rfl, by omega, by omega, by omega, by omega, hbl, by omega, hcl1, by omega, by omega, hbw950, hbw884, fw957_0, er⟩
          ·
           trivial
         ·
          trivial
        ·
         trivial
       ·
        trivial
     ·
      refine ⟨?_, ?_⟩
      ·
       refine alloc_step (fun w924 ew924 hbw924 nw924 => ?_)
       have hbw1 := hbw1.ext ew924
       have hbw2 := hbw2.ext ew924
       have hbw884 := hbw884.ext ew924
       have fw918 := fw918.ext ew924
       have e := Only.trans e ew924
       have er := Only.trans er ew924
       have zw924 := ew924.size
       refine ⟨⟨_, hbw2.cell 0, _, hbw2.cell 1, _, hbw2.cell 2, _, hbw2.cell 3, rfl⟩, ?_⟩
       refine ⟨⟨p0_0, hbw1.cell 0, rfl⟩, ?_⟩
       refine ⟨?_, ?_⟩
       ·
        refine (c50 (DProcOp.has _) (IsD.ext e _ _ h1) (by have := pop_sz op; omega)).mono ?_
        rintro _ w931 ⟨yw931, rfl, fw931, ew931⟩
        have hbw1 := hbw1.ext ew931
        have hbw2 := hbw2.ext ew931
        have hbw884 := hbw884.ext ew931
        have hbw924 := hbw924.ext ew931
        have fw918 := fw918.ext ew931
        have e := Only.trans e ew931
        have er := Only.trans er ew931
        have zw931 := ew931.size
        have hiyw931 := fw931.is
        obtain ⟨rfl, _, _, _, _⟩ := cells_ProcOp hiyw931
        refine ⟨_, _, _, _, rfl, ?_⟩
        refine ⟨?_, ?_⟩
        ·
         refine (specProcStep fw918.is sz0 fw931.is).mono ?_
         rintro _ w937 ⟨yw937_0, rfl, fw937_0, ew937⟩
         have hbw1 := hbw1.ext ew937
         have hbw2 := hbw2.ext ew937
         have hbw884 := hbw884.ext ew937
         have hbw924 := hbw924.ext ew937
         have fw918 := fw918.ext ew937
         have fw931 := fw931.ext ew937
         have e := Only.trans e ew937
         have er := Only.trans er ew937
         have zw937 := ew937.size
         have hiyw937_0 := fw937_0.is
         obtain ⟨ryw937_0_0, rfl, _⟩ := cells_Procs hiyw937_0
         refine ⟨ryw937_0_0, _, _, _, rfl, ?_⟩
         refine ⟨?_, ?_⟩
         ·
          refine set_step hbw884 (by simp) (fun w942 ow942 hbw884q nw942 => ?_)
          have hbw1 := hbw1.only ow942 (by omega)
          have hbw2 := hbw2.only ow942 (by omega)
          have hbw924 := hbw924.only ow942 (by omega)
          have fw918 := fw918.only ow942 (fun k h1 h2 => by omega)
          have fw931 := fw931.only ow942 (fun k h1 h2 => by omega)
          have fw937_0 := fw937_0.only ow942 (fun k h1 h2 => by omega)
          have e := Ext.own e ow942 (fun k hk => by omega)
          have er := Ext.own er ow942 (fun k hk => by omega)
          have hbw884 := hbw884q
          refine ⟨?_, ?_⟩
          ·
           refine put_step hbw924 rfl rfl (fun w943 ow943 hbw924q nw943 => ?_)
           have hbw1 := hbw1.only ow943 (by omega)
           have hbw2 := hbw2.only ow943 (by omega)
           have hbw884 := hbw884.only ow943 (by omega)
           have fw918 := fw918.only ow943 (fun k h1 h2 => by omega)
           have fw931 := fw931.only ow943 (fun k h1 h2 => by omega)
           have fw937_0 := fw937_0.only ow943 (fun k h1 h2 => by omega)
           have e := Ext.own e ow943 (fun k hk => by omega)
           have er := Ext.own er ow943 (fun k hk => by omega)
           have hbw924 := hbw924q
           have hbl := hbw884.lt
           have hcl1 := hbw924.lt
           exact ⟨_, _, _, _, _, rfl, rfl, by omega, by omega, by omega, by omega, hbl, by omega, hcl1, by omega, by omega, hbw924, hbw884, fw937_0, er⟩
          ·
           trivial
         ·
          trivial
        ·
         trivial
       ·
        trivial
      ·
       trivial
    ·
     refine ⟨?_, ?_⟩
     ·
      refine alloc_step (fun w890 ew890 hbw890 nw890 => ?_)
      have hbw1 := hbw1.ext ew890
      have hbw2 := hbw2.ext ew890
      have hbw884 := hbw884.ext ew890
      have e := Only.trans e ew890
      have er := Only.trans er ew890
      have zw890 := ew890.size
      refine ⟨⟨_, hbw2.cell 0, _, hbw2.cell 1, _, hbw2.cell 2, _, hbw2.cell 3, rfl⟩, ?_⟩
      refine ⟨⟨p0_0, hbw1.cell 0, rfl⟩, ?_⟩
      refine ⟨?_, ?_⟩
      ·
       refine (c49 (DProcs.has _) (IsD.ext e _ _ h0) (by have := sz0; omega)).mono ?_
       rintro _ w897 ⟨yw897, rfl, fw897, ew897⟩
       have hbw1 := hbw1.ext ew897
       have hbw2 := hbw2.ext ew897
       have hbw884 := hbw884.ext ew897
       have hbw890 := hbw890.ext ew897
       have e := Only.trans e ew897
       have er := Only.trans er ew897
       have zw897 := ew897.size
       have hiyw897 := fw897.is
       obtain ⟨ryw897_0, rfl, _⟩ := cells_Procs hiyw897
       refine ⟨ryw897_0, rfl, ?_⟩
       refine ⟨⟨_, hbw2.cell 0, _, hbw2.cell 1, _, hbw2.cell 2, _, hbw2.cell 3, rfl⟩, ?_⟩
       refine ⟨?_, ?_⟩
       ·
        refine (c50 (DProcOp.has _) (IsD.ext e _ _ h1) (by have := pop_sz op; omega)).mono ?_
        rintro _ w904 ⟨yw904, rfl, fw904, ew904⟩
        have hbw1 := hbw1.ext ew904
        have hbw2 := hbw2.ext ew904
        have hbw884 := hbw884.ext ew904
        have hbw890 := hbw890.ext ew904
        have fw897 := fw897.ext ew904
        have e := Only.trans e ew904
        have er := Only.trans er ew904
        have zw904 := ew904.size
        have hiyw904 := fw904.is
        obtain ⟨rfl, _, _, _, _⟩ := cells_ProcOp hiyw904
        refine ⟨_, _, _, _, rfl, ?_⟩
        refine ⟨?_, ?_⟩
        ·
         refine (specProcStep fw897.is sz0 fw904.is).mono ?_
         rintro _ w910 ⟨yw910_0, rfl, fw910_0, ew910⟩
         have hbw1 := hbw1.ext ew910
         have hbw2 := hbw2.ext ew910
         have hbw884 := hbw884.ext ew910
         have hbw890 := hbw890.ext ew910
         have fw897 := fw897.ext ew910
         have fw904 := fw904.ext ew910
         have e := Only.trans e ew910
         have er := Only.trans er ew910
         have zw910 := ew910.size
         have hiyw910_0 := fw910_0.is
         obtain ⟨ryw910_0_0, rfl, _⟩ := cells_Procs hiyw910_0
         refine ⟨ryw910_0_0, _, _, _, rfl, ?_⟩
         refine ⟨?_, ?_⟩
         ·
          refine set_step hbw884 (by simp) (fun w915 ow915 hbw884q nw915 => ?_)
          have hbw1 := hbw1.only ow915 (by omega)
          have hbw2 := hbw2.only ow915 (by omega)
          have hbw890 := hbw890.only ow915 (by omega)
          have fw897 := fw897.only ow915 (fun k h1 h2 => by omega)
          have fw904 := fw904.only ow915 (fun k h1 h2 => by omega)
          have fw910_0 := fw910_0.only ow915 (fun k h1 h2 => by omega)
          have e := Ext.own e ow915 (fun k hk => by omega)
          have er := Ext.own er ow915 (fun k hk => by omega)
          have hbw884 := hbw884q
          refine ⟨?_, ?_⟩
          ·
           refine put_step hbw890 rfl rfl (fun w916 ow916 hbw890q nw916 => ?_)
           have hbw1 := hbw1.only ow916 (by omega)
           have hbw2 := hbw2.only ow916 (by omega)
           have hbw884 := hbw884.only ow916 (by omega)
           have fw897 := fw897.only ow916 (fun k h1 h2 => by omega)
           have fw904 := fw904.only ow916 (fun k h1 h2 => by omega)
           have fw910_0 := fw910_0.only ow916 (fun k h1 h2 => by omega)
           have e := Ext.own e ow916 (fun k hk => by omega)
           have er := Ext.own er ow916 (fun k hk => by omega)
           have hbw890 := hbw890q
           have hbl := hbw884.lt
           have hcl1 := hbw890.lt
           exact ⟨_, _, _, _, _, rfl, rfl, by omega, by omega, by omega, by omega, hbl, by omega, hcl1, by omega, by omega, hbw890, hbw884, fw910_0, er⟩
          ·
           trivial
         ·
          trivial
        ·
         trivial
       ·
        trivial
      ·
       trivial
     ·
      trivial
   ·
    refine ⟨?_, ?_⟩
    ·
     refine alloc_step (fun w790 ew790 hbw790 nw790 => ?_)
     have hbw1 := hbw1.ext ew790
     have hbw2 := hbw2.ext ew790
     have e := Only.trans e ew790
     have er := Only.trans er ew790
     have zw790 := ew790.size
     refine ⟨⟨_, hbw2.cell 0, _, hbw2.cell 1, _, hbw2.cell 2, _, hbw2.cell 3, rfl⟩, ?_⟩
     refine ⟨⟨p0_0, hbw1.cell 0, rfl⟩, ?_⟩
     refine ⟨?_, ?_⟩
     ·
      refine (c49 (DProcs.has _) (IsD.ext e _ _ h0) (by have := sz0; omega)).mono ?_
      rintro _ w824 ⟨yw824, rfl, fw824, ew824⟩
      have hbw1 := hbw1.ext ew824
      have hbw2 := hbw2.ext ew824
      have hbw790 := hbw790.ext ew824
      have e := Only.trans e ew824
      have er := Only.trans er ew824
      have zw824 := ew824.size
      have hiyw824 := fw824.is
      obtain ⟨ryw824_0, rfl, _⟩ := cells_Procs hiyw824
      refine ⟨ryw824_0, rfl, ?_⟩
      refine ⟨⟨_, hbw2.cell 0, _, hbw2.cell 1, _, hbw2.cell 2, _, hbw2.cell 3, rfl⟩, ?_⟩
      refine ⟨?_, ?_⟩
      ·
       refine (c50 (DProcOp.has _) (IsD.ext e _ _ h1) (by have := pop_sz op; omega)).mono ?_
       rintro _ w851 ⟨yw851, rfl, fw851, ew851⟩
       have hbw1 := hbw1.ext ew851
       have hbw2 := hbw2.ext ew851
       have hbw790 := hbw790.ext ew851
       have fw824 := fw824.ext ew851
       have e := Only.trans e ew851
       have er := Only.trans er ew851
       have zw851 := ew851.size
       have hiyw851 := fw851.is
       obtain ⟨rfl, _, _, _, _⟩ := cells_ProcOp hiyw851
       refine ⟨_, _, _, _, rfl, ?_⟩
       refine ⟨?_, ?_⟩
       ·
        refine (specProcStep fw824.is sz0 fw851.is).mono ?_
        rintro _ w871 ⟨yw871_0, rfl, fw871_0, ew871⟩
        have hbw1 := hbw1.ext ew871
        have hbw2 := hbw2.ext ew871
        have hbw790 := hbw790.ext ew871
        have fw824 := fw824.ext ew871
        have fw851 := fw851.ext ew871
        have e := Only.trans e ew871
        have er := Only.trans er ew871
        have zw871 := ew871.size
        have hiyw871_0 := fw871_0.is
        obtain ⟨ryw871_0_0, rfl, _⟩ := cells_Procs hiyw871_0
        refine ⟨ryw871_0_0, _, _, _, rfl, ?_⟩
        refine ⟨?_, ?_⟩
        ·
         refine alloc_step (fun w876 ew876 hbw876 nw876 => ?_)
         have hbw1 := hbw1.ext ew876
         have hbw2 := hbw2.ext ew876
         have hbw790 := hbw790.ext ew876
         have fw824 := fw824.ext ew876
         have fw851 := fw851.ext ew876
         have fw871_0 := fw871_0.ext ew876
         have e := Only.trans e ew876
         have er := Only.trans er ew876
         have zw876 := ew876.size
         refine ⟨⟨_, hbw2.cell 0, _, hbw2.cell 1, _, hbw2.cell 2, _, hbw2.cell 3, rfl⟩, ?_⟩
         refine ⟨⟨p0_0, hbw1.cell 0, rfl⟩, ?_⟩
         refine ⟨?_, ?_⟩
         ·
          refine set_step hbw876 (by simp) (fun w882 ow882 hbw876q nw882 => ?_)
          have hbw1 := hbw1.only ow882 (by omega)
          have hbw2 := hbw2.only ow882 (by omega)
          have hbw790 := hbw790.only ow882 (by omega)
          have fw824 := fw824.only ow882 (fun k h1 h2 => by omega)
          have fw851 := fw851.only ow882 (fun k h1 h2 => by omega)
          have fw871_0 := fw871_0.only ow882 (fun k h1 h2 => by omega)
          have e := Ext.own e ow882 (fun k hk => by omega)
          have er := Ext.own er ow882 (fun k hk => by omega)
          have hbw876 := hbw876q
          refine ⟨?_, ?_⟩
          ·
           refine put_step hbw790 rfl rfl (fun w883 ow883 hbw790q nw883 => ?_)
           have hbw1 := hbw1.only ow883 (by omega)
           have hbw2 := hbw2.only ow883 (by omega)
           have hbw876 := hbw876.only ow883 (by omega)
           have fw824 := fw824.only ow883 (fun k h1 h2 => by omega)
           have fw851 := fw851.only ow883 (fun k h1 h2 => by omega)
           have fw871_0 := fw871_0.only ow883 (fun k h1 h2 => by omega)
           have e := Ext.own e ow883 (fun k hk => by omega)
           have er := Ext.own er ow883 (fun k hk => by omega)
           have hbw790 := hbw790q
           have hbl := hbw876.lt
           have hcl1 := hbw790.lt
           exact ⟨_, _, _, _, _, rfl, rfl, by omega, by omega, by omega, by omega, hbl, by omega, hcl1, by omega, by omega, hbw790, hbw876, fw871_0, er⟩
          ·
           trivial
         ·
          trivial
        ·
         trivial
       ·
        refine ⟨?_, ?_⟩
        ·
         refine alloc_step (fun w856 ew856 hbw856 nw856 => ?_)
         have hbw1 := hbw1.ext ew856
         have hbw2 := hbw2.ext ew856
         have hbw790 := hbw790.ext ew856
         have fw824 := fw824.ext ew856
         have fw851 := fw851.ext ew856
         have e := Only.trans e ew856
         have er := Only.trans er ew856
         have zw856 := ew856.size
         refine ⟨⟨_, hbw2.cell 0, _, hbw2.cell 1, _, hbw2.cell 2, _, hbw2.cell 3, rfl⟩, ?_⟩
         refine ⟨⟨p0_0, hbw1.cell 0, rfl⟩, ?_⟩
         refine ⟨?_, ?_⟩
         ·
          refine (specProcStep fw824.is sz0 fw851.is).mono ?_
          rintro _ w863 ⟨yw863_0, rfl, fw863_0, ew863⟩
          have hbw1 := hbw1.ext ew863
          have hbw2 := hbw2.ext ew863
          have hbw790 := hbw790.ext ew863
          have hbw856 := hbw856.ext ew863
          have fw824 := fw824.ext ew863
          have fw851 := fw851.ext ew863
          have e := Only.trans e ew863
          have er := Only.trans er ew863
          have zw863 := ew863.size
          have hiyw863_0 := fw863_0.is
          obtain ⟨ryw863_0_0, rfl, _⟩ := cells_Procs hiyw863_0
          refine ⟨ryw863_0_0, _, _, _, rfl, ?_⟩
          refine ⟨?_, ?_⟩
          ·
           refine set_step hbw856 (by simp) (fun w868 ow868 hbw856q nw868 => ?_)
           have hbw1 := hbw1.only ow868 (by omega)
           have hbw2 := hbw2.only ow868 (by omega)
           have hbw790 := hbw790.only ow868 (by omega)
           have fw824 := fw824.only ow868 (fun k h1 h2 => by omega)
           have fw851 := fw851.only ow868 (fun k h1 h2 => by omega)
           have fw863_0 := fw863_0.only ow868 (fun k h1 h2 => by omega)
           have e := Ext.own e ow868 (fun k hk => by omega)
           have er := Ext.own er ow868 (fun k hk => by omega)
           have hbw856 := hbw856q
           refine ⟨?_, ?_⟩
           ·
            refine put_step hbw790 rfl rfl (fun w869 ow869 hbw790q nw869 => ?_)
            have hbw1 := hbw1.only ow869 (by omega)
            have hbw2 := hbw2.only ow869 (by omega)
            have hbw856 := hbw856.only ow869 (by omega)
            have fw824 := fw824.only ow869 (fun k h1 h2 => by omega)
            have fw851 := fw851.only ow869 (fun k h1 h2 => by omega)
            have fw863_0 := fw863_0.only ow869 (fun k h1 h2 => by omega)
            have e := Ext.own e ow869 (fun k hk => by omega)
            have er := Ext.own er ow869 (fun k hk => by omega)
            have hbw790 := hbw790q
            have hbl := hbw856.lt
            have hcl1 := hbw790.lt
            exact ⟨_, _, _, _, _, rfl, rfl, by omega, by omega, by omega, by omega, hbl, by omega, hcl1, by omega, by omega, hbw790, hbw856, fw863_0, er⟩
           ·
            trivial
          ·
           trivial
         ·
          trivial
        ·
         trivial
      ·
       refine ⟨?_, ?_⟩
       ·
        refine alloc_step (fun w830 ew830 hbw830 nw830 => ?_)
        have hbw1 := hbw1.ext ew830
        have hbw2 := hbw2.ext ew830
        have hbw790 := hbw790.ext ew830
        have fw824 := fw824.ext ew830
        have e := Only.trans e ew830
        have er := Only.trans er ew830
        have zw830 := ew830.size
        refine ⟨⟨_, hbw2.cell 0, _, hbw2.cell 1, _, hbw2.cell 2, _, hbw2.cell 3, rfl⟩, ?_⟩
        refine ⟨⟨p0_0, hbw1.cell 0, rfl⟩, ?_⟩
        refine ⟨?_, ?_⟩
        ·
         refine (c50 (DProcOp.has _) (IsD.ext e _ _ h1) (by have := pop_sz op; omega)).mono ?_
         rintro _ w837 ⟨yw837, rfl, fw837, ew837⟩
         have hbw1 := hbw1.ext ew837
         have hbw2 := hbw2.ext ew837
         have hbw790 := hbw790.ext ew837
         have hbw830 := hbw830.ext ew837
         have fw824 := fw824.ext ew837
         have e := Only.trans e ew837
         have er := Only.trans er ew837
         have zw837 := ew837.size
         have hiyw837 := fw837.is
         obtain ⟨rfl, _, _, _, _⟩ := cells_ProcOp hiyw837
         refine ⟨_, _, _, _, rfl, ?_⟩
         refine ⟨?_, ?_⟩
         ·
          refine (specProcStep fw824.is sz0 fw837.is).mono ?_
          rintro _ w843 ⟨yw843_0, rfl, fw843_0, ew843⟩
          have hbw1 := hbw1.ext ew843
          have hbw2 := hbw2.ext ew843
          have hbw790 := hbw790.ext ew843
          have hbw830 := hbw830.ext ew843
          have fw824 := fw824.ext ew843
          have fw837 := fw837.ext ew843
          have e := Only.trans e ew843
          have er := Only.trans er ew843
          have zw843 := ew843.size
          have hiyw843_0 := fw843_0.is
          obtain ⟨ryw843_0_0, rfl, _⟩ := cells_Procs hiyw843_0
          refine ⟨ryw843_0_0, _, _, _, rfl, ?_⟩
          refine ⟨?_, ?_⟩
          ·
           refine set_step hbw830 (by simp) (fun w848 ow848 hbw830q nw848 => ?_)
           have hbw1 := hbw1.only ow848 (by omega)
           have hbw2 := hbw2.only ow848 (by omega)
           have hbw790 := hbw790.only ow848 (by omega)
           have fw824 := fw824.only ow848 (fun k h1 h2 => by omega)
           have fw837 := fw837.only ow848 (fun k h1 h2 => by omega)
           have fw843_0 := fw843_0.only ow848 (fun k h1 h2 => by omega)
           have e := Ext.own e ow848 (fun k hk => by omega)
           have er := Ext.own er ow848 (fun k hk => by omega)
           have hbw830 := hbw830q
           refine ⟨?_, ?_⟩
           ·
            refine put_step hbw790 rfl rfl (fun w849 ow849 hbw790q nw849 => ?_)
            have hbw1 := hbw1.only ow849 (by omega)
            have hbw2 := hbw2.only ow849 (by omega)
            have hbw830 := hbw830.only ow849 (by omega)
            have fw824 := fw824.only ow849 (fun k h1 h2 => by omega)
            have fw837 := fw837.only ow849 (fun k h1 h2 => by omega)
            have fw843_0 := fw843_0.only ow849 (fun k h1 h2 => by omega)
            have e := Ext.own e ow849 (fun k hk => by omega)
            have er := Ext.own er ow849 (fun k hk => by omega)
            have hbw790 := hbw790q
            have hbl := hbw830.lt
            have hcl1 := hbw790.lt
            exact ⟨_, _, _, _, _, rfl, rfl, by omega, by omega, by omega, by omega, hbl, by omega, hcl1, by omega, by omega, hbw790, hbw830, fw843_0, er⟩
           ·
            trivial
          ·
           trivial
         ·
          trivial
        ·
         trivial
       ·
        trivial
     ·
      refine ⟨?_, ?_⟩
      ·
       refine alloc_step (fun w796 ew796 hbw796 nw796 => ?_)
       have hbw1 := hbw1.ext ew796
       have hbw2 := hbw2.ext ew796
       have hbw790 := hbw790.ext ew796
       have e := Only.trans e ew796
       have er := Only.trans er ew796
       have zw796 := ew796.size
       refine ⟨⟨_, hbw2.cell 0, _, hbw2.cell 1, _, hbw2.cell 2, _, hbw2.cell 3, rfl⟩, ?_⟩
       refine ⟨⟨p0_0, hbw1.cell 0, rfl⟩, ?_⟩
       refine ⟨?_, ?_⟩
       ·
        refine (c49 (DProcs.has _) (IsD.ext e _ _ h0) (by have := sz0; omega)).mono ?_
        rintro _ w803 ⟨yw803, rfl, fw803, ew803⟩
        have hbw1 := hbw1.ext ew803
        have hbw2 := hbw2.ext ew803
        have hbw790 := hbw790.ext ew803
        have hbw796 := hbw796.ext ew803
        have e := Only.trans e ew803
        have er := Only.trans er ew803
        have zw803 := ew803.size
        have hiyw803 := fw803.is
        obtain ⟨ryw803_0, rfl, _⟩ := cells_Procs hiyw803
        refine ⟨ryw803_0, rfl, ?_⟩
        refine ⟨⟨_, hbw2.cell 0, _, hbw2.cell 1, _, hbw2.cell 2, _, hbw2.cell 3, rfl⟩, ?_⟩
        refine ⟨?_, ?_⟩
        ·
         refine (c50 (DProcOp.has _) (IsD.ext e _ _ h1) (by have := pop_sz op; omega)).mono ?_
         rintro _ w810 ⟨yw810, rfl, fw810, ew810⟩
         have hbw1 := hbw1.ext ew810
         have hbw2 := hbw2.ext ew810
         have hbw790 := hbw790.ext ew810
         have hbw796 := hbw796.ext ew810
         have fw803 := fw803.ext ew810
         have e := Only.trans e ew810
         have er := Only.trans er ew810
         have zw810 := ew810.size
         have hiyw810 := fw810.is
         obtain ⟨rfl, _, _, _, _⟩ := cells_ProcOp hiyw810
         refine ⟨_, _, _, _, rfl, ?_⟩
         refine ⟨?_, ?_⟩
         ·
          refine (specProcStep fw803.is sz0 fw810.is).mono ?_
          rintro _ w816 ⟨yw816_0, rfl, fw816_0, ew816⟩
          have hbw1 := hbw1.ext ew816
          have hbw2 := hbw2.ext ew816
          have hbw790 := hbw790.ext ew816
          have hbw796 := hbw796.ext ew816
          have fw803 := fw803.ext ew816
          have fw810 := fw810.ext ew816
          have e := Only.trans e ew816
          have er := Only.trans er ew816
          have zw816 := ew816.size
          have hiyw816_0 := fw816_0.is
          obtain ⟨ryw816_0_0, rfl, _⟩ := cells_Procs hiyw816_0
          refine ⟨ryw816_0_0, _, _, _, rfl, ?_⟩
          refine ⟨?_, ?_⟩
          ·
           refine set_step hbw796 (by simp) (fun w821 ow821 hbw796q nw821 => ?_)
           have hbw1 := hbw1.only ow821 (by omega)
           have hbw2 := hbw2.only ow821 (by omega)
           have hbw790 := hbw790.only ow821 (by omega)
           have fw803 := fw803.only ow821 (fun k h1 h2 => by omega)
           have fw810 := fw810.only ow821 (fun k h1 h2 => by omega)
           have fw816_0 := fw816_0.only ow821 (fun k h1 h2 => by omega)
           have e := Ext.own e ow821 (fun k hk => by omega)
           have er := Ext.own er ow821 (fun k hk => by omega)
           have hbw796 := hbw796q
           refine ⟨?_, ?_⟩
           ·
            refine put_step hbw790 rfl rfl (fun w822 ow822 hbw790q nw822 => ?_)
            have hbw1 := hbw1.only ow822 (by omega)
            have hbw2 := hbw2.only ow822 (by omega)
            have hbw796 := hbw796.only ow822 (by omega)
            have fw803 := fw803.only ow822 (fun k h1 h2 => by omega)
            have fw810 := fw810.only ow822 (fun k h1 h2 => by omega)
            have fw816_0 := fw816_0.only ow822 (fun k h1 h2 => by omega)
            have e := Ext.own e ow822 (fun k hk => by omega)
            have er := Ext.own er ow822 (fun k hk => by omega)
            have hbw790 := hbw790q
            have hbl := hbw796.lt
            have hcl1 := hbw790.lt
            exact ⟨_, _, _, _, _, rfl, rfl, by omega, by omega, by omega, by omega, hbl, by omega, hcl1, by omega, by omega, hbw790, hbw796, fw816_0, er⟩
           ·
            trivial
          ·
           trivial
         ·
          trivial
        ·
         trivial
       ·
        trivial
      ·
       trivial
    ·
     trivial
 rintro (p7 : Option Addr) (p8 : Option Addr) w10 ⟨bw10, low10, hiw10, yw10, c1w10, rfl, rfl, hxw10, hlow10, hhiw10, hdsw10, hblw10, hcx1w10, hcl1w10, hcb1w10, hcd1w10, hc1w10, hbw10, fw10, erw10⟩
 have hbw1 := hbw1.ext erw10
 have hbw2 := hbw2.ext erw10
 have e := Only.trans e erw10
 have zw10 := erw10.size
 have hiyw10 := fw10.is
 obtain ⟨ryw10_0, rfl, _⟩ := cells_Procs hiyw10
 refine ⟨p0_0, hbw1.cell 0, ?_⟩
 refine (c49 (DProcs.has _) (IsD.ext e _ _ h0) (by have := sz0; omega)).mono ?_
 rintro _ w13 ⟨yw13, rfl, fw13, ew13⟩
 have hbw1 := hbw1.ext ew13
 have hbw2 := hbw2.ext ew13
 have hbw10 := hbw10.ext ew13
 have hc1w10 := hc1w10.ext ew13
 have fw10 := fw10.ext ew13
 have e := Only.trans e ew13
 have zw13 := ew13.size
 have hiyw13 := fw13.is
 obtain ⟨ryw13_0, rfl, _⟩ := cells_Procs hiyw13
 refine ⟨ryw13_0, rfl, ?_⟩
 refine alloc_step (fun w15 ew15 hbw15 nw15 => ?_)
 have hbw1 := hbw1.ext ew15
 have hbw2 := hbw2.ext ew15
 have hbw10 := hbw10.ext ew15
 have hc1w10 := hc1w10.ext ew15
 have fw10 := fw10.ext ew15
 have fw13 := fw13.ext ew15
 have e := Only.trans e ew15
 have zw15 := ew15.size
 refine set_step hbw15 (by simp) (fun w16 ow16 hbw15q nw16 => ?_)
 have hbw1 := hbw1.only ow16 (by omega)
 have hbw2 := hbw2.only ow16 (by omega)
 have hbw10 := hbw10.only ow16 (by omega)
 have hc1w10 := hc1w10.only ow16 (by omega)
 have fw10 := fw10.only ow16 (fun k h1 h2 => by omega)
 have fw13 := fw13.only ow16 (fun k h1 h2 => by omega)
 have e := Ext.own e ow16 (fun k hk => by omega)
 have hbw15 := hbw15q
 refine JoinW.cut2 (fun (p17 : Option Addr) (p18 : Option Addr) w' => ∃ (b lo hi : Nat) (y : List Value) (c1 : Nat), p17 = some ⟨b, 0, none⟩ ∧ p18 = some ⟨c1, 0, none⟩ ∧ w16.heap.size ≤ b ∧ w16.heap.size ≤ lo ∧ hi ≤ w'.heap.size ∧ (b < lo ∨ hi ≤ b) ∧ b < w'.heap.size ∧ w16.heap.size ≤ c1 ∧ c1 < w'.heap.size ∧ b ≠ c1 ∧ (c1 < lo ∨ hi ≤ c1) ∧ Blk w' c1 [.int .i64 (pstepA x op).Code, .int .i64 (pstepA x op).N, .int .i64 (pstepA x op).Status] ∧ Blk w' b y ∧ Fr lo hi w' (pstepD x op).dat y ∧ Ext w16 w') ?_ ?_
 ·
  have er : Ext w16 w16 := Only.refl _ _
  have zr0 : w16.heap.size ≤ w16.heap.size := Nat.le_refl _
  have ed := ext_drew w16
  have hbw1 := hbw1.ext ed
  have hbw2 := hbw2.ext ed
  have hbw10 := hbw10.ext ed
  have hc1w10 := hc1w10.ext ed
  have hbw15 := hbw15.ext ed
  have fw10 := fw10.ext ed
  have fw13 := fw13.ext ed
  have e := Only.trans e ed
  have er := Only.trans er ed
  have zw16_drew := ed.size
  refine ⟨ryw13_0, hbw15.cell 0, ?_⟩
  refine ⟨_, hbw2.cell 0, ?_⟩
  refine ⟨_, hbw2.cell 1, ?_⟩
  refine ⟨_, hbw2.cell 2, ?_⟩
  refine ⟨_, hbw2.cell 3, ?_⟩
  refine ⟨?_, ?_⟩
  ·
   refine (c50 (DProcOp.has _) (IsD.ext e _ _ h1) (by have := pop_sz op; omega)).mono ?_
   rintro _ w677 ⟨yw677, rfl, fw677, ew677⟩
   have hbw1 := hbw1.ext ew677
   have hbw2 := hbw2.ext ew677
   have hbw10 := hbw10.ext ew677
   have hc1w10 := hc1w10.ext ew677
   have hbw15 := hbw15.ext ew677
   have fw10 := fw10.ext ew677
   have fw13 := fw13.ext ew677
   have e := Only.trans e ew677
   have er := Only.trans er ew677
   have zw677 := ew677.size
   have hiyw677 := fw677.is
   obtain ⟨rfl, _, _, _, _⟩ := cells_ProcOp hiyw677
   refine ⟨_, _, _, _, rfl, ?_⟩
   refine ⟨⟨ryw13_0, hbw15.cell 0, rfl⟩, ?_⟩
   refine ⟨?_, ?_⟩
   ·
    refine (implProcStep fw13.is sz0 fw677.is).mono ?_
    rintro _ w752 ⟨yw752_0, rfl, fw752_0, ew752⟩
    have hbw1 := hbw1.ext ew752
    have hbw2 := hbw2.ext ew752
    have hbw10 := hbw10.ext ew752
    have hc1w10 := hc1w10.ext ew752
    have hbw15 := hbw15.ext ew752
    have fw10 := fw10.ext ew752
    have fw13 := fw13.ext ew752
    have fw677 := fw677.ext ew752
    have e := Only.trans e ew752
    have er := Only.trans er ew752
    have zw752 := ew752.size
    have hiyw752_0 := fw752_0.is
    obtain ⟨ryw752_0_0, rfl, _⟩ := cells_Procs hiyw752_0
    refine ⟨ryw752_0_0, _, _, _, rfl, ?_⟩
    refine ⟨?_, ?_⟩
    ·
     refine alloc_step (fun w771 ew771 hbw771 nw771 => ?_)
     have hbw1 := hbw1.ext ew771
     have hbw2 := hbw2.ext ew771
     have hbw10 := hbw10.ext ew771
     have hc1w10 := hc1w10.ext ew771
     have hbw15 := hbw15.ext ew771
     have fw10 := fw10.ext ew771
     have fw13 := fw13.ext ew771
     have fw677 := fw677.ext ew771
     have fw752_0 := fw752_0.ext ew771
     have e := Only.trans e ew771
     have er := Only.trans er ew771
     have zw771 := ew771.size
     refine ⟨⟨_, hbw2.cell 0, _, hbw2.cell 1, _, hbw2.cell 2, _, hbw2.cell 3, rfl⟩, ?_⟩
     refine ⟨⟨ryw13_0, hbw15.cell 0, rfl⟩, ?_⟩
     refine ⟨?_, ?_⟩
     ·
      refine alloc_step (fun w777 ew777 hbw777 nw777 => ?_)
      have hbw1 := hbw1.ext ew777
      have hbw2 := hbw2.ext ew777
      have hbw10 := hbw10.ext ew777
      have hc1w10 := hc1w10.ext ew777
      have hbw15 := hbw15.ext ew777
      have hbw771 := hbw771.ext ew777
      have fw10 := fw10.ext ew777
      have fw13 := fw13.ext ew777
      have fw677 := fw677.ext ew777
      have fw752_0 := fw752_0.ext ew777
      have e := Only.trans e ew777
      have er := Only.trans er ew777
      have zw777 := ew777.size
      refine ⟨⟨_, hbw2.cell 0, _, hbw2.cell 1, _, hbw2.cell 2, _, hbw2.cell 3, rfl⟩, ?_⟩
      refine ⟨⟨ryw13_0, hbw15.cell 0, rfl⟩, ?_⟩
      refine ⟨?_, ?_⟩
      ·
       refine set_step hbw771 (by simp) (fun w783 ow783 hbw771q nw783 => ?_)
       have hbw1 := hbw1.only ow783 (by omega)
       have hbw2 := hbw2.only ow783 (by omega)
       have hbw10 := hbw10.only ow783 (by omega)
       have hc1w10 := hc1w10.only ow783 (by omega)
       have hbw15 := hbw15.only ow783 (by omega)
       have hbw777 := hbw777.only ow783 (by omega)
       have fw10 := fw10.only ow783 (fun k h1 h2 => by omega)
       have fw13 := fw13.only ow783 (fun k h1 h2 => by omega)
       have fw677 := fw677.only ow783 (fun k h1 h2 => by omega)
       have fw752_0 := fw752_0.only ow783 (fun k h1 h2 => by omega)
       have e := Ext.own e ow783 (fun k hk => by omega)
       have er := Ext.own er ow783 (fun k hk => by omega)
       have hbw771 := hbw771q
       refine ⟨?_, ?_⟩
       ·
        refine put_step hbw777 rfl rfl (fun w784 ow784 hbw777q nw784 => ?_)
        have hbw1 := hbw1.only ow784 (by omega)
        have hbw2 := hbw2.only ow784 (by omega)
        have hbw10 := hbw10.only ow784 (by omega)
        have hc1w10 := hc1w10.only ow784 (by omega)
        have hbw15 := hbw15.only ow784 (by omega)
        have hbw771 := hbw771.only ow784 (by omega)
        have fw10 := fw10.only ow784 (fun k h1 h2 => by omega)
        have fw13 := fw13.only ow784 (fun k h1 h2 => by omega)
        have fw677 := fw677.only ow784 (fun k h1 h2 => by omega)
        have fw752_0 := fw752_0.only ow784 (fun k h1 h2 => by omega)
        have e := Ext.own e ow784 (fun k hk => by omega)
        have er := Ext.own er ow784 (fun k hk => by omega)
        have hbw777 := hbw777q
        have hbl := hbw771.lt
        have hcl1 := hbw777.lt
        exact ⟨_, _, _, _, _, rfl, rfl, by omega, by omega, by omega, by omega, hbl, by omega, hcl1, by omega, by omega, hbw777, hbw771, fw752_0, er⟩
       ·
        trivial
      ·
       trivial
     ·
      trivial
    ·
     refine ⟨?_, ?_⟩
     ·
      refine alloc_step (fun w757 ew757 hbw757 nw757 => ?_)
      have hbw1 := hbw1.ext ew757
      have hbw2 := hbw2.ext ew757
      have hbw10 := hbw10.ext ew757
      have hc1w10 := hc1w10.ext ew757
      have hbw15 := hbw15.ext ew757
      have fw10 := fw10.ext ew757
      have fw13 := fw13.ext ew757
      have fw677 := fw677.ext ew757
      have fw752_0 := fw752_0.ext ew757
      have e := Only.trans e ew757
      have er := Only.trans er ew757
      have zw757 := ew757.size
      refine ⟨⟨_, hbw2.cell 0, _, hbw2.cell 1, _, hbw2.cell 2, _, hbw2.cell 3, rfl⟩, ?_⟩
      refine ⟨⟨ryw13_0, hbw15.cell 0, rfl⟩, ?_⟩
      refine ⟨?_, ?_⟩
      ·
       refine alloc_step (fun w763 ew763 hbw763 nw763 => ?_)
       have hbw1 := hbw1.ext ew763
       have hbw2 := hbw2.ext ew763
       have hbw10 := hbw10.ext ew763
       have hc1w10 := hc1w10.ext ew763
       have hbw15 := hbw15.ext ew763
       have hbw757 := hbw757.ext ew763
       have fw10 := fw10.ext ew763
       have fw13 := fw13.ext ew763
       have fw677 := fw677.ext ew763
       have fw752_0 := fw752_0.ext ew763
       have e := Only.trans e ew763
       have er := Only.trans er ew763
       have zw763 := ew763.size
       refine ⟨⟨_, hbw2.cell 0, _, hbw2.cell 1, _, hbw2.cell 2, _, hbw2.cell 3, rfl⟩, ?_⟩
       refine ⟨⟨ryw13_0, hbw15.cell 0, rfl⟩, ?_⟩
       refine ⟨?_, ?_⟩
       ·
        refine set_step hbw763 (by simp) (fun w769 ow769 hbw763q nw769 => ?_)
        have hbw1 := hbw1.only ow769 (by omega)
        have hbw2 := hbw2.only ow769 (by omega)
        have hbw10 := hbw10.only ow769 (by omega)
        have hc1w10 := hc1w10.only ow769 (by omega)
        have hbw15 := hbw15.only ow769 (by omega)
        have hbw757 := hbw757.only ow769 (by omega)
        have fw10 := fw10.only ow769 (fun k h1 h2 => by omega)
        have fw13 := fw13.only ow769 (fun k h1 h2 => by omega)
        have fw677 := fw677.only ow769 (fun k h1 h2 => by omega)
        have fw752_0 := fw752_0.only ow769 (fun k h1 h2 => by omega)
        have e := Ext.own e ow769 (fun k hk => by omega)
        have er := Ext.own er ow769 (fun k hk => by omega)
        have hbw763 := hbw763q
        refine ⟨?_, ?_⟩
        ·
         refine put_step hbw757 rfl rfl (fun w770 ow770 hbw757q nw770 => ?_)
         have hbw1 := hbw1.only ow770 (by omega)
         have hbw2 := hbw2.only ow770 (by omega)
         have hbw10 := hbw10.only ow770 (by omega)
         have hc1w10 := hc1w10.only ow770 (by omega)
         have hbw15 := hbw15.only ow770 (by omega)
         have hbw763 := hbw763.only ow770 (by omega)
         have fw10 := fw10.only ow770 (fun k h1 h2 => by omega)
         have fw13 := fw13.only ow770 (fun k h1 h2 => by omega)
         have fw677 := fw677.only ow770 (fun k h1 h2 => by omega)
         have fw752_0 := fw752_0.only ow770 (fun k h1 h2 => by omega)
         have e := Ext.own e ow770 (fun k hk => by omega)
         have er := Ext.own er ow770 (fun k hk => by omega)
         have hbw757 := hbw757q
         have hbl := hbw763.lt
         have hcl1 := hbw757.lt
         exact ⟨_, _, _, _, _, rfl, rfl, by omega, by omega, by omega, by omega, hbl, by omega, hcl1, by omega, by omega, hbw757, hbw763, fw752_0, er⟩
        ·
         trivial
       ·
        trivial
      ·
       trivial
     ·
      trivial
   ·
    refine ⟨?_, ?_⟩
    ·
     refine alloc_step (fun w717 ew717 hbw717 nw717 => ?_)
     have hbw1 := hbw1.ext ew717
     have hbw2 := hbw2.ext ew717
     have hbw10 := hbw10.ext ew717
     have hc1w10 := hc1w10.ext ew717
     have hbw15 := hbw15.ext ew717
     have fw10 := fw10.ext ew717
     have fw13 := fw13.ext ew717
     have fw677 := fw677.ext ew717
     have e := Only.trans e ew717
     have er := Only.trans er ew717
     have zw717 := ew717.size
     refine ⟨⟨_, hbw2.cell 0, _, hbw2.cell 1, _, hbw2.cell 2, _, hbw2.cell 3, rfl⟩, ?_⟩
     refine ⟨⟨ryw13_0, hbw15.cell 0, rfl⟩, ?_⟩
     refine ⟨?_, ?_⟩
     ·
      refine (implProcStep fw13.is sz0 fw677.is).mono ?_
      rintro _ w738 ⟨yw738_0, rfl, fw738_0, ew738⟩
      have hbw1 := hbw1.ext ew738
      have hbw2 := hbw2.ext ew738
      have hbw10 := hbw10.ext ew738
      have hc1w10 := hc1w10.ext ew738
      have hbw15 := hbw15.ext ew738
      have hbw717 := hbw717.ext ew738
      have fw10 := fw10.ext ew738
      have fw13 := fw13.ext ew738
      have fw677 := fw677.ext ew738
      have e := Only.trans e ew738
      have er := Only.trans er ew738
      have zw738 := ew738.size
      have hiyw738_0 := fw738_0.is
      obtain ⟨ryw738_0_0, rfl, _⟩ := cells_Procs hiyw738_0
      refine ⟨ryw738_0_0, _, _, _, rfl, ?_⟩
      refine ⟨?_, ?_⟩
      ·
       refine alloc_step (fun w743 ew743 hbw743 nw743 => ?_)
       have hbw1 := hbw1.ext ew743
       have hbw2 := hbw2.ext ew743
       have hbw10 := hbw10.ext ew743
       have hc1w10 := hc1w10.ext ew743
       have hbw15 := hbw15.ext ew743
       have hbw717 := hbw717.ext ew743
       have fw10 := fw10.ext ew743
       have fw13 := fw13.ext ew743
       have fw677 := fw677.ext ew743
       have fw738_0 := fw738_0.ext ew743
       have e := Only.trans e ew743
       have er := Only.trans er ew743
       have zw743 := ew743.size
       refine ⟨⟨_, hbw2.cell 0, _, hbw2.cell 1, _, hbw2.cell 2, _, hbw2.cell 3, rfl⟩, ?_⟩
       refine ⟨⟨ryw13_0, hbw15.cell 0, rfl⟩, ?_⟩
       refine ⟨?_, ?_⟩
       ·
        refine set_step hbw717 (by simp) (fun w749 ow749 hbw717q nw749 => ?_)
        have hbw1 := hbw1.only ow749 (by omega)
        have hbw2 := hbw2.only ow749 (by omega)
        have hbw10 := hbw10.only ow749 (by omega)
        have hc1w10 := hc1w10.only ow749 (by omega)
        have hbw15 := hbw15.only ow749 (by omega)
        have hbw743 := hbw743.only ow749 (by omega)
        have fw10 := fw10.only ow749 (fun k h1 h2 => by omega)
        have fw13 := fw13.only ow749 (fun k h1 h2 => by omega)
        have fw677 := fw677.only ow749 (fun k h1 h2 => by omega)
        have fw738_0 := fw738_0.only ow749 (fun k h1 h2 => by omega)
        have e := Ext.own e ow749 (fun k hk => by omega)
        have er := Ext.own er ow749 (fun k hk => by omega)
        have hbw717 := hbw717q
        refine ⟨?_, ?_⟩
        ·
         refine put_step hbw743 rfl rfl (fun w750 ow750 hbw743q nw750 => ?_)
         have hbw1 := hbw1.only ow750 (by omega)
         have hbw2 := hbw2.only ow750 (by omega)
         have hbw10 := hbw10.only ow750 (by omega)
         have hc1w10 := hc1w10.only ow750 (by omega)
         have hbw15 := hbw15.only ow750 (by omega)
         have hbw717 := hbw717.only ow750 (by omega)
         have fw10 := fw10.only ow750 (fun k h1 h2 => by omega)
         have fw13 := fw13.only ow750 (fun k h1 h2 => by omega)
         have fw677 := fw677.only ow750 (fun k h1 h2 => by omega)
         have fw738_0 := fw738_0.only ow750 (fun k h1 h2 => by omega)
         have e := Ext.own e ow750 (fun k hk => by omega)
         have er := Ext.own er ow750 (fun k hk => by omega)
         have hbw743 := hbw743q
         have hbl := hbw717.lt
         have hcl1 := hbw743.lt
         exact ⟨_, _, _, _, _, rfl, rfl, by omega, by omega, by omega, by omega, hbl, by omega, hcl1, by omega, by omega, hbw743, hbw717, fw738_0, er⟩
        ·
         trivial
       ·
        trivial
      ·
       trivial
     ·
      refine ⟨?_, ?_⟩
      ·
       refine alloc_step (fun w723 ew723 hbw723 nw723 => ?_)
       have hbw1 := hbw1.ext ew723
       have hbw2 := hbw2.ext ew723
       have hbw10 := hbw10.ext ew723
       have hc1w10 := hc1w10.ext ew723
       have hbw15 := hbw15.ext ew723
       have hbw717 := hbw717.ext ew723
       have fw10 := fw10.ext ew723
       have fw13 := fw13.ext ew723
       have fw677 := fw677.ext ew723
       have e := Only.trans e ew723
       have er := Only.trans er ew723
       have zw723 := ew723.size
       refine ⟨⟨_, hbw2.cell 0, _, hbw2.cell 1, _, hbw2.cell 2, _, hbw2.cell 3, rfl⟩, ?_⟩
       refine ⟨⟨ryw13_0, hbw15.cell 0, rfl⟩, ?_⟩
       refine ⟨?_, ?_⟩
       ·
        refine (implProcStep fw13.is sz0 fw677.is).mono ?_
        rintro _ w730 ⟨yw730_0, rfl, fw730_0, ew730⟩
        have hbw1 := hbw1.ext ew730
        have hbw2 := hbw2.ext ew730
        have hbw10 := hbw10.ext ew730
        have hc1w10 := hc1w10.ext ew730
        have hbw15 := hbw15.ext ew730
        have hbw717 := hbw717.ext ew730
        have hbw723 := hbw723.ext ew730
        have fw10 := fw10.ext ew730
        have fw13 := fw13.ext ew730
        have fw677 := fw677.ext ew730
        have e := Only.trans e ew730
        have er := Only.trans er ew730
        have zw730 := ew730.size
        have hiyw730_0 := fw730_0.is
        obtain ⟨ryw730_0_0, rfl, _⟩ := cells_Procs hiyw730_0
        refine ⟨ryw730_0_0, _, _, _, rfl, ?_⟩
        refine ⟨?_, ?_⟩
        ·
         refine set_step hbw717 (by simp) (fun w735 ow735 hbw717q nw735 => ?_)
         have hbw1 := hbw1.only ow735 (by omega)
         have hbw2 := hbw2.only ow735 (by omega)
         have hbw10 := hbw10.only ow735 (by omega)
         have hc1w10 := hc1w10.only ow735 (by omega)
         have hbw15 := hbw15.only ow735 (by omega)
         have hbw723 := hbw723.only ow735 (by omega)
         have fw10 := fw10.only ow735 (fun k h1 h2 => by omega)
         have fw13 := fw13.only ow735 (fun k h1 h2 => by omega)
         have fw677 := fw677.only ow735 (fun k h1 h2 => by omega)
         have fw730_0 := fw730_0.only ow735 (fun k h1 h2 => by omega)
         have e := Ext.own e ow735 (fun k hk => by omega)
         have er := Ext.own er ow735 (fun k hk => by omega)
         have hbw717 := hbw717q
         refine ⟨?_, ?_⟩
         ·
          refine put_step hbw723 rfl rfl (fun w736 ow736 hbw723q nw736 => ?_)
          have hbw1 := hbw1.only ow736 (by omega)
          have hbw2 := hbw2.only ow736 (by omega)
          have hbw10 := hbw10.only ow736 (by omega)
          have hc1w10 := hc1w10.only ow736 (by omega)
          have hbw15 := hbw15.only ow736 (by omega)
          have hbw717 := hbw717.only ow736 (by omega)
          have fw10 := fw10.only ow736 (fun k h1 h2 => by omega)
          have fw13 := fw13.only ow736 (fun k h1 h2 => by omega)
          have fw677 := fw677.only ow736 (fun k h1 h2 => by omega)
          have fw730_0 := fw730_0.only ow736 (fun k h1 h2 => by omega)
          have e := Ext.own e ow736 (fun k hk => by omega)
          have er := Ext.own er ow736 (fun k hk => by omega)
          have hbw723 := hbw723q
          have hbl := hbw717.lt
          have hcl1 := hbw723.lt
          exact ⟨_, _, _, _, _, rfl, rfl, by omega, by omega, by omega, by omega, hbl, by omega, hcl1, by omega, by omega, hbw723, hbw717, fw730_0, er⟩
         ·
          trivial
        ·
         trivial
       ·
        trivial
      ·
       trivial
    ·
     refine ⟨?_, ?_⟩
     ·
      refine alloc_step (fun w683 ew683 hbw683 nw683 => ?_)
      have hbw1 := hbw1.ext ew683
      have hbw2 := hbw2.ext ew683
      have hbw10 := hbw10.ext ew683
      have hc1w10 := hc1w10.ext ew683
      have hbw15 := hbw15.ext ew683
      have fw10 := fw10.ext ew683
      have fw13 := fw13.ext ew683
      have fw677 := fw677.ext ew683
      have e := Only.trans e ew683
      have er := Only.trans er ew683
      have zw683 := ew683.size
      refine ⟨⟨_, hbw2.cell 0, _, hbw2.cell 1, _, hbw2.cell 2, _, hbw2.cell 3, rfl⟩, ?_⟩
      refine ⟨⟨ryw13_0, hbw15.cell 0, rfl⟩, ?_⟩
      refine ⟨?_, ?_⟩
      ·
       refine (implProcStep fw13.is sz0 fw677.is).mono ?_
       rintro _ w704 ⟨yw704_0, rfl, fw704_0, ew704⟩
       have hbw1 := hbw1.ext ew704
       have hbw2 := hbw2.ext ew704
       have hbw10 := hbw10.ext ew704
       have hc1w10 := hc1w10.ext ew704
       have hbw15 := hbw15.ext ew704
       have hbw683 := hbw683.ext ew704
       have fw10 := fw10.ext ew704
       have fw13 := fw13.ext ew704
       have fw677 := fw677.ext ew704
       have e := Only.trans e ew704
       have er := Only.trans er ew704
       have zw704 := ew704.size
       have hiyw704_0 := fw704_0.is
       obtain ⟨ryw704_0_0, rfl, _⟩ := cells_Procs hiyw704_0
       refine ⟨ryw704_0_0, _, _, _, rfl, ?_⟩
       refine ⟨?_, ?_⟩
       ·
        refine alloc_step (fun w709 ew709 hbw709 nw709 => ?_)
        have hbw1 := hbw1.ext ew709
        have hbw2 := hbw2.ext ew709
        have hbw10 := hbw10.ext ew709
        have hc1w10 := hc1w10.ext ew709
        have hbw15 := hbw15.ext ew709
        have hbw683 := hbw683.ext ew709
        have fw10 := fw10.ext ew709
        have fw13 := fw13.ext ew709
        have fw677 := fw677.ext ew709
        have fw704_0 := fw704_0.ext ew709
        have e := Only.trans e ew709
        have er := Only.trans er ew709
        have zw709 := ew709.size
        refine ⟨⟨_, hbw2.cell 0, _, hbw2.cell 1, _, hbw2.cell 2, _, hbw2.cell 3, rfl⟩, ?_⟩
        refine ⟨⟨ryw13_0, hbw15.cell 0, rfl⟩, ?_⟩
        refine ⟨?_, ?_⟩
        ·
         refine set_step hbw709 (by simp) (fun w715 ow715 hbw709q nw715 => ?_)
         have hbw1 := hbw1.only ow715 (by omega)
         have hbw2 := hbw2.only ow715 (by omega)
         have hbw10 := hbw10.only ow715 (by omega)
         have hc1w10 := hc1w10.only ow715 (by omega)
         have hbw15 := hbw15.only ow715 (by omega)
         have hbw683 := hbw683.only ow715 (by omega)
         have fw10 := fw10.only ow715 (fun k h1 h2 => by omega)
         have fw13 := fw13.only ow715 (fun k h1 h2 => by omega)
         have fw677 := fw677.only ow715 (fun k h1 h2 => by omega)
         have fw704_0 := fw704_0.only ow715 (fun k h1 h2 => by omega)
         have e := Ext.own e ow715 (fun k hk => by omega)
         have er := Ext.own er ow715 (fun k hk => by omega)
         have hbw709 := hbw709q
         refine ⟨?_, ?_⟩
         ·
          refine put_step hbw683 rfl rfl (fun w716 ow716 hbw683q nw716 => ?_)
          have hbw1 := hbw1.only ow716 (by omega)
          have hbw2 := hbw2.only ow716 (by omega)
          have hbw10 := hbw10.only ow716 (by omega)
          have hc1w10 := hc1w10.only ow716 (by omega)
          have hbw15 := hbw15.only ow716 (by omega)
          have hbw709 := hbw709.only ow716 (by omega)
          have fw10 := fw10.only ow716 (fun k h1 h2 => by omega)
          have fw13 := fw13.only ow716 (fun k h1 h2 => by omega)
          have fw677 := fw677.only ow716 (fun k h1 h2 => by omega)
          have fw704_0 := fw704_0.only ow716 (fun k h1 h2 => by omega)
          have e := Ext.own e ow716 (fun k hk => by omega)
          have er := Ext.own er ow716 (fun k hk => by omega)
          have hbw683 := hbw683q
          have hbl := hbw709.lt
          have hcl1 := hbw683.lt
          exact ⟨_, _, _, _, _, rfl, rfl, by omega, by omega, by omega, by omega, hbl, by omega, hcl1, by omega, by omega, hbw683, hbw709, fw704_0, er⟩
         ·
          trivial
        ·
         trivial
       ·
        trivial
      ·
       refine ⟨?_, ?_⟩
       ·
        refine alloc_step (fun w689 ew689 hbw689 nw689 => ?_)
        have hbw1 := hbw1.ext ew689
        have hbw2 := hbw2.ext ew689
        have hbw10 := hbw10.ext ew689
        have hc1w10 := hc1w10.ext ew689
        have hbw15 := hbw15.ext ew689
        have hbw683 := hbw683.ext ew689
        have fw10 := fw10.ext ew689
        have fw13 := fw13.ext ew689
        have fw677 := fw677.ext ew689
        have e := Only.trans e ew689
        have er := Only.trans er ew689
        have zw689 := ew689.size
        refine ⟨⟨_, hbw2.cell 0, _, hbw2.cell 1, _, hbw2.cell 2, _, hbw2.cell 3, rfl⟩, ?_⟩
        refine ⟨⟨ryw13_0, hbw15.cell 0, rfl⟩, ?_⟩
        refine ⟨?_, ?_⟩
        ·
         refine (implProcStep fw13.is sz0 fw677.is).mono ?_
         rintro _ w696 ⟨yw696_0, rfl, fw696_0, ew696⟩
         have hbw1 := hbw1.ext ew696
         have hbw2 := hbw2.ext ew696
         have hbw10 := hbw10.ext ew696
         have hc1w10 := hc1w10.ext ew696
         have hbw15 := hbw15.ext ew696
         have hbw683 := hbw683.ext ew696
         have hbw689 := hbw689.ext ew696
         have fw10 := fw10.ext ew696
         have fw13 := fw13.ext ew696
         have fw677 := fw677.ext ew696
         have e := Only.trans e ew696
         have er := Only.trans er ew696
         have zw696 := ew696.size
         have hiyw696_0 := fw696_0.is
         obtain ⟨ryw696_0_0, rfl, _⟩ := cells_Procs hiyw696_0
         refine ⟨ryw696_0_0, _, _, _, rfl, ?_⟩
         refine ⟨?_, ?_⟩
         ·
          refine set_step hbw689 (by simp) (fun w701 ow701 hbw689q nw701 => ?_)
          have hbw1 := hbw1.only ow701 (by omega)
          have hbw2 := hbw2.only ow701 (by omega)
          have hbw10 := hbw10.only ow701 (by omega)
          have hc1w10 := hc1w10.only ow701 (by omega)
          have hbw15 := hbw15.only ow701 (by omega)
          have hbw683 := hbw683.only ow701 (by omega)
          have fw10 := fw10.only ow701 (fun k h1 h2 => by omega)
          have fw13 := fw13.only ow701 (fun k h1 h2 => by omega)
          have fw677 := fw677.only ow701 (fun k h1 h2 => by omega)
          have fw696_0 := fw696_0.only ow701 (fun k h1 h2 => by omega)
          have e := Ext.own e ow701 (fun k hk => by omega)
          have er := Ext.own er ow701 (fun k hk => by omega)
          have hbw689 := hbw689q
          refine ⟨?_, ?_⟩
          ·
           refine put_step hbw683 rfl rfl (fun w702 ow702 hbw683q nw702 => ?_)
           have hbw1 := hbw1.only ow702 (by omega)
           have hbw2 := hbw2.only ow702 (by omega)
           have hbw10 := hbw10.only ow702 (by omega)
           have hc1w10 := hc1w10.only ow702 (by omega)
           have hbw15 := hbw15.only ow702 (by omega)
           have hbw689 := hbw689.only ow702 (by omega)
           have fw10 := fw10.only ow702 (fun k h1 h2 => by omega)
           have fw13 := fw13.only ow702 (fun k h1 h2 => by omega)
           have fw677 := fw677.only ow702 (fun k h1 h2 => by omega)
           have fw696_0 := fw696_0.only ow702 (fun k h1 h2 => by omega)
           have e := Ext.own e ow702 (fun k hk => by omega)
           have er := Ext.own er ow702 (fun k hk => by omega)
           have hbw683 := hbw683q
           have hbl := hbw689.lt
           have hcl1 := hbw683.lt
           exact ⟨_, _, _, _, _, rfl, rfl, by omega, by omega, by omega, by omega, hbl, by omega, hcl1, by omega, by omega, hbw683, hbw689, fw696_0, er⟩
          ·
           trivial
         ·
          trivial
        ·
         trivial
       ·
        trivial
     ·
      trivial
  ·
   refine ⟨?_, ?_⟩
   ·
    refine alloc_step (fun w614 ew614 hbw614 nw614 => ?_)
    have hbw1 := hbw1.ext ew614
    have hbw2 := hbw2.ext ew614
    have hbw10 := hbw10.ext ew614
    have hc1w10 := hc1w10.ext ew614
    have hbw15 := hbw15.ext ew614
    have fw10 := fw10.ext ew614
    have fw13 := fw13.ext ew614
    have e := Only.trans e ew614
    have er := Only.trans er ew614
    have zw614 := ew614.size
    refine ⟨⟨_, hbw2.cell 0, _, hbw2.cell 1, _, hbw2.cell 2, _, hbw2.cell 3, rfl⟩, ?_⟩
    refine ⟨⟨ryw13_0, hbw15.cell 0, rfl⟩, ?_⟩
    refine ⟨?_, ?_⟩
    ·
     refine (c50 (DProcOp.has _) (IsD.ext e _ _ h1) (by have := pop_sz op; omega)).mono ?_
     rintro _ w642 ⟨yw642, rfl, fw642, ew642⟩
     have hbw1 := hbw1.ext ew642
     have hbw2 := hbw2.ext ew642
     have hbw10 := hbw10.ext ew642
     have hc1w10 := hc1w10.ext ew642
     have hbw15 := hbw15.ext ew642
     have hbw614 := hbw614.ext ew642
     have fw10 := fw10.ext ew642
     have fw13 := fw13.ext ew642
     have e := Only.trans e ew642
     have er := Only.trans er ew642
     have zw642 := ew642.size
     have hiyw642 := fw642.is
     obtain ⟨rfl, _, _, _, _⟩ := cells_ProcOp hiyw642
     refine ⟨_, _, _, _, rfl, ?_⟩
     refine ⟨⟨ryw13_0, hbw15.cell 0, rfl⟩, ?_⟩
     refine ⟨?_, ?_⟩
     ·
      refine (implProcStep fw13.is sz0 fw642.is).mono ?_
      rintro _ w663 ⟨yw663_0, rfl, fw663_0, ew663⟩
      have hbw1 := hbw1.ext ew663
      have hbw2 := hbw2.ext ew663
      have hbw10 := hbw10.ext ew663
      have hc1w10 := hc1w10.ext ew663
      have hbw15 := hbw15.ext ew663
      have hbw614 := hbw614.ext ew663
      have fw10 := fw10.ext ew663
      have fw13 := fw13.ext ew663
      have fw642 := fw642.ext ew663
      have e := Only.trans e ew663
      have er := Only.trans er ew663
      have zw663 := ew663.size
      have hiyw663_0 := fw663_0.is
      obtain ⟨ryw663_0_0, rfl, _⟩ := cells_Procs hiyw663_0
      refine ⟨ryw663_0_0, _, _, _, rfl, ?_⟩
      refine ⟨?_, ?_⟩
      ·
       refine alloc_step (fun w668 ew668 hbw668 nw668 => ?_)
       have hbw1 := hbw1.ext ew668
       have hbw2 := hbw2.ext ew668
       have hbw10 := hbw10.ext ew668
       have hc1w10 := hc1w10.ext ew668
       have hbw15 := hbw15.ext ew668
       have hbw614 := hbw614.ext ew668
       have fw10 := fw10.ext ew668
       have fw13 := fw13.ext ew668
       have fw642 := fw642.ext ew668
       have fw663_0 := fw663_0.ext ew668
       have e := Only.trans e ew668
       have er := Only.trans er ew668
       have zw668 := ew668.size
       refine ⟨⟨_, hbw2.cell 0, _, hbw2.cell 1, _, hbw2.cell 2, _, hbw2.cell 3, rfl⟩, ?_⟩
       refine ⟨⟨ryw13_0, hbw15.cell 0, rfl⟩, ?_⟩
       refine ⟨?_, ?_⟩
       ·
        refine set_step hbw614 (by simp) (fun w674 ow674 hbw614q nw674 => ?_)
        have hbw1 := hbw1.only ow674 (by omega)
        have hbw2 := hbw2.only ow674 (by omega)
        have hbw10 := hbw10.only ow674 (by omega)
        have hc1w10 := hc1w10.only ow674 (by omega)
        have hbw15 := hbw15.only ow674 (by omega)
        have hbw668 := hbw668.only ow674 (by omega)
        have fw10 := fw10.only ow674 (fun k h1 h2 => by omega)
        have fw13 := fw13.only ow674 (fun k h1 h2 => by omega)
        have fw642 := fw642.only ow674 (fun k h1 h2 => by omega)
        have fw663_0 := fw663_0.only ow674 (fun k h1 h2 => by omega)
        have e := Ext.own e ow674 (fun k hk => by omega)
        have er := Ext.own er ow674 (fun k hk => by omega)
        have hbw614 := hbw614q
        refine ⟨?_, ?_⟩
        ·
         refine put_step hbw668 rfl rfl (fun w675 ow675 hbw668q nw675 => ?_)
         have hbw1 := hbw1.only ow675 (by omega)
         have hbw2 := hbw2.only ow675 (by omega)
         have hbw10 := hbw10.only ow675 (by omega)
         have hc1w10 := hc1w10.only ow675 (by omega)
         have hbw15 := hbw15.only ow675 (by omega)
         have hbw614 := hbw614.only ow675 (by omega)
         have fw10 := fw10.only ow675 (fun k h1 h2 => by omega)
         have fw13 := fw13.only ow675 (fun k h1 h2 => by omega)
         have fw642 := fw642.only ow675 (fun k h1 h2 => by omega)
         have fw663_0 := fw663_0.only ow675 (fun k h1 h2 => by omega)
         have e := Ext.own e ow675 (fun k hk => by omega)
         have er := Ext.own er ow675 (fun k hk => by omega)
         have hbw668 := hbw668q
         have hbl := hbw614.lt
         have hcl1 := hbw668.lt
         exact ⟨_, _, _, _, _, rfl, rfl, by omega, by omega, by omega, by omega, hbl, by omega, hcl1, by omega, by omega, hbw668, hbw614, fw663_0, er⟩
        ·
         trivial
       ·
        trivial
      ·
       trivial
     ·
      refine ⟨?_, ?_⟩
      ·
       refine alloc_step (fun w648 ew648 hbw648 nw648 => ?_)
       have hbw1 := hbw1.ext ew648
       have hbw2 := hbw2.ext ew648
       have hbw10 := hbw10.ext ew648
       have hc1w10 := hc1w10.ext ew648
       have hbw15 := hbw15.ext ew648
       have hbw614 := hbw614.ext ew648
       have fw10 := fw10.ext ew648
       have fw13 := fw13.ext ew648
       have fw642 := fw642.ext ew648
       have e := Only.trans e ew648
       have er := Only.trans er ew648
       have zw648 := ew648.size
       refine ⟨⟨_, hbw2.cell 0, _, hbw2.cell 1, _, hbw2.cell 2, _, hbw2.cell 3, rfl⟩, ?_⟩
       refine ⟨⟨ryw13_0, hbw15.cell 0, rfl⟩, ?_⟩
       refine ⟨?_, ?_⟩
       ·
        refine (implProcStep fw13.is sz0 fw642.is).mono ?_
        rintro _ w655 ⟨yw655_0, rfl, fw655_0, ew655⟩
        have hbw1 := hbw1.ext ew655
        have hbw2 := hbw2.ext ew655
        have hbw10 := hbw10.ext ew655
        have hc1w10 := hc1w10.ext ew655
        have hbw15 := hbw15.ext ew655
        have hbw614 := hbw614.ext ew655
        have hbw648 := hbw648.ext ew655
        have fw10 := fw10.ext ew655
        have fw13 := fw13.ext ew655
        have fw642 := fw642.ext ew655
        have e := Only.trans e ew655
        have er := Only.trans er ew655
        have zw655 := ew655.size
        have hiyw655_0 := fw655_0.is
        obtain ⟨ryw655_0_0, rfl, _⟩ := cells_Procs hiyw655_0
        refine ⟨ryw655_0_0, _, _, _, rfl, ?_⟩
        refine ⟨?_, ?_⟩
        ·
         refine set_step hbw614 (by simp) (fun w660 ow660 hbw614q nw660 => ?_)
         have hbw1 := hbw1.only ow660 (by omega)
         have hbw2 := hbw2.only ow660 (by omega)
         have hbw10 := hbw10.only ow660 (by omega)
         have hc1w10 := hc1w10.only ow660 (by omega)
         have hbw15 := hbw15.only ow660 (by omega)
         have hbw648 := hbw648.only ow660 (by omega)
         have fw10 := fw10.only ow660 (fun k h1 h2 => by omega)
         have fw13 := fw13.only ow660 (fun k h1 h2 => by omega)
         have fw642 := fw642.only ow660 (fun k h1 h2 => by omega)
         have fw655_0 := fw655_0.only ow660 (fun k h1 h2 => by omega)
         have e := Ext.own e ow660 (fun k hk => by omega)
         have er := Ext.own er ow660 (fun k hk => by omega)
         have hbw614 := hbw614q
         refine ⟨?_, ?_⟩
         ·
          refine put_step hbw648 rfl rfl (fun w661 ow661 hbw648q nw661 => ?_)
          have hbw1 := hbw1.only ow661 (by omega)
          have hbw2 := hbw2.only ow661 (by omega)
          have hbw10 := hbw10.only ow661 (by omega)
          have hc1w10 := hc1w10.only ow661 (by omega)
          have hbw15 := hbw15.only ow661 (by omega)
          have hbw614 := hbw614.only ow661 (by omega)
          have fw10 := fw10.only ow661 (fun k h1 h2 => by omega)
          have fw13 := fw13.only ow661 (fun k h1 h2 => by omega)
          have fw642 := fw642.only ow661 (fun k h1 h2 => by omega)
          have fw655_0 := fw655_0.only ow661 (fun k h1 h2 => by omega)
          have e := Ext.own e ow661 (fun k hk => by omega)
          have er := Ext.own er ow661 (fun k hk => by omega)
          have hbw648 := hbw648q
          have hbl := hbw614.lt
          have hcl1 := hbw648.lt
          exact ⟨_, _, _, _, _, rfl, rfl, by omega, by omega, by omega, by omega, hbl, by omega, hcl1, by omega, by omega, hbw648, hbw614, fw655_0, er⟩
         ·
          trivial
        ·
         trivial
       ·
        trivial
      ·
       trivial
    ·
     refine ⟨?_, ?_⟩
     ·
      refine alloc_step (fun w620 ew620 hbw620 nw620 => ?_)
      have hbw1 := hbw1.ext ew620
      have hbw2 := hbw2.ext ew620
      have hbw10 := hbw10.ext ew620
      have hc1w10 := hc1w10.ext ew620
      have hbw15 := hbw15.ext ew620
      have hbw614 := hbw614.ext ew620
      have fw10 := fw10.ext ew620
      have fw13 := fw13.ext ew620
      have e := Only.trans e ew620
      have er := Only.trans er ew620
      have zw620 := ew620.size
      refine ⟨⟨_, hbw2.cell 0, _, hbw2.cell 1, _, hbw2.cell 2, _, hbw2.cell 3, rfl⟩, ?_⟩
      refine ⟨⟨ryw13_0, hbw15.cell 0, rfl⟩, ?_⟩
      refine ⟨?_, ?_⟩
      ·
       refine (c50 (DProcOp.has _) (IsD.ext e _ _ h1) (by have := pop_sz op; omega)).mono ?_
       rintro _ w627 ⟨yw627, rfl, fw627, ew627⟩
       have hbw1 := hbw1.ext ew627
       have hbw2 := hbw2.ext ew627
       have hbw10 := hbw10.ext ew627
       have hc1w10 := hc1w10.ext ew627
       have hbw15 := hbw15.ext ew627
       have hbw614 := hbw614.ext ew627
       have hbw620 := hbw620.ext ew627
       have fw10 := fw10.ext ew627
       have fw13 := fw13.ext ew627
       have e := Only.trans e ew627
       have er := Only.trans er ew627
       have zw627 := ew627.size
       have hiyw627 := fw627.is
       obtain ⟨rfl, _, _, _, _⟩ := cells_ProcOp hiyw627
       refine ⟨_, _, _, _, rfl, ?_⟩
       refine ⟨⟨ryw13_0, hbw15.cell 0, rfl⟩, ?_⟩
       refine ⟨?_, ?_⟩
       ·
        refine (implProcStep fw13.is sz0 fw627.is).mono ?_
        rintro _ w634 ⟨yw634_0, rfl, fw634_0, ew634⟩
        have hbw1 := hbw1.ext ew634
        have hbw2 := hbw2.ext ew634
        have hbw10 := hbw10.ext ew634
        have hc1w10 := hc1w10.ext ew634
        have hbw15 := hbw15.ext ew634
        have hbw614 := hbw614.ext ew634
        have hbw620 := hbw620.ext ew634
        have fw10 := fw10.ext ew634
        have fw13 := fw13.ext ew634
        have fw627 := fw627.ext ew634
        have e := Only.trans e ew634
        have er := Only.trans er ew634
        have zw634 := ew634.size
        have hiyw634_0 := fw634_0.is
        obtain ⟨ryw634_0_0, rfl, _⟩ := cells_Procs hiyw634_0
        refine ⟨ryw634_0_0, _, _, _, rfl, ?_⟩
        refine ⟨?_, ?_⟩
        ·
         refine set_step hbw614 (by simp) (fun w639 ow639 hbw614q nw639 => ?_)
         have hbw1 := hbw1.only ow639 (by omega)
         have hbw2 := hbw2.only ow639 (by omega)
         have hbw10 := hbw10.only ow639 (by omega)
         have hc1w10 := hc1w10.only ow639 (by omega)
         have hbw15 := hbw15.only ow639 (by omega)
         have hbw620 := hbw620.only ow639 (by omega)
         have fw10 := fw10.only ow639 (fun k h1 h2 => by omega)
         have fw13 := fw13.only ow639 (fun k h1 h2 => by omega)
         have fw627 := fw627.only ow639 (fun k h1 h2 => by omega)
         have fw634_0 := fw634_0.only ow639 (fun k h1 h2 => by omega)
         have e := Ext.own e ow639 (fun k hk => by omega)
         have er := Ext.own er ow639 (fun k hk => by omega)
         have hbw614 := hbw614q
         refine ⟨?_, ?_⟩
         ·
          refine put_step hbw620 rfl rfl (fun w640 ow640 hbw620q nw640 => ?_)
          have hbw1 := hbw1.only ow640 (by omega)
          have hbw2 := hbw2.only ow640 (by omega)
          have hbw10 := hbw10.only ow640 (by omega)
          have hc1w10 := hc1w10.only ow640 (by omega)
          have hbw15 := hbw15.only ow640 (by omega)
          have hbw614 := hbw614.only ow640 (by omega)
          have fw10 := fw10.only ow640 (fun k h1 h2 => by omega)
          have fw13 := fw13.only ow640 (fun k h1 h2 => by omega)
          have fw627 := fw627.only ow640 (fun k h1 h2 => by omega)
          have fw634_0 := fw634_0.only ow640 (fun k h1 h2 => by omega)
          have e := Ext.own e ow640 (fun k hk => by omega)
          have er := Ext.own er ow640 (fun k hk => by omega)
          have hbw620 := hbw620q
          have hbl := hbw614.lt
          have hcl1 := hbw620.lt
          exact ⟨_, _, _, _, _, rfl, rfl, by omega, by omega, by omega, by omega, hbl, by omega, hcl1, by omega, by omega, hbw620, hbw614, fw634_0, er⟩
         ·
          trivial
        ·
         trivial
       ·
        trivial
      ·
       trivial
     ·
      trivial
   ·
    refine ⟨?_, ?_⟩
    ·
     refine alloc_step (fun w552 ew552 hbw552 nw552 => ?_)
     have hbw1 := hbw1.ext ew552
     have hbw2 := hbw2.ext ew552
     have hbw10 := hbw10.ext ew552
     have hc1w10 := hc1w10.ext ew552
     have hbw15 := hbw15.ext ew552
     have fw10 := fw10.ext ew552
     have fw13 := fw13.ext ew552
     have e := Only.trans e ew552
     have er := Only.trans er ew552
     have zw552 := ew552.size
     refine ⟨⟨_, hbw2.cell 0, _, hbw2.cell 1, _, hbw2.cell 2, _, hbw2.cell 3, rfl⟩, ?_⟩
     refine ⟨⟨ryw13_0, hbw15.cell 0, rfl⟩, ?_⟩
     refine ⟨?_, ?_⟩
     ·
      refine (c50 (DProcOp.has _) (IsD.ext e _ _ h1) (by have := pop_sz op; omega)).mono ?_
      rintro _ w580 ⟨yw580, rfl, fw580, ew580⟩
      have hbw1 := hbw1.ext ew580
      have hbw2 := hbw2.ext ew580
      have hbw10 := hbw10.ext ew580
      have hc1w10 := hc1w10.ext ew580
      have hbw15 := hbw15.ext ew580
      have hbw552 := hbw552.ext ew580
      have fw10 := fw10.ext ew580
      have fw13 := fw13.ext ew580
      have e := Only.trans e ew580
      have er := Only.trans er ew580
      have zw580 := ew580.size
      have hiyw580 := fw580.is
      obtain ⟨rfl, _, _, _, _⟩ := cells_ProcOp hiyw580
      refine ⟨_, _, _, _, rfl, ?_⟩
      refine ⟨⟨ryw13_0, hbw15.cell 0, rfl⟩, ?_⟩
      refine ⟨?_, ?_⟩
      ·
       refine (implProcStep fw13.is sz0 fw580.is).mono ?_
       rintro _ w601 ⟨yw601_0, rfl, fw601_0, ew601⟩
       have hbw1 := hbw1.ext ew601
       have hbw2 := hbw2.ext ew601
       have hbw10 := hbw10.ext ew601
       have hc1w10 := hc1w10.ext ew601
       have hbw15 := hbw15.ext ew601
       have hbw552 := hbw552.ext ew601
       have fw10 := fw10.ext ew601
       have fw13 := fw13.ext ew601
       have fw580 := fw580.ext ew601
       have e := Only.trans e ew601
       have er := Only.trans er ew601
       have zw601 := ew601.size
       have hiyw601_0 := fw601_0.is
       obtain ⟨ryw601_0_0, rfl, _⟩ := cells_Procs hiyw601_0
       refine ⟨ryw601_0_0, _, _, _, rfl, ?_⟩
       refine ⟨?_, ?_⟩
       ·
        refine alloc_step (fun w606 ew606 hbw606 nw606 => ?_)
        have hbw1 := hbw1.ext ew606
        have hbw2 := hbw2.ext ew606
        have hbw10 := hbw10.ext ew606
        have hc1w10 := hc1w10.ext ew606
        have hbw15 := hbw15.ext ew606
        have hbw552 := hbw552.ext ew606
        have fw10 := fw10.ext ew606
        have fw13 := fw13.ext ew606
        have fw580 := fw580.ext ew606
        have fw601_0 := fw601_0.ext ew606
        have e := Only.trans e ew606
        have er := Only.trans er ew606
        have zw606 := ew606.size
        refine ⟨⟨_, hbw2.cell 0, _, hbw2.cell 1, _, hbw2.cell 2, _, hbw2.cell 3, rfl⟩, ?_⟩
        refine ⟨⟨ryw13_0, hbw15.cell 0, rfl⟩, ?_⟩
        refine ⟨?_, ?_⟩
        ·
         refine set_step hbw606 (by simp) (fun w612 ow612 hbw606q nw612 => ?_)
         have hbw1 := hbw1.only ow612 (by omega)
         have hbw2 := hbw2.only ow612 (by omega)
         have hbw10 := hbw10.only ow612 (by omega)
         have hc1w10 := hc1w10.only ow612 (by omega)
         have hbw15 := hbw15.only ow612 (by omega)
         have hbw552 := hbw552.only ow612 (by omega)
         have fw10 := fw10.only ow612 (fun k h1 h2 => by omega)
         have fw13 := fw13.only ow612 (fun k h1 h2 => by omega)
         have fw580 := fw580.only ow612 (fun k h1 h2 => by omega)
         have fw601_0 := fw601_0.only ow612 (fun k h1 h2 => by omega)
         have e := Ext.own e ow612 (fun k hk => by omega)
         have er := Ext.own er ow612 (fun k hk => by omega)
         have hbw606 := hbw606q
         refine ⟨?_, ?_⟩
         ·
          refine put_step hbw552 rfl rfl (fun w613 ow613 hbw552q nw613 => ?_)
          have hbw1 := hbw1.only ow613 (by omega)
          have hbw2 := hbw2.only ow613 (by omega)
          have hbw10 := hbw10.only ow613 (by omega)
          have hc1w10 := hc1w10.only ow613 (by omega)
          have hbw15 := hbw15.only ow613 (by omega)
          have hbw606 := hbw606.only ow613 (by omega)
          have fw10 := fw10.only ow613 (fun k h1 h2 => by omega)
          have fw13 := fw13.only ow613 (fun k h1 h2 => by omega)
          have fw580 := fw580.only ow613 (fun k h1 h2 => by omega)
          have fw601_0 := fw601_0.only ow613 (fun k h1 h2 => by omega)
          have e := Ext.own e ow613 (fun k hk => by omega)
          have er := Ext.own er ow613 (fun k hk => by omega)
          have hbw552 := hbw552q
          have hbl := hbw606.lt
          have hcl1 := hbw552.lt
          exact ⟨_, _, _, _, _, rfl, rfl, by omega, by omega, by omega, by omega, hbl, by omega, hcl1, by omega, by omega, hbw552, hbw606, fw601_0, er⟩
         ·
          trivial
        ·
         trivial
       ·
        trivial
      ·
       refine ⟨?_, ?_⟩
       ·
        refine alloc_step (fun w586 ew586 hbw586 nw586 => ?_)
        have hbw1 := hbw1.ext ew586
        have hbw2 := hbw2.ext ew586
        have hbw10 := hbw10.ext ew586
        have hc1w10 := hc1w10.ext ew586
        have hbw15 := hbw15.ext ew586
        have hbw552 := hbw552.ext ew586
        have fw10 := fw10.ext ew586
        have fw13 := fw13.ext ew586
        have fw580 := fw580.ext ew586
        have e := Only.trans e ew586
        have er := Only.trans er ew586
        have zw586 := ew586.size
        refine ⟨⟨_, hbw2.cell 0, _, hbw2.cell 1, _, hbw2.cell 2, _, hbw2.cell 3, rfl⟩, ?_⟩
        refine ⟨⟨ryw13_0, hbw15.cell 0, rfl⟩, ?_⟩
        refine ⟨?_, ?_⟩
        ·
         refine (implProcStep fw13.is sz0 fw580.is).mono ?_
         rintro _ w593 ⟨yw593_0, rfl, fw593_0, ew593⟩
         have hbw1 := hbw1.ext ew593
         have hbw2 := hbw2.ext ew593
         have hbw10 := hbw10.ext ew593
         have hc1w10 := hc1w10.ext ew593
         have hbw15 := hbw15.ext ew593
         have hbw552 := hbw552.ext ew593
         have hbw586 := hbw586.ext ew593
         have fw10 := fw10.ext ew593
         have fw13 := fw13.ext ew593
         have fw580 := fw580.ext ew593
         have e := Only.trans e ew593
         have er := Only.trans er ew593
         have zw593 := ew593.size
         have hiyw593_0 := fw593_0.is
         obtain ⟨ryw593_0_0, rfl, _⟩ := cells_Procs hiyw593_0
         refine ⟨ryw593_0_0, _, _, _, rfl, ?_⟩
         refine ⟨?_, ?_⟩
         ·
          refine set_step hbw586 (by simp) (fun w598 ow598 hbw586q nw598 => ?_)
          have hbw1 := hbw1.only ow598 (by omega)
          have hbw2 := hbw2.only ow598 (by omega)
          have hbw10 := hbw10.only ow598 (by omega)
          have hc1w10 := hc1w10.only ow598 (by omega)
          have hbw15 := hbw15.only ow598 (by omega)
          have hbw552 := hbw552.only ow598 (by omega)
          have fw10 := fw10.only ow598 (fun k h1 h2 => by omega)
          have fw13 := fw13.only ow598 (fun k h1 h2 => by omega)
          have fw580 := fw580.only ow598 (fun k h1 h2 => by omega)
          have fw593_0 := fw593_0.only ow598 (fun k h1 h2 => by omega)
          have e := Ext.own e ow598 (fun k hk => by omega)
          have er := Ext.own er ow598 (fun k hk => by omega)
          have hbw586 := hbw586q
          refine ⟨?_, ?_⟩
          ·
           refine put_step hbw552 rfl rfl (fun w599 ow599 hbw552q nw599 => ?_)
           have hbw1 := hbw1.only ow599 (by omega)
           have hbw2 := hbw2.only ow599 (by omega)
           have hbw10 := hbw10.only ow599 (by omega)
           have hc1w10 := hc1w10.only ow599 (by omega)
           have hbw15 := hbw15.only ow599 (by omega)
           have hbw586 := hbw586.only ow599 (by omega)
           have fw10 := fw10.only ow599 (fun k h1 h2 => by omega)
           have fw13 := fw13.only ow599 (fun k h1 h2 => by omega)
           have fw580 := fw580.only ow599 (fun k h1 h2 => by omega)
           have fw593_0 := fw593_0.only ow599 (fun k h1 h2 => by omega)
           have e := Ext.own e ow599 (fun k hk => by omega)
           have er := Ext.own er ow599 (fun k hk => by omega)
           have hbw552 := hbw552q
           have hbl := hbw586.lt
           have hcl1 := hbw552.lt
           exact ⟨_, _, _, _, _, rfl, rfl, by omega, by omega, by omega, by omega, hbl, by omega, hcl1, by omega, by omega, hbw552, hbw586, fw593_0, er⟩
          ·
           trivial
         ·
          trivial
        ·
         trivial
       ·
        trivial
     ·
      refine ⟨?_, ?_⟩
      ·
       refine alloc_step (fun w558 ew558 hbw558 nw558 => ?_)
       have hbw1 := hbw1.ext ew558
       have hbw2 := hbw2.ext ew558
       have hbw10 := hbw10.ext ew558
       have hc1w10 := hc1w10.ext ew558
       have hbw15 := hbw15.ext ew558
       have hbw552 := hbw552.ext ew558
       have fw10 := fw10.ext ew558
       have fw13 := fw13.ext ew558
       have e := Only.trans e ew558
       have er := Only.trans er ew558
       have zw558 := ew558.size
       refine ⟨⟨_, hbw2.cell 0, _, hbw2.cell 1, _, hbw2.cell 2, _, hbw2.cell 3, rfl⟩, ?_⟩
       refine ⟨⟨ryw13_0, hbw15.cell 0, rfl⟩, ?_⟩
       refine ⟨?_, ?_⟩
       ·
        refine (c50 (DProcOp.has _) (IsD.ext e _ _ h1) (by have := pop_sz op; omega)).mono ?_
        rintro _ w565 ⟨yw565, rfl, fw565, ew565⟩
        have hbw1 := hbw1.ext ew565
        have hbw2 := hbw2.ext ew565
        have hbw10 := hbw10.ext ew565
        have hc1w10 := hc1w10.ext ew565
        have hbw15 := hbw15.ext ew565
        have hbw552 := hbw552.ext ew565
        have hbw558 := hbw558.ext ew565
        have fw10 := fw10.ext ew565
        have fw13 := fw13.ext ew565
        have e := Only.trans e ew565
        have er := Only.trans er ew565
        have zw565 := ew565.size
        have hiyw565 := fw565.is
        obtain ⟨rfl, _, _, _, _⟩ := cells_ProcOp hiyw565
        refine ⟨_, _, _, _, rfl, ?_⟩
        refine ⟨⟨ryw13_0, hbw15.cell 0, rfl⟩, ?_⟩
        refine ⟨?_, ?_⟩
        ·
         refine (implProcStep fw13.is sz0 fw565.is).mono ?_
         rintro _ w572 ⟨yw572_0, rfl, fw572_0, ew572⟩
         have hbw1 := hbw1.ext ew572
         have hbw2 := hbw2.ext ew572
         have hbw10 := hbw10.ext ew572
         have hc1w10 := hc1w10.ext ew572
         have hbw15 := hbw15.ext ew572
         have hbw552 := hbw552.ext ew572
         have hbw558 := hbw558.ext ew572
         have fw10 := fw10.ext ew572
         have fw13 := fw13.ext ew572
         have fw565 := fw565.ext ew572
         have e := Only.trans e ew572
         have er := Only.trans er ew572
         have zw572 := ew572.size
         have hiyw572_0 := fw572_0.is
         obtain ⟨ryw572_0_0, rfl, _⟩ := cells_Procs hiyw572_0
         refine ⟨ryw572_0_0, _, _, _, rfl, ?_⟩
         refine ⟨?_, ?_⟩
         ·
          refine set_step hbw558 (by simp) (fun w577 ow577 hbw558q nw577 => ?_)
          have hbw1 := hbw1.only ow577 (by omega)
          have hbw2 := hbw2.only ow577 (by omega)
          have hbw10 := hbw10.only ow577 (by omega)
          have hc1w10 := hc1w10.only ow577 (by omega)
          have hbw15 := hbw15.only ow577 (by omega)
          have hbw552 := hbw552.only ow577 (by omega)
          have fw10 := fw10.only ow577 (fun k h1 h2 => by omega)
          have fw13 := fw13.only ow577 (fun k h1 h2 => by omega)
          have fw565 := fw565.only ow577 (fun k h1 h2 => by omega)
          have fw572_0 := fw572_0.only ow577 (fun k h1 h2 => by omega)
          have e := Ext.own e ow577 (fun k hk => by omega)
          have er := Ext.own er ow577 (fun k hk => by omega)
          have hbw558 := hbw558q
          refine ⟨?_, ?_⟩
          ·
           refine put_step hbw552 rfl rfl (fun w578 ow578 hbw552q nw578 => ?_)
           have hbw1 := hbw1.only ow578 (by omega)
           have hbw2 := hbw2.only ow578 (by omega)
           have hbw10 := hbw10.only ow578 (by omega)
           have hc1w10 := hc1w10.only ow578 (by omega)
           have hbw15 := hbw15.only ow578 (by omega)
           have hbw558 := hbw558.only ow578 (by omega)
           have fw10 := fw10.only ow578 (fun k h1 h2 => by omega)
           have fw13 := fw13.only ow578 (fun k h1 h2 => by omega)
           have fw565 := fw565.only ow578 (fun k h1 h2 => by omega)
           have fw572_0 := fw572_0.only ow578 (fun k h1 h2 => by omega)
           have e := Ext.own e ow578 (fun k hk => by omega)
           have er := Ext.own er ow578 (fun k hk => by omega)
           have hbw552 := hbw552q
           have hbl := hbw558.lt
           have hcl1 := hbw552.lt
           exact ⟨_, _, _, _, _, rfl, rfl, by omega, by omega, by omega, by omega, hbl, by omega, hcl1, by omega, by omega, hbw552, hbw558, fw572_0, er⟩
          ·
           trivial
         ·
          trivial
        ·
         trivial
       ·
        trivial
      ·
       trivial
    ·
     trivial
 rintro (p17 : Option Addr) (p18 : Option Addr) w20 ⟨bw20, low20, hiw20, yw20, c1w20, rfl, rfl, hxw20, hlow20, hhiw20, hdsw20, hblw20, hcx1w20, hcl1w20, hcb1w20, hcd1w20, hc1w20, hbw20, fw20, erw20⟩
 have hbw1 := hbw1.ext erw20
 have hbw2 := hbw2.ext erw20
 have hbw10 := hbw10.ext erw20
 have hc1w10 := hc1w10.ext erw20
 have hbw15 := hbw15.ext erw20
 have fw10 := fw10.ext erw20
 have fw13 := fw13.ext erw20
 have e := Only.trans e erw20
 have zw20 := erw20.size
 have hiyw20 := fw20.is
 obtain ⟨ryw20_0, rfl, _⟩ := cells_Procs hiyw20
 refine addrOf_mk ?_
 refine ⟨ryw20_0, hbw20.cell 0, ?_⟩
 refine addrOf_mk ?_
 refine ⟨ryw10_0, hbw10.cell 0, ?_⟩
 refine (c52 (DProcs.has _) fw20.is fw10.is).mono ?_
 rintro _ w26 ⟨rfl, ew26⟩
 have hbw1 := hbw1.ext ew26
 have hbw2 := hbw2.ext ew26
 have hbw10 := hbw10.ext ew26
 have hc1w10 := hc1w10.ext ew26
 have hbw15 := hbw15.ext ew26
 have hbw20 := hbw20.ext ew26
 have hc1w20 := hc1w20.ext ew26
 have fw10 := fw10.ext ew26
 have fw13 := fw13.ext ew26
 have fw20 := fw20.ext ew26
 have e := Only.trans e ew26
 have zw26 := ew26.size
 refine ⟨_, rfl, ?_⟩
 refine JoinW.each ?_
 refine BIf.f rfl ?_
 refine addrOf_mk ?_
 refine ⟨_, hc1w20.cell 0, ?_⟩
 refine ⟨_, hc1w20.cell 1, ?_⟩
 refine ⟨_, hc1w20.cell 2, ?_⟩
 refine addrOf_mk ?_
 refine ⟨_, hc1w10.cell 0, ?_⟩
 refine ⟨_, hc1w10.cell 1, ?_⟩
 refine ⟨_, hc1w10.cell 2, ?_⟩
 refine (c53 (DProcRes.has _) ((pstepA_is x op) _) ((pstepA_is x op) _)).mono ?_
 rintro _ w545 ⟨rfl, ew545⟩
 have hbw1 := hbw1.ext ew545
 have hbw2 := hbw2.ext ew545
 have hbw10 := hbw10.ext ew545
 have hc1w10 := hc1w10.ext ew545
 have hbw15 := hbw15.ext ew545
 have hbw20 := hbw20.ext ew545
 have hc1w20 := hc1w20.ext ew545
 have fw10 := fw10.ext ew545
 have fw13 := fw13.ext ew545
 have fw20 := fw20.ext ew545
 have e := Only.trans e ew545
 have zw545 := ew545.size
 refine ⟨_, rfl, ?_⟩
 refine BIf.f (by first | (simp; done) | (simp; omega)) ?_
 have ed := ext_drew w545
 have hbw1 := hbw1.ext ed
 have hbw2 := hbw2.ext ed
 have hbw10 := hbw10.ext ed
 have hc1w10 := hc1w10.ext ed
 have hbw15 := hbw15.ext ed
 have hbw20 := hbw20.ext ed
 have hc1w20 := hc1w20.ext ed
 have fw10 := fw10.ext ed
 have fw13 := fw13.ext ed
 have fw20 := fw20.ext ed
 have e := Only.trans e ed
 have zw545_drew := ed.size
 refine ⟨ryw13_0, hbw15.cell 0, ?_⟩
 refine ⟨p0_0, hbw1.cell 0, ?_⟩
 refine (c49 (DProcs.has _) (IsD.ext e _ _ h0) (by have := sz0; omega)).mono ?_
 rintro _ w34 ⟨yw34, rfl, fw34, ew34⟩
 have hbw1 := hbw1.ext ew34
 have hbw2 := hbw2.ext ew34
 have hbw10 := hbw10.ext ew34
 have hc1w10 := hc1w10.ext ew34
 have hbw15 := hbw15.ext ew34
 have hbw20 := hbw20.ext ew34
 have hc1w20 := hc1w20.ext ew34
 have fw10 := fw10.ext ew34
 have fw13 := fw13.ext ew34
 have fw20 := fw20.ext ew34
 have e := Only.trans e ew34
 have zw34 := ew34.size
 have hiyw34 := fw34.is
 obtain ⟨ryw34_0, rfl, _⟩ := cells_Procs hiyw34
 refine ⟨ryw34_0, rfl, ?_⟩
 refine ⟨⟨ryw13_0, hbw15.cell 0, rfl⟩, ?_⟩
 refine (c52 (DProcs.has _) fw13.is fw34.is).mono ?_
 rintro _ w38 ⟨rfl, ew38⟩
 have hbw1 := hbw1.ext ew38
 have hbw2 := hbw2.ext ew38
 have hbw10 := hbw10.ext ew38
 have hc1w10 := hc1w10.ext ew38
 have hbw15 := hbw15.ext ew38
 have hbw20 := hbw20.ext ew38
 have hc1w20 := hc1w20.ext ew38
 have fw10 := fw10.ext ew38
 have fw13 := fw13.ext ew38
 have fw20 := fw20.ext ew38
 have fw34 := fw34.ext ew38
 have e := Only.trans e ew38
 have zw38 := ew38.size
 refine ⟨_, rfl, ?_⟩
 refine BIf.f rfl ?_
 refine ⟨ryw13_0, hbw15.cell 0, ?_⟩
 obtain ⟨bsw42, oww42, ndw42, rgw42⟩ := fw13
 refine (c54 (DProcs.has _) oww42 ndw42 (by omega) (by have := sz0; have := procs_cnt sz0; (try simp only [Dat.cntT, Dat.cntTs] at *); omega)).mono ?_
 rintro _ w42 ⟨rfl, dw42, cnw42, hsw42, mkw42, oww42, ow42⟩
 have hbw1 := hbw1.only ow42 (fun hk => by have := rgw42 _ hk; omega)
 have hbw2 := hbw2.only ow42 (fun hk => by have := rgw42 _ hk; omega)
 have hbw10 := hbw10.only ow42 (fun hk => by have := rgw42 _ hk; omega)
 have hc1w10 := hc1w10.only ow42 (fun hk => by have := rgw42 _ hk; omega)
 have hbw15 := hbw15.only ow42 (fun hk => by have := rgw42 _ hk; omega)
 have hbw20 := hbw20.only ow42 (fun hk => by have := rgw42 _ hk; omega)
 have hc1w20 := hc1w20.only ow42 (fun hk => by have := rgw42 _ hk; omega)
 have fw10 := fw10.only ow42 (fun k h1 h2 hk => by have := rgw42 k hk; omega)
 have fw20 := fw20.only ow42 (fun k h1 h2 hk => by have := rgw42 k hk; omega)
 have fw34 := fw34.only ow42 (fun k h1 h2 hk => by have := rgw42 k hk; omega)
 have e := Ext.own e ow42 (fun k hk => by have := rgw42 k hk; omega)
 have zw42 := ow42.size
 have fw42 : Fr _ _ w42 dw42 _ := ⟨bsw42, oww42, ndw42, rgw42⟩
 refine ⟨_, rfl, ?_⟩
 refine JoinW.each ?_
 refine BIf.f (decide_eq_false (by omega)) ?_
 refine addrOf_mk ?_
 refine ⟨ryw20_0, hbw20.cell 0, ?_⟩
 refine addrOf_mk ?_
 refine ⟨ryw10_0, hbw10.cell 0, ?_⟩
 refine (c52 (DProcs.has _) fw20.is fw10.is).mono ?_
 rintro _ w534 ⟨rfl, ew534⟩
 have hbw1 := hbw1.ext ew534
 have hbw2 := hbw2.ext ew534
 have hbw10 := hbw10.ext ew534
 have hc1w10 := hc1w10.ext ew534
 have hbw15 := hbw15.ext ew534
 have hbw20 := hbw20.ext ew534
 have hc1w20 := hc1w20.ext ew534
 have fw10 := fw10.ext ew534
 have fw20 := fw20.ext ew534
 have fw34 := fw34.ext ew534
 have fw42 := fw42.ext ew534
 have e := Only.trans e ew534
 have zw534 := ew534.size
 refine ⟨_, rfl, ?_⟩
 refine JoinW.each ?_
 refine BIf.f (by first | (simp; done) | (simp; omega)) ?_
 refine addrOf_mk ?_
 refine ⟨_, hc1w20.cell 0, ?_⟩
 refine ⟨_, hc1w20.cell 1, ?_⟩
 refine ⟨_, hc1w20.cell 2, ?_⟩
 refine addrOf_mk ?_
 refine ⟨_, hc1w10.cell 0, ?_⟩
 refine ⟨_, hc1w10.cell 1, ?_⟩
 refine ⟨_, hc1w10.cell 2, ?_⟩
 refine (c53 (DProcRes.has _) ((pstepA_is x op) _) ((pstepA_is x op) _)).mono ?_
 rintro _ w527 ⟨rfl, ew527⟩
 have hbw1 := hbw1.ext ew527
 have hbw2 := hbw2.ext ew527
 have hbw10 := hbw10.ext ew527
 have hc1w10 := hc1w10.ext ew527
 have hbw15 := hbw15.ext ew527
 have hbw20 := hbw20.ext ew527
 have hc1w20 := hc1w20.ext ew527
 have fw10 := fw10.ext ew527
 have fw20 := fw20.ext ew527
 have fw34 := fw34.ext ew527
 have fw42 := fw42.ext ew527
 have e := Only.trans e ew527
 have zw527 := ew527.size
 refine ⟨_, rfl, ?_⟩
 refine BIf.f (by first | (simp; done) | (simp; omega)) ?_
 refine addrOf_mk ?_
 refine ⟨ryw20_0, hbw20.cell 0, ?_⟩
 obtain ⟨bsw53, oww53, ndw53, rgw53⟩ := fw20
 refine (c54 (DProcs.has _) oww53 ndw53 (by omega) (by have := pstepD_cnt x op; omega)).mono ?_
 rintro _ w53 ⟨rfl, dw53, cnw53, hsw53, mkw53, oww53, ow53⟩
 have hbw1 := hbw1.only ow53 (fun hk => by have := rgw53 _ hk; omega)
 have hbw2 := hbw2.only ow53 (fun hk => by have := rgw53 _ hk; omega)
 have hbw10 := hbw10.only ow53 (fun hk => by have := rgw53 _ hk; omega)
 have hc1w10 := hc1w10.only ow53 (fun hk => by have := rgw53 _ hk; omega)
 have hbw15 := hbw15.only ow53 (fun hk => by have := rgw53 _ hk; omega)
 have hbw20 := hbw20.only ow53 (fun hk => by have := rgw53 _ hk; omega)
 have hc1w20 := hc1w20.only ow53 (fun hk => by have := rgw53 _ hk; omega)
 have fw10 := fw10.only ow53 (fun k h1 h2 hk => by have := rgw53 k hk; omega)
 have fw34 := fw34.only ow53 (fun k h1 h2 hk => by have := rgw53 k hk; omega)
 have fw42 := fw42.only ow53 (fun k h1 h2 hk => by have := rgw53 k hk; omega)
 have e := Ext.own e ow53 (fun k hk => by have := rgw53 k hk; omega)
 have zw53 := ow53.size
 have fw53 : Fr _ _ w53 dw53 _ := ⟨bsw53, oww53, ndw53, rgw53⟩
 refine ⟨_, rfl, ?_⟩
 refine addrOf_mk ?_
 refine ⟨ryw20_0, hbw20.cell 0, ?_⟩
 refine (c55 hsw53 fw53.is mkw53 (by omega) (by have := cnw53; have := pstepD_cnt x op; omega)).mono ?_
 rintro _ w58 ⟨rfl, ew58⟩
 have hbw1 := hbw1.ext ew58
 have hbw2 := hbw2.ext ew58
 have hbw10 := hbw10.ext ew58
 have hc1w10 := hc1w10.ext ew58
 have hbw15 := hbw15.ext ew58
 have hbw20 := hbw20.ext ew58
 have hc1w20 := hc1w20.ext ew58
 have fw10 := fw10.ext ew58
 have fw34 := fw34.ext ew58
 have fw42 := fw42.ext ew58
 have fw53 := fw53.ext ew58
 have e := Only.trans e ew58
 have zw58 := ew58.size
 refine ⟨_, rfl, ?_⟩
 refine BIf.f (decide_eq_false (by omega)) ?_
 refine BIf.f (by first | (simp; done) | (simp; omega)) ?_
 refine JoinW.cut2 (fun (p60 : Option Addr) (p61 : Option Addr) w' => ∃ (b lo hi : Nat) (y : List Value) (c1 : Nat), p60 = some ⟨b, 0, none⟩ ∧ p61 = some ⟨c1, 0, none⟩ ∧ w58.heap.size ≤ b ∧ w58.heap.size ≤ lo ∧ hi ≤ w'.heap.size ∧ (b < lo ∨ hi ≤ b) ∧ b < w'.heap.size ∧ w58.heap.size ≤ c1 ∧ c1 < w'.heap.size ∧ b ≠ c1 ∧ (c1 < lo ∨ hi ≤ c1) ∧ Blk w' c1 [.int .i64 (pstepA x op).Code, .int .i64 (pstepA x op).N, .int .i64 (pstepA x op).Status] ∧ Blk w' b y ∧ Fr lo hi w' (pstepD x op).dat y ∧ Ext w58 w') ?_ ?_
 ·
  have er : Ext w58 w58 := Only.refl _ _
  have zr0 : w58.heap.size ≤ w58.heap.size := Nat.le_refl _
  have ed := ext_drew w58
  have hbw1 := hbw1.ext ed
  have hbw2 := hbw2.ext ed
  have hbw10 := hbw10.ext ed
  have hc1w10 := hc1w10.ext ed
  have hbw15 := hbw15.ext ed
  have hbw20 := hbw20.ext ed
  have hc1w20 := hc1w20.ext ed
  have fw10 := fw10.ext ed
  have fw34 := fw34.ext ed
  have fw42 := fw42.ext ed
  have fw53 := fw53.ext ed
  have e := Only.trans e ed
  have er := Only.trans er ed
  have zw58_drew := ed.size
  refine ⟨p0_0, hbw1.cell 0, ?_⟩
  refine ⟨_, hbw2.cell 0, ?_⟩
  refine ⟨_, hbw2.cell 1, ?_⟩
  refine ⟨_, hbw2.cell 2, ?_⟩
  refine ⟨_, hbw2.cell 3, ?_⟩
  refine ⟨?_, ?_⟩
  ·
   refine (c49 (DProcs.has _) (IsD.ext e _ _ h0) (by have := sz0; omega)).mono ?_
   rintro _ w284 ⟨yw284, rfl, fw284, ew284⟩
   have hbw1 := hbw1.ext ew284
   have hbw2 := hbw2.ext ew284
   have hbw10 := hbw10.ext ew284
   have hc1w10 := hc1w10.ext ew284
   have hbw15 := hbw15.ext ew284
   have hbw20 := hbw20.ext ew284
   have hc1w20 := hc1w20.ext ew284
   have fw10 := fw10.ext ew284
   have fw34 := fw34.ext ew284
   have fw42 := fw42.ext ew284
   have fw53 := fw53.ext ew284
   have e := Only.trans e ew284
   have er := Only.trans er ew284
   have zw284 := ew284.size
   have hiyw284 := fw284.is
   obtain ⟨ryw284_0, rfl, _⟩ := cells_Procs hiyw284
   refine ⟨ryw284_0, rfl, ?_⟩
   refine ⟨⟨_, hbw2.cell 0, _, hbw2.cell 1, _, hbw2.cell 2, _, hbw2.cell 3, rfl⟩, ?_⟩
   refine ⟨?_, ?_⟩
   ·
    refine (c50 (DProcOp.has _) (IsD.ext e _ _ h1) (by have := pop_sz op; omega)).mono ?_
    rintro _ w411 ⟨yw411, rfl, fw411, ew411⟩
    have hbw1 := hbw1.ext ew411
    have hbw2 := hbw2.ext ew411
    have hbw10 := hbw10.ext ew411
    have hc1w10 := hc1w10.ext ew411
    have hbw15 := hbw15.ext ew411
    have hbw20 := hbw20.ext ew411
    have hc1w20 := hc1w20.ext ew411
    have fw10 := fw10.ext ew411
    have fw34 := fw34.ext ew411
    have fw42 := fw42.ext ew411
    have fw53 := fw53.ext ew411
    have fw284 := fw284.ext ew411
    have e := Only.trans e ew411
    have er := Only.trans er ew411
    have zw411 := ew411.size
    have hiyw411 := fw411.is
    obtain ⟨rfl, _, _, _, _⟩ := cells_ProcOp hiyw411
    refine ⟨_, _, _, _, rfl, ?_⟩
    refine ⟨?_, ?_⟩
    ·
     refine (implProcStep fw284.is sz0 fw411.is).mono ?_
     rintro _ w485 ⟨yw485_0, rfl, fw485_0, ew485⟩
     have hbw1 := hbw1.ext ew485
     have hbw2 := hbw2.ext ew485
     have hbw10 := hbw10.ext ew485
     have hc1w10 := hc1w10.ext ew485
     have hbw15 := hbw15.ext ew485
     have hbw20 := hbw20.ext ew485
     have hc1w20 := hc1w20.ext ew485
     have fw10 := fw10.ext ew485
     have fw34 := fw34.ext ew485
     have fw42 := fw42.ext ew485
     have fw53 := fw53.ext ew485
     have fw284 := fw284.ext ew485
     have fw411 := fw411.ext ew485
     have e := Only.trans e ew485
     have er := Only.trans er ew485
     have zw485 := ew485.size
     have hiyw485_0 := fw485_0.is
     obtain ⟨ryw485_0_0, rfl, _⟩ := cells_Procs hiyw485_0
     refine ⟨ryw485_0_0, _, _, _, rfl, ?_⟩
     refine ⟨?_, ?_⟩
     ·
      refine alloc_step (fun w504 ew504 hbw504 nw504 => ?_)
      have hbw1 := hbw1.ext ew504
      have hbw2 := hbw2.ext ew504
      have hbw10 := hbw10.ext ew504
      have hc1w10 := hc1w10.ext ew504
      have hbw15 := hbw15.ext ew504
      have hbw20 := hbw20.ext ew504
      have hc1w20 := hc1w20.ext ew504
      have fw10 := fw10.ext ew504
      have fw34 := fw34.ext ew504
      have fw42 := fw42.ext ew504
      have fw53 := fw53.ext ew504
      have fw284 := fw284.ext ew504
      have fw411 := fw411.ext ew504
      have fw485_0 := fw485_0.ext ew504
      have e := Only.trans e ew504
      have er := Only.trans er ew504
      have zw504 := ew504.size
      refine ⟨⟨_, hbw2.cell 0, _, hbw2.cell 1, _, hbw2.cell 2, _, hbw2.cell 3, rfl⟩, ?_⟩
      refine ⟨⟨p0_0, hbw1.cell 0, rfl⟩, ?_⟩
      refine ⟨?_, ?_⟩
      ·
       refine alloc_step (fun w510 ew510 hbw510 nw510 => ?_)
       have hbw1 := hbw1.ext ew510
       have hbw2 := hbw2.ext ew510
       have hbw10 := hbw10.ext ew510
       have hc1w10 := hc1w10.ext ew510
       have hbw15 := hbw15.ext ew510
       have hbw20 := hbw20.ext ew510
       have hc1w20 := hc1w20.ext ew510
       have hbw504 := hbw504.ext ew510
       have fw10 := fw10.ext ew510
       have fw34 := fw34.ext ew510
       have fw42 := fw42.ext ew510
       have fw53 := fw53.ext ew510
       have fw284 := fw284.ext ew510
       have fw411 := fw411.ext ew510
       have fw485_0 := fw485_0.ext ew510
       have e := Only.trans e ew510
       have er := Only.trans er ew510
       have zw510 := ew510.size
       refine ⟨⟨_, hbw2.cell 0, _, hbw2.cell 1, _, hbw2.cell 2, _, hbw2.cell 3, rfl⟩, ?_⟩
       refine ⟨⟨p0_0, hbw1.cell 0, rfl⟩, ?_⟩
       refine ⟨?_, ?_⟩
       ·
        refine set_step hbw504 (by simp) (fun w516 ow516 hbw504q nw516 => ?_)
        have hbw1 := hbw1.only ow516 (by omega)
        have hbw2 := hbw2.only ow516 (by omega)
        have hbw10 := hbw10.only ow516 (by omega)
        have hc1w10 := hc1w10.only ow516 (by omega)
        have hbw15 := hbw15.only ow516 (by omega)
        have hbw20 := hbw20.only ow516 (by omega)
        have hc1w20 := hc1w20.only ow516 (by omega)
        have hbw510 := hbw510.only ow516 (by omega)
        have fw10 := fw10.only ow516 (fun k h1 h2 => by omega)
        have fw34 := fw34.only ow516 (fun k h1 h2 => by omega)
        have fw42 := fw42.only ow516 (fun k h1 h2 => by omega)
        have fw53 := fw53.only ow516 (fun k h1 h2 => by omega)
        have fw284 := fw284.only ow516 (fun k h1 h2 => by omega)
        have fw411 := fw411.only ow516 (fun k h1 h2 => by omega)
        have fw485_0 := fw485_0.only ow516 (fun k h1 h2 => by omega)
        have e := Ext.own e ow516 (fun k hk => by omega)
        have er := Ext.own er ow516 (fun k hk => by omega)
        have hbw504 := hbw504q
        refine ⟨?_, ?_⟩
        ·
         refine put_step hbw510 rfl rfl (fun w517 ow517 hbw510q nw517 => ?_)
         have hbw1 := hbw1.only ow517 (by omega)
         have hbw2 := hbw2.only ow517 (by omega)
         have hbw10 := hbw10.only ow517 (by omega)
         have hc1w10 := hc1w10.only ow517 (by omega)
         have hbw15 := hbw15.only ow517 (by omega)
         have hbw20 := hbw20.only ow517 (by omega)
         have hc1w20 := hc1w20.only ow517 (by omega)
         have hbw504 := hbw504.only ow517 (by omega)
         have fw10 := fw10.only ow517 (fun k h1 h2 => by omega)
         have fw34 := fw34.only ow517 (fun k h1 h2 => by omega)
         have fw42 := fw42.only ow517 (fun k h1 h2 => by omega)
         have fw53 := fw53.only ow517 (fun k h1 h2 => by omega)
         have fw284 := fw284.only ow517 (fun k h1 h2 => by omega)
         have fw411 := fw411.only ow517 (fun k h1 h2 => by omega)
         have fw485_0 := fw485_0.only ow517 (fun k h1 h2 => by omega)
         have e := Ext.own e ow517 (fun k hk => by omega)
         have er := Ext.own er ow517 (fun k hk => by omega)
         have hbw510 := hbw510q
         have hbl := hbw504.lt
         have hcl1 := hbw510.lt
         exact ⟨_, _, _, _, _, rfl, rfl, by omega, by omega, by omega, by omega, hbl, by omega, hcl1, by omega, by omega, hbw510, hbw504, fw485_0, er⟩
        ·
         trivial
       ·
        trivial
      ·
       trivial
     ·
      refine ⟨?_, ?_⟩
      ·
       refine alloc_step (fun w490 ew490 hbw490 nw490 => ?_)
       have hbw1 := hbw1.ext ew490
       have hbw2 := hbw2.ext ew490
       have hbw10 := hbw10.ext ew490
       have hc1w10 := hc1w10.ext ew490
       have hbw15 := hbw15.ext ew490
       have hbw20 := hbw20.ext ew490
       have hc1w20 := hc1w20.ext ew490
       have fw10 := fw10.ext ew490
       have fw34 := fw34.ext ew490
       have fw42 := fw42.ext ew490
       have fw53 := fw53.ext ew490
       have fw284 := fw284.ext ew490
       have fw411 := fw411.ext ew490
       have fw485_0 := fw485_0.ext ew490
       have e := Only.trans e ew490
       have er := Only.trans er ew490
       have zw490 := ew490.size
       refine ⟨⟨_, hbw2.cell 0, _, hbw2.cell 1, _, hbw2.cell 2, _, hbw2.cell 3, rfl⟩, ?_⟩
       refine ⟨⟨p0_0, hbw1.cell 0, rfl⟩, ?_⟩
       refine ⟨?_, ?_⟩
       ·
        refine alloc_step (fun w496 ew496 hbw496 nw496 => ?_)
        have hbw1 := hbw1.ext ew496
        have hbw2 := hbw2.ext ew496
        have hbw10 := hbw10.ext ew496
        have hc1w10 := hc1w10.ext ew496
        have hbw15 := hbw15.ext ew496
        have hbw20 := hbw20.ext ew496
        have hc1w20 := hc1w20.ext ew496
        have hbw490 := hbw490.ext ew496
        have fw10 := fw10.ext ew496
        have fw34 := fw34.ext ew496
        have fw42 := fw42.ext ew496
        have fw53 := fw53.ext ew496
        have fw284 := fw284.ext ew496
        have fw411 := fw411.ext ew496
        have fw485_0 := fw485_0.ext ew496
        have e := Only.trans e ew496
        have er := Only.trans er ew496
        have zw496 := ew496.size
        refine ⟨⟨_, hbw2.cell 0, _, hbw2.cell 1, _, hbw2.cell 2, _, hbw2.cell 3, rfl⟩, ?_⟩
        refine ⟨⟨p0_0, hbw1.cell 0, rfl⟩, ?_⟩
        refine ⟨?_, ?_⟩
        ·
         refine set_step hbw496 (by simp) (fun w502 ow502 hbw496q nw502 => ?_)
         have hbw1 := hbw1.only ow502 (by omega)
         have hbw2 := hbw2.only ow502 (by omega)
         have hbw10 := hbw10.only ow502 (by omega)
         have hc1w10 := hc1w10.only ow502 (by omega)
         have hbw15 := hbw15.only ow502 (by omega)
         have hbw20 := hbw20.only ow502 (by omega)
         have hc1w20 := hc1w20.only ow502 (by omega)
         have hbw490 := hbw490.only ow502 (by omega)
         have fw10 := fw10.only ow502 (fun k h1 h2 => by omega)
         have fw34 := fw34.only ow502 (fun k h1 h2 => by omega)
         have fw42 := fw42.only ow502 (fun k h1 h2 => by omega)
         have fw53 := fw53.only ow502 (fun k h1 h2 => by omega)
         have fw284 := fw284.only ow502 (fun k h1 h2 => by omega)
         have fw411 := fw411.only ow502 (fun k h1 h2 => by omega)
         have fw485_0 := fw485_0.only ow502 (fun k h1 h2 => by omega)
         have e := Ext.own e ow502 (fun k hk => by omega)
         have er := Ext.own er ow502 (fun k hk => by omega)
         have hbw496 := hbw496q
         refine ⟨?_, ?_⟩
         ·
          refine put_step hbw490 rfl rfl (fun w503 ow503 hbw490q nw503 => ?_)
          have hbw1 := hbw1.only ow503 (by omega)
          have hbw2 := hbw2.only ow503 (by omega)
          have hbw10 := hbw10.only ow503 (by omega)
          have hc1w10 := hc1w10.only ow503 (by omega)
          have hbw15 := hbw15.only ow503 (by omega)
          have hbw20 := hbw20.only ow503 (by omega)
          have hc1w20 := hc1w20.only ow503 (by omega)
          have hbw496 := hbw496.only ow503 (by omega)
          have fw10 := fw10.only ow503 (fun k h1 h2 => by omega)
          have fw34 := fw34.only ow503 (fun k h1 h2 => by omega)
          have fw42 := fw42.only ow503 (fun k h1 h2 => by omega)
          have fw53 := fw53.only ow503 (fun k h1 h2 => by omega)
          have fw284 := fw284.only ow503 (fun k h1 h2 => by omega)
          have fw411 := fw411.only ow503 (fun k h1 h2 => by omega)
          have fw485_0 := fw485_0.only ow503 (fun k h1 h2 => by omega)
          have e := Ext.own e ow503 (fun k hk => by omega)
          have er := Ext.own er ow503 (fun k hk => by omega)
          have hbw490 := hbw490q
          have hbl := hbw496.lt
          have hcl1 := hbw490.lt
          exact ⟨_, _, _, _, _, rfl, rfl, by omega, by omega, by omega, by omega, hbl, by omega, hcl1, by omega, by omega, hbw490, hbw496, fw485_0, er⟩
         ·
          trivial
        ·
         trivial
       ·
        trivial
      ·
       trivial
    ·
     refine ⟨?_, ?_⟩
     ·
      refine alloc_step (fun w450 ew450 hbw450 nw450 => ?_)
      have hbw1 := hbw1.ext ew450
      have hbw2 := hbw2.ext ew450
      have hbw10 := hbw10.ext ew450
      have hc1w10 := hc1w10.ext ew450
      have hbw15 := hbw15.ext ew450
      have hbw20 := hbw20.ext ew450
      have hc1w20 := hc1w20.ext ew450
      have fw10 := fw10.ext ew450
      have fw34 := fw34.ext ew450
      have fw42 := fw42.ext ew450
      have fw53 := fw53.ext ew450
      have fw284 := fw284.ext ew450
      have fw411 := fw411.ext ew450
      have e := Only.trans e ew450
      have er := Only.trans er ew450
      have zw450 := ew450.size
      refine ⟨⟨_, hbw2.cell 0, _, hbw2.cell 1, _, hbw2.cell 2, _, hbw2.cell 3, rfl⟩, ?_⟩
      refine ⟨⟨p0_0, hbw1.cell 0, rfl⟩, ?_⟩
      refine ⟨?_, ?_⟩
      ·
       refine (implProcStep fw284.is sz0 fw411.is).mono ?_
       rintro _ w471 ⟨yw471_0, rfl, fw471_0, ew471⟩
       have hbw1 := hbw1.ext ew471
       have hbw2 := hbw2.ext ew471
       have hbw10 := hbw10.ext ew471
       have hc1w10 := hc1w10.ext ew471
       have hbw15 := hbw15.ext ew471
       have hbw20 := hbw20.ext ew471
       have hc1w20 := hc1w20.ext ew471
       have hbw450 := hbw450.ext ew471
       have fw10 := fw10.ext ew471
       have fw34 := fw34.ext ew471
       have fw42 := fw42.ext ew471
       have fw53 := fw53.ext ew471
       have fw284 := fw284.ext ew471
       have fw411 := fw411.ext ew471
       have e := Only.trans e ew471
       have er := Only.trans er ew471
       have zw471 := ew471.size
       have hiyw471_0 := fw471_0.is
       obtain ⟨ryw471_0_0, rfl, _⟩ := cells_Procs hiyw471_0
       refine ⟨ryw471_0_0, _, _, _, rfl, ?_⟩
       refine ⟨?_, ?_⟩
       ·
        refine alloc_step (fun w476 ew476 hbw476 nw476 => ?_)
        have hbw1 := hbw1.ext ew476
        have hbw2 := hbw2.ext ew476
        have hbw10 := hbw10.ext ew476
        have hc1w10 := hc1w10.ext ew476
        have hbw15 := hbw15.ext ew476
        have hbw20 := hbw20.ext ew476
        have hc1w20 := hc1w20.ext ew476
        have hbw450 := hbw450.ext ew476
        have fw10 := fw10.ext ew476
        have fw34 := fw34.ext ew476
        have fw42 := fw42.ext ew476
        have fw53 := fw53.ext ew476
        have fw284 := fw284.ext ew476
        have fw411 := fw411.ext ew476
        have fw471_0 := fw471_0.ext ew476
        have e := Only.trans e ew476
        have er := Only.trans er ew476
        have zw476 := ew476.size
        refine ⟨⟨_, hbw2.cell 0, _, hbw2.cell 1, _, hbw2.cell 2, _, hbw2.cell 3, rfl⟩, ?_⟩
        refine ⟨⟨p0_0, hbw1.cell 0, rfl⟩, ?_⟩
        refine ⟨?_, ?_⟩
        ·
         refine set_step hbw450 (by simp) (fun w482 ow482 hbw450q nw482 => ?_)
         have hbw1 := hbw1.only ow482 (by omega)
         have hbw2 := hbw2.only ow482 (by omega)
         have hbw10 := hbw10.only ow482 (by omega)
         have hc1w10 := hc1w10.only ow482 (by omega)
         have hbw15 := hbw15.only ow482 (by omega)
         have hbw20 := hbw20.only ow482 (by omega)
         have hc1w20 := hc1w20.only ow482 (by omega)
         have hbw476 := hbw476.only ow482 (by omega)
         have fw10 := fw10.only ow482 (fun k h1 h2 => by omega)
         have fw34 := fw34.only ow482 (fun k h1 h2 => by omega)
         have fw42 := fw42.only ow482 (fun k h1 h2 => by omega)
         have fw53 := fw53.only ow482 (fun k h1 h2 => by omega)
         have fw284 := fw284.only ow482 (fun k h1 h2 => by omega)
         have fw411 := fw411.only ow482 (fun k h1 h2 => by omega)
         have fw471_0 := fw471_0.only ow482 (fun k h1 h2 => by omega)
         have e := Ext.own e ow482 (fun k hk => by omega)
         have er := Ext.own er ow482 (fun k hk => by omega)
         have hbw450 := hbw450q
         refine ⟨?_, ?_⟩
         ·
          refine put_step hbw476 rfl rfl (fun w483 ow483 hbw476q nw483 => ?_)
          have hbw1 := hbw1.only ow483 (by omega)
          have hbw2 := hbw2.only ow483 (by omega)
          have hbw10 := hbw10.only ow483 (by omega)
          have hc1w10 := hc1w10.only ow483 (by omega)
          have hbw15 := hbw15.only ow483 (by omega)
          have hbw20 := hbw20.only ow483 (by omega)
          have hc1w20 := hc1w20.only ow483 (by omega)
          have hbw450 := hbw450.only ow483 (by omega)
          have fw10 := fw10.only ow483 (fun k h1 h2 => by omega)
          have fw34 := fw34.only ow483 (fun k h1 h2 => by omega)
          have fw42 := fw42.only ow483 (fun k h1 h2 => by omega)
          have fw53 := fw53.only ow483 (fun k h1 h2 => by omega)
          have fw284 := fw284.only ow483 (fun k h1 h2 => by omega)
          have fw411 := fw411.only ow483 (fun k h1 h2 => by omega)
          have fw471_0 := fw471_0.only ow483 (fun k h1 h2 => by omega)
          have e := Ext.own e ow483 (fun k hk => by omega)
          have er := Ext.own er ow483 (fun k hk => by omega)
          have hbw476 := hbw476q
          have hbl := hbw450.lt
          have hcl1 := hbw476.lt
          exact ⟨_, _, _, _, _, rfl, rfl, by omega, by omega, by omega, by omega, hbl, by omega, hcl1, by omega, by omega, hbw476, hbw450, fw471_0, er⟩
         ·
          trivial
        ·
         trivial
       ·
        trivial
      ·
       refine ⟨?_, ?_⟩
       ·
        refine alloc_step (fun w456 ew456 hbw456 nw456 => ?_)
        have hbw1 := hbw1.ext ew456
        have hbw2 := hbw2.ext ew456
        have hbw10 := hbw10.ext ew456
        have hc1w10 := hc1w10.ext ew456
        have hbw15 := hbw15.ext ew456
        have hbw20 := hbw20.ext ew456
        have hc1w20 := hc1w20.ext ew456
        have hbw450 := hbw450.ext ew456
        have fw10 := fw10.ext ew456
        have fw34 := fw34.ext ew456
        have fw42 := fw42.ext ew456
        have fw53 := fw53.ext ew456
        have fw284 := fw284.ext ew456
        have fw411 := fw411.ext ew456
        have e := Only.trans e ew456
        have er := Only.trans er ew456
        have zw456 := ew456.size
        refine ⟨⟨_, hbw2.cell 0, _, hbw2.cell 1, _, hbw2.cell 2, _, hbw2.cell 3, rfl⟩, ?_⟩
        refine ⟨⟨p0_0, hbw1.cell 0, rfl⟩, ?_⟩
        refine ⟨?_, ?_⟩
        ·
         refine (implProcStep fw284.is sz0 fw411.is).mono ?_
         rintro _ w463 ⟨yw463_0, rfl, fw463_0, ew463⟩
         have hbw1 := hbw1.ext ew463
         have hbw2 := hbw2.ext ew463
         have hbw10 := hbw10.ext ew463
         have hc1w10 := hc1w10.ext ew463
         have hbw15 := hbw15.ext ew463
         have hbw20 := hbw20.ext ew463
         have hc1w20 := hc1w20.ext ew463
         have hbw450 := hbw450.ext ew463
         have hbw456 := hbw456.ext ew463
         have fw10 := fw10.ext ew463
         have fw34 := fw34.ext ew463
         have fw42 := fw42.ext ew463
         have fw53 := fw53.ext ew463
         have fw284 := fw284.ext ew463
         have fw411 := fw411.ext ew463
         have e := Only.trans e ew463
         have er := Only.trans er ew463
         have zw463 := ew463.size
         have hiyw463_0 := fw463_0.is
         obtain ⟨ryw463_0_0, rfl, _⟩ := cells_Procs hiyw463_0
         refine ⟨ryw463_0_0, _, _, _, rfl, ?_⟩
         refine ⟨?_, ?_⟩
         ·
          refine set_step hbw450 (by simp) (fun w468 ow468 hbw450q nw468 => ?_)
          have hbw1 := hbw1.only ow468 (by omega)
          have hbw2 := hbw2.only ow468 (by omega)
          have hbw10 := hbw10.only ow468 (by omega)
          have hc1w10 := hc1w10.only ow468 (by omega)
          have hbw15 := hbw15.only ow468 (by omega)
          have hbw20 := hbw20.only ow468 (by omega)
          have hc1w20 := hc1w20.only ow468 (by omega)
          have hbw456 := hbw456.only ow468 (by omega)
          have fw10 := fw10.only ow468 (fun k h1 h2 => by omega)
          have fw34 := fw34.only ow468 (fun k h1 h2 => by omega)
          have fw42 := fw42.only ow468 (fun k h1 h2 => by omega)
          have fw53 := fw53.only ow468 (fun k h1 h2 => by omega)
          have fw284 := fw284.only ow468 (fun k h1 h2 => by omega)
          have fw411 := fw411.only ow468 (fun k h1 h2 => by omega)
          have fw463_0 := fw463_0.only ow468 (fun k h1 h2 => by omega)
          have e := Ext.own e ow468 (fun k hk => by omega)
          have er := Ext.own er ow468 (fun k hk => by omega)
          have hbw450 := hbw450q
          refine ⟨?_, ?_⟩
          ·
           refine put_step hbw456 rfl rfl (fun w469 ow469 hbw456q nw469 => ?_)
           have hbw1 := hbw1.only ow469 (by omega)
           have hbw2 := hbw2.only ow469 (by omega)
           have hbw10 := hbw10.only ow469 (by omega)
           have hc1w10 := hc1w10.only ow469 (by omega)
           have hbw15 := hbw15.only ow469 (by omega)
           have hbw20 := hbw20.only ow469 (by omega)
           have hc1w20 := hc1w20.only ow469 (by omega)
           have hbw450 := hbw450.only ow469 (by omega)
           have fw10 := fw10.only ow469 (fun k h1 h2 => by omega)
           have fw34 := fw34.only ow469 (fun k h1 h2 => by omega)
           have fw42 := fw42.only ow469 (fun k h1 h2 => by omega)
           have fw53 := fw53.only ow469 (fun k h1 h2 => by omega)
           have fw284 := fw284.only ow469 (fun k h1 h2 => by omega)
           have fw411 := fw411.only ow469 (fun k h1 h2 => by omega)
           have fw463_0 := fw463_0.only ow469 (fun k h1 h2 => by omega)
           have e := Ext.own e ow469 (fun k hk => by omega)
           have er := Ext.own er ow469 (fun k hk => by omega)
           have hbw456 := hbw456q
           have hbl := hbw450.lt
           have hcl1 := hbw456.lt
           exact ⟨_, _, _, _, _, rfl, rfl, by omega, by omega, by omega, by omega, hbl, by omega, hcl1, by omega, by omega, hbw456, hbw450, fw463_0, er⟩
          ·
           trivial
         ·
          trivial
        ·
         trivial
       ·
        trivial
     ·
      refine ⟨?_, ?_⟩
      ·
       refine alloc_step (fun w416 ew416 hbw416 nw416 => ?_)
       have hbw1 := hbw1.ext ew416
       have hbw2 := hbw2.ext ew416
       have hbw10 := hbw10.ext ew416
       have hc1w10 := hc1w10.ext ew416
       have hbw15 := hbw15.ext ew416
       have hbw20 := hbw20.ext ew416
       have hc1w20 := hc1w20.ext ew416
       have fw10 := fw10.ext ew416
       have fw34 := fw34.ext ew416
       have fw42 := fw42.ext ew416
       have fw53 := fw53.ext ew416
       have fw284 := fw284.ext ew416
       have fw411 := fw411.ext ew416
       have e := Only.trans e ew416
       have er := Only.trans er ew416
       have zw416 := ew416.size
       refine ⟨⟨_, hbw2.cell 0, _, hbw2.cell 1, _, hbw2.cell 2, _, hbw2.cell 3, rfl⟩, ?_⟩
       refine ⟨⟨p0_0, hbw1.cell 0, rfl⟩, ?_⟩
       refine ⟨?_, ?_⟩
       ·
        refine (implProcStep fw284.is sz0 fw411.is).mono ?_
        rintro _ w437 ⟨yw437_0, rfl, fw437_0, ew437⟩
        have hbw1 := hbw1.ext ew437
        have hbw2 := hbw2.ext ew437
        have hbw10 := hbw10.ext ew437
        have hc1w10 := hc1w10.ext ew437
        have hbw15 := hbw15.ext ew437
        have hbw20 := hbw20.ext ew437
        have hc1w20 := hc1w20.ext ew437
        have hbw416 := hbw416.ext ew437
        have fw10 := fw10.ext ew437
        have fw34 := fw34.ext ew437
        have fw42 := fw42.ext ew437
        have fw53 := fw53.ext ew437
        have fw284 := fw284.ext ew437
        have fw411 := fw411.ext ew437
        have e := Only.trans e ew437
        have er := Only.trans er ew437
        have zw437 := ew437.size
        have hiyw437_0 := fw437_0.is
        obtain ⟨ryw437_0_0, rfl, _⟩ := cells_Procs hiyw437_0
        refine ⟨ryw437_0_0, _, _, _, rfl, ?_⟩
        refine ⟨?_, ?_⟩
        ·
         refine alloc_step (fun w442 ew442 hbw442 nw442 => ?_)
         have hbw1 := hbw1.ext ew442
         have hbw2 := hbw2.ext ew442
         have hbw10 := hbw10.ext ew442
         have hc1w10 := hc1w10.ext ew442
         have hbw15 := hbw15.ext ew442
         have hbw20 := hbw20.ext ew442
         have hc1w20 := hc1w20.ext ew442
         have hbw416 := hbw416.ext ew442
         have fw10 := fw10.ext ew442
         have fw34 := fw34.ext ew442
         have fw42 := fw42.ext ew442
         have fw53 := fw53.ext ew442
         have fw284 := fw284.ext ew442
         have fw411 := fw411.ext ew442
         have fw437_0 := fw437_0.ext ew442
         have e := Only.trans e ew442
         have er := Only.trans er ew442
         have zw442 := ew442.size
         refine ⟨⟨_, hbw2.cell 0, _, hbw2.cell 1, _, hbw2.cell 2, _, hbw2.cell 3, rfl⟩, ?_⟩
         refine ⟨⟨p0_0, hbw1.cell 0, rfl⟩, ?_⟩
         refine ⟨?_, ?_⟩
         ·
          refine set_step hbw442 (by simp) (fun w448 ow448 hbw442q nw448 => ?_)
          have hbw1 := hbw1.only ow448 (by omega)
          have hbw2 := hbw2.only ow448 (by omega)
          have hbw10 := hbw10.only ow448 (by omega)
          have hc1w10 := hc1w10.only ow448 (by omega)
          have hbw15 := hbw15.only ow448 (by omega)
          have hbw20 := hbw20.only ow448 (by omega)
          have hc1w20 := hc1w20.only ow448 (by omega)
          have hbw416 := hbw416.only ow448 (by omega)
          have fw10 := fw10.only ow448 (fun k h1 h2 => by omega)
          have fw34 := fw34.only ow448 (fun k h1 h2 => by omega)
          have fw42 := fw42.only ow448 (fun k h1 h2 => by omega)
          have fw53 := fw53.only ow448 (fun k h1 h2 => by omega)
          have fw284 := fw284.only ow448 (fun k h1 h2 => by omega)
          have fw411 := fw411.only ow448 (fun k h1 h2 => by omega)
          have fw437_0 := fw437_0.only ow448 (fun k h1 h2 => by omega)
          have e := Ext.own e ow448 (fun k hk => by omega)
          have er := Ext.own er ow448 (fun k hk => by omega)
          have hbw442 := hbw442q
          refine ⟨?_, ?_⟩
          ·
           refine put_step hbw416 rfl rfl (fun w449 ow449 hbw416q nw449 => ?_)
           have hbw1 := hbw1.only ow449 (by omega)
           have hbw2 := hbw2.only ow449 (by omega)
           have hbw10 := hbw10.only ow449 (by omega)
           have hc1w10 := hc1w10.only ow449 (by omega)
           have hbw15 := hbw15.only ow449 (by omega)
           have hbw20 := hbw20.only ow449 (by omega)
           have hc1w20 := hc1w20.only ow449 (by omega)
           have hbw442 := hbw442.only ow449 (by omega)
           have fw10 := fw10.only ow449 (fun k h1 h2 => by omega)
           have fw34 := fw34.only ow449 (fun k h1 h2 => by omega)
           have fw42 := fw42.only ow449 (fun k h1 h2 => by omega)
           have fw53 := fw53.only ow449 (fun k h1 h2 => by omega)
           have fw284 := fw284.only ow449 (fun k h1 h2 => by omega)
           have fw411 := fw411.only ow449 (fun k h1 h2 => by omega)
           have fw437_0 := fw437_0.only ow449 (fun k h1 h2 => by omega)
           have e := Ext.own e ow449 (fun k hk => by omega)
           have er := Ext.own er ow449 (fun k hk => by omega)
           have hbw416 := hbw416q
           have hbl := hbw442.lt
           have hcl1 := hbw416.lt
           exact ⟨_, _, _, _, _, rfl, rfl, by omega, by omega, by omega, by omega, hbl, by omega, hcl1, by omega, by omega, hbw416, hbw442, fw437_0, er⟩
          ·
           trivial
         ·
          trivial
        ·
         trivial
       ·
        refine ⟨?_, ?_⟩
        ·
         refine alloc_step (fun w422 ew422 hbw422 nw422 => ?_)
         have hbw1 := hbw1.ext ew422
         have hbw2 := hbw2.ext ew422
         have hbw10 := hbw10.ext ew422
         have hc1w10 := hc1w10.ext ew422
         have hbw15 := hbw15.ext ew422
         have hbw20 := hbw20.ext ew422
         have hc1w20 := hc1w20.ext ew422
         have hbw416 := hbw416.ext ew422
         have fw10 := fw10.ext ew422
         have fw34 := fw34.ext ew422
         have fw42 := fw42.ext ew422
         have fw53 := fw53.ext ew422
         have fw284 := fw284.ext ew422
         have fw411 := fw411.ext ew422
         have e := Only.trans e ew422
         have er := Only.trans er ew422
         have zw422 := ew422.size
         refine ⟨⟨_, hbw2.cell 0, _, hbw2.cell 1, _, hbw2.cell 2, _, hbw2.cell 3, rfl⟩, ?_⟩
         refine ⟨⟨p0_0, hbw1.cell 0, rfl⟩, ?_⟩
         refine ⟨?_, ?_⟩
         ·
          refine (implProcStep fw284.is sz0 fw411.is).mono ?_
          rintro _ w429 ⟨yw429_0, rfl, fw429_0, ew429⟩
          have hbw1 := hbw1.ext ew429
          have hbw2 := hbw2.ext ew429
          have hbw10 := hbw10.ext ew429
          have hc1w10 := hc1w10.ext ew429
          have hbw15 := hbw15.ext ew429
          have hbw20 := hbw20.ext ew429
          have hc1w20 := hc1w20.ext ew429
          have hbw416 := hbw416.ext ew429
          have hbw422 := hbw422.ext ew429
          have fw10 := fw10.ext ew429
          have fw34 := fw34.ext ew429
          have fw42 := fw42.ext ew429
          have fw53 := fw53.ext ew429
          have fw284 := fw284.ext ew429
          have fw411 := fw411.ext ew429
          have e := Only.trans e ew429
          have er := Only.trans er ew429
          have zw429 := ew429.size
          have hiyw429_0 := fw429_0.is
          obtain ⟨ryw429_0_0, rfl, _⟩ := cells_Procs hiyw429_0
          refine ⟨ryw429_0_0, _, _, _, rfl, ?_⟩
          refine ⟨?_, ?_⟩
          ·
           refine set_step hbw422 (by simp) (fun w434 ow434 hbw422q nw434 => ?_)
           have hbw1 := hbw1.only ow434 (by omega)
           have hbw2 := hbw2.only ow434 (by omega)
           have hbw10 := hbw10.only ow434 (by omega)
           have hc1w10 := hc1w10.only ow434 (by omega)
           have hbw15 := hbw15.only ow434 (by omega)
           have hbw20 := hbw20.only ow434 (by omega)
           have hc1w20 := hc1w20.only ow434 (by omega)
           have hbw416 := hbw416.only ow434 (by omega)
           have fw10 := fw10.only ow434 (fun k h1 h2 => by omega)
           have fw34 := fw34.only ow434 (fun k h1 h2 => by omega)
           have fw42 := fw42.only ow434 (fun k h1 h2 => by omega)
           have fw53 := fw53.only ow434 (fun k h1 h2 => by omega)
           have fw284 := fw284.only ow434 (fun k h1 h2 => by omega)
           have fw411 := fw411.only ow434 (fun k h1 h2 => by omega)
           have fw429_0 := fw429_0.only ow434 (fun k h1 h2 => by omega)
           have e := Ext.own e ow434 (fun k hk => by omega)
           have er := Ext.own er ow434 (fun k hk => by omega)
           have hbw422 := hbw422q
           refine ⟨?_, ?_⟩
           ·
            refine put_step hbw416 rfl rfl (fun w435 ow435 hbw416q nw435 => ?_)
            have hbw1 := hbw1.only ow435 (by omega)
            have hbw2 := hbw2.only ow435 (by omega)
            have hbw10 := hbw10.only ow435 (by omega)
            have hc1w10 := hc1w10.only ow435 (by omega)
            have hbw15 := hbw15.only ow435 (by omega)
            have hbw20 := hbw20.only ow435 (by omega)
            have hc1w20 := hc1w20.only ow435 (by omega)
            have hbw422 := hbw422.only ow435 (by omega)
            have fw10 := fw10.only ow435 (fun k h1 h2 => by omega)
            have fw34 := fw34.only ow435 (fun k h1 h2 => by omega)
            have fw42 := fw42.only ow435 (fun k h1 h2 => by omega)
            have fw53 := fw53.only ow435 (fun k h1 h2 => by omega)
            have fw284 := fw284.only ow435 (fun k h1 h2 => by omega)
            have fw411 := fw411.only ow435 (fun k h1 h2 => by omega)
            have fw429_0 := fw429_0.only ow435 (fun k h1 h2 => by omega)
            have e := Ext.own e ow435 (fun k hk => by omega)
            have er := Ext.own er ow435 (fun k hk => by omega)
            have hbw416 := hbw416q
            have hbl := hbw422.lt
            have hcl1 := hbw416.lt
            exact ⟨_, _, _, _, _, rfl, rfl, by omega, by omega, by omega, by omega, hbl, by omega, hcl1, by omega, by omega, hbw416, hbw422, fw429_0, er⟩
           ·
            trivial
          ·
           trivial
         ·
          trivial
        ·
         trivial
      ·
       trivial
   ·
    refine ⟨?_, ?_⟩
    ·
     refine alloc_step (fun w350 ew350 hbw350 nw350 => ?_)
     have hbw1 := hbw1.ext ew350
     have hbw2 := hbw2.ext ew350
     have hbw10 := hbw10.ext ew350
     have hc1w10 := hc1w10.ext ew350
     have hbw15 := hbw15.ext ew350
     have hbw20 := hbw20.ext ew350
     have hc1w20 := hc1w20.ext ew350
     have fw10 := fw10.ext ew350
     have fw34 := fw34.ext ew350
     have fw42 := fw42.ext ew350
     have fw53 := fw53.ext ew350
     have fw284 := fw284.ext ew350
     have e := Only.trans e ew350
     have er := Only.trans er ew350
     have zw350 := ew350.size
     refine ⟨⟨_, hbw2.cell 0, _, hbw2.cell 1, _, hbw2.cell 2, _, hbw2.cell 3, rfl⟩, ?_⟩
     refine ⟨⟨p0_0, hbw1.cell 0, rfl⟩, ?_⟩
     refine ⟨?_, ?_⟩
     ·
      refine (c50 (DProcOp.has _) (IsD.ext e _ _ h1) (by have := pop_sz op; omega)).mono ?_
      rintro _ w377 ⟨yw377, rfl, fw377, ew377⟩
      have hbw1 := hbw1.ext ew377
      have hbw2 := hbw2.ext ew377
      have hbw10 := hbw10.ext ew377
      have hc1w10 := hc1w10.ext ew377
      have hbw15 := hbw15.ext ew377
      have hbw20 := hbw20.ext ew377
      have hc1w20 := hc1w20.ext ew377
      have hbw350 := hbw350.ext ew377
      have fw10 := fw10.ext ew377
      have fw34 := fw34.ext ew377
      have fw42 := fw42.ext ew377
      have fw53 := fw53.ext ew377
      have fw284 := fw284.ext ew377
      have e := Only.trans e ew377
      have er := Only.trans er ew377
      have zw377 := ew377.size
      have hiyw377 := fw377.is
      obtain ⟨rfl, _, _, _, _⟩ := cells_ProcOp hiyw377
      refine ⟨_, _, _, _, rfl, ?_⟩
      refine ⟨?_, ?_⟩
      ·
       refine (implProcStep fw284.is sz0 fw377.is).mono ?_
       rintro _ w397 ⟨yw397_0, rfl, fw397_0, ew397⟩
       have hbw1 := hbw1.ext ew397
       have hbw2 := hbw2.ext ew397
       have hbw10 := hbw10.ext ew397
       have hc1w10 := hc1w10.ext ew397
       have hbw15 := hbw15.ext ew397
       have hbw20 := hbw20.ext ew397
       have hc1w20 := hc1w20.ext ew397
       have hbw350 := hbw350.ext ew397
       have fw10 := fw10.ext ew397
       have fw34 := fw34.ext ew397
       have fw42 := fw42.ext ew397
       have fw53 := fw53.ext ew397
       have fw284 := fw284.ext ew397
       have fw377 := fw377.ext ew397
       have e := Only.trans e ew397
       have er := Only.trans er ew397
       have zw397 := ew397.size
       have hiyw397_0 := fw397_0.is
       obtain ⟨ryw397_0_0, rfl, _⟩ := cells_Procs hiyw397_0
       refine ⟨ryw397_0_0, _, _, _, rfl, ?_⟩
       refine ⟨?_, ?_⟩
       ·
        refine alloc_step (fun w402 ew402 hbw402 nw402 => ?_)
        have hbw1 := hbw1.ext ew402
        have hbw2 := hbw2.ext ew402
        have hbw10 := hbw10.ext ew402
        have hc1w10 := hc1w10.ext ew402
        have hbw15 := hbw15.ext ew402
        have hbw20 := hbw20.ext ew402
        have hc1w20 := hc1w20.ext ew402
        have hbw350 := hbw350.ext ew402
        have fw10 := fw10.ext ew402
        have fw34 := fw34.ext ew402
        have fw42 := fw42.ext ew402
        have fw53 := fw53.ext ew402
        have fw284 := fw284.ext ew402
        have fw377 := fw377.ext ew402
        have fw397_0 := fw397_0.ext ew402
        have e := Only.trans e ew402
        have er := Only.trans er ew402
        have zw402 := ew402.size
        refine ⟨⟨_, hbw2.cell 0, _, hbw2.cell 1, _, hbw2.cell 2, _, hbw2.cell 3, rfl⟩, ?_⟩
        refine ⟨⟨p0_0, hbw1.cell 0, rfl⟩, ?_⟩
        refine ⟨?_, ?_⟩
        ·
         refine set_step hbw350 (by simp) (fun w408 ow408 hbw350q nw408 => ?_)
         have hbw1 := hbw1.only ow408 (by omega)
         have hbw2 := hbw2.only ow408 (by omega)
         have hbw10 := hbw10.only ow408 (by omega)
         have hc1w10 := hc1w10.only ow408 (by omega)
         have hbw15 := hbw15.only ow408 (by omega)
         have hbw20 := hbw20.only ow408 (by omega)
         have hc1w20 := hc1w20.only ow408 (by omega)
         have hbw402 := hbw402.only ow408 (by omega)
         have fw10 := fw10.only ow408 (fun k h1 h2 => by omega)
         have fw34 := fw34.only ow408 (fun k h1 h2 => by omega)
         have fw42 := fw42.only ow408 (fun k h1 h2 => by omega)
         have fw53 := fw53.only ow408 (fun k h1 h2 => by omega)
         have fw284 := fw284.only ow408 (fun k h1 h2 => by omega)
         have fw377 := fw377.only ow408 (fun k h1 h2 => by omega)
         have fw397_0 := fw397_0.only ow408 (fun k h1 h2 => by omega)
         have e := Ext.own e ow408 (fun k hk => by omega)
         have er := Ext.own er ow408 (fun k hk => by omega)
         have hbw350 := hbw350q
         refine ⟨?_, ?_⟩
         ·
          refine put_step hbw402 rfl rfl (fun w409 ow409 hbw402q nw409 => ?_)
          have hbw1 := hbw1.only ow409 (by omega)
          have hbw2 := hbw2.only ow409 (by omega)
          have hbw10 := hbw10.only ow409 (by omega)
          have hc1w10 := hc1w10.only ow409 (by omega)
          have hbw15 := hbw15.only ow409 (by omega)
          have hbw20 := hbw20.only ow409 (by omega)
          have hc1w20 := hc1w20.only ow409 (by omega)
          have hbw350 := hbw350.only ow409 (by omega)
          have fw10 := fw10.only ow409 (fun k h1 h2 => by omega)
          have fw34 := fw34.only ow409 (fun k h1 h2 => by omega)
          have fw42 := fw42.only ow409 (fun k h1 h2 => by omega)
          have fw53 := fw53.only ow409 (fun k h1 h2 => by omega)
          have fw284 := fw284.only ow409 (fun k h1 h2 => by omega)
          have fw377 := fw377.only ow409 (fun k h1 h2 => by omega)
          have fw397_0 := fw397_0.only ow409 (fun k h1 h2 => by omega)
          have e := Ext.own e ow409 (fun k hk => by omega)
          have er := Ext.own er ow409 (fun k hk => by omega)
          have hbw402 := hbw402q
          have hbl := hbw350.lt
          have hcl1 := hbw402.lt
          exact ⟨_, _, _, _, _, rfl, rfl, by omega, by omega, by omega, by omega, hbl, by omega, hcl1, by omega, by omega, hbw402, hbw350, fw397_0, er⟩
         ·
          trivial
        ·
         trivial
       ·
        trivial
      ·
       refine ⟨?_, ?_⟩
       ·
        refine alloc_step (fun w382 ew382 hbw382 nw382 => ?_)
        have hbw1 := hbw1.ext ew382
        have hbw2 := hbw2.ext ew382
        have hbw10 := hbw10.ext ew382
        have hc1w10 := hc1w10.ext ew382
        have hbw15 := hbw15.ext ew382
        have hbw20 := hbw20.ext ew382
        have hc1w20 := hc1w20.ext ew382
        have hbw350 := hbw350.ext ew382
        have fw10 := fw10.ext ew382
        have fw34 := fw34.ext ew382
        have fw42 := fw42.ext ew382
        have fw53 := fw53.ext ew382
        have fw284 := fw284.ext ew382
        have fw377 := fw377.ext ew382
        have e := Only.trans e ew382
        have er := Only.trans er ew382
        have zw382 := ew382.size
        refine ⟨⟨_, hbw2.cell 0, _, hbw2.cell 1, _, hbw2.cell 2, _, hbw2.cell 3, rfl⟩, ?_⟩
        refine ⟨⟨p0_0, hbw1.cell 0, rfl⟩, ?_⟩
        refine ⟨?_, ?_⟩
        ·
         refine (implProcStep fw284.is sz0 fw377.is).mono ?_
         rintro _ w389 ⟨yw389_0, rfl, fw389_0, ew389⟩
         have hbw1 := hbw1.ext ew389
         have hbw2 := hbw2.ext ew389
         have hbw10 := hbw10.ext ew389
         have hc1w10 := hc1w10.ext ew389
         have hbw15 := hbw15.ext ew389
         have hbw20 := hbw20.ext ew389
         have hc1w20 := hc1w20.ext ew389
         have hbw350 := hbw350.ext ew389
         have hbw382 := hbw382.ext ew389
         have fw10 := fw10.ext ew389
         have fw34 := fw34.ext ew389
         have fw42 := fw42.ext ew389
         have fw53 := fw53.ext ew389
         have fw284 := fw284.ext ew389
         have fw377 := fw377.ext ew389
         have e := Only.trans e ew389
         have er := Only.trans er ew389
         have zw389 := ew389.size
         have hiyw389_0 := fw389_0.is
         obtain ⟨ryw389_0_0, rfl, _⟩ := cells_Procs hiyw389_0
         refine ⟨ryw389_0_0, _, _, _, rfl, ?_⟩
         refine ⟨?_, ?_⟩
         ·
          refine set_step hbw350 (by simp) (fun w394 ow394 hbw350q nw394 => ?_)
          have hbw1 := hbw1.only ow394 (by omega)
          have hbw2 := hbw2.only ow394 (by omega)
          have hbw10 := hbw10.only ow394 (by omega)
          have hc1w10 := hc1w10.only ow394 (by omega)
          have hbw15 := hbw15.only ow394 (by omega)
          have hbw20 := hbw20.only ow394 (by omega)
          have hc1w20 := hc1w20.only ow394 (by omega)
          have hbw382 := hbw382.only ow394 (by omega)
          have fw10 := fw10.only ow394 (fun k h1 h2 => by omega)
          have fw34 := fw34.only ow394 (fun k h1 h2 => by omega)
          have fw42 := fw42.only ow394 (fun k h1 h2 => by omega)
          have fw53 := fw53.only ow394 (fun k h1 h2 => by omega)
          have fw284 := fw284.only ow394 (fun k h1 h2 => by omega)
          have fw377 := fw377.only ow394 (fun k h1 h2 => by omega)
          have fw389_0 := fw389_0.only ow394 (fun k h1 h2 => by omega)
          have e := Ext.own e ow394 (fun k hk => by omega)
          have er := Ext.own er ow394 (fun k hk => by omega)
          have hbw350 := hbw350q
          refine ⟨?_, ?_⟩
          ·
           refine put_step hbw382 rfl rfl (fun w395 ow395 hbw382q nw395 => ?_)
           have hbw1 := hbw1.only ow395 (by omega)
           have hbw2 := hbw2.only ow395 (by omega)
           have hbw10 := hbw10.only ow395 (by omega)
           have hc1w10 := hc1w10.only ow395 (by omega)
           have hbw15 := hbw15.only ow395 (by omega)
           have hbw20 := hbw20.only ow395 (by omega)
           have hc1w20 := hc1w20.only ow395 (by omega)
           have hbw350 := hbw350.only ow395 (by omega)
           have fw10 := fw10.only ow395 (fun k h1 h2 => by omega)
           have fw34 := fw34.only ow395 (fun k h1 h2 => by omega)
           have fw42 := fw42.only ow395 (fun k h1 h2 => by omega)
           have fw53 := fw53.only ow395 (fun k h1 h2 => by omega)
           have fw284 := fw284.only ow395 (fun k h1 h2 => by omega)
           have fw377 := fw377.only ow395 (fun k h1 h2 => by omega)
           have fw389_0 := fw389_0.only ow395 (fun k h1 h2 => by omega)
           have e := Ext.own e ow395 (fun k hk => by omega)
           have er := Ext.own er ow395 (fun k hk => by omega)
           have hbw382 := hbw382q
           have hbl := hbw350.lt
           have hcl1 := hbw382.lt
           exact ⟨_, _, _, _, _, rfl, rfl, by omega, by omega, by omega, by omega, hbl, by omega, hcl1, by omega, by omega, hbw382, hbw350, fw389_0, er⟩
          ·
           trivial
         ·
          trivial
        ·
         trivial
       ·
        trivial
     ·
      refine ⟨?_, ?_⟩
      ·
       refine alloc_step (fun w356 ew356 hbw356 nw356 => ?_)
       have hbw1 := hbw1.ext ew356
       have hbw2 := hbw2.ext ew356
       have hbw10 := hbw10.ext ew356
       have hc1w10 := hc1w10.ext ew356
       have hbw15 := hbw15.ext ew356
       have hbw20 := hbw20.ext ew356
       have hc1w20 := hc1w20.ext ew356
       have hbw350 := hbw350.ext ew356
       have fw10 := fw10.ext ew356
       have fw34 := fw34.ext ew356
       have fw42 := fw42.ext ew356
       have fw53 := fw53.ext ew356
       have fw284 := fw284.ext ew356
       have e := Only.trans e ew356
       have er := Only.trans er ew356
       have zw356 := ew356.size
       refine ⟨⟨_, hbw2.cell 0, _, hbw2.cell 1, _, hbw2.cell 2, _, hbw2.cell 3, rfl⟩, ?_⟩
       refine ⟨⟨p0_0, hbw1.cell 0, rfl⟩, ?_⟩
       refine ⟨?_, ?_⟩
       ·
        refine (c50 (DProcOp.has _) (IsD.ext e _ _ h1) (by have := pop_sz op; omega)).mono ?_
        rintro _ w363 ⟨yw363, rfl, fw363, ew363⟩
        have hbw1 := hbw1.ext ew363
        have hbw2 := hbw2.ext ew363
        have hbw10 := hbw10.ext ew363
        have hc1w10 := hc1w10.ext ew363
        have hbw15 := hbw15.ext ew363
        have hbw20 := hbw20.ext ew363
        have hc1w20 := hc1w20.ext ew363
        have hbw350 := hbw350.ext ew363
        have hbw356 := hbw356.ext ew363
        have fw10 := fw10.ext ew363
        have fw34 := fw34.ext ew363
        have fw42 := fw42.ext ew363
        have fw53 := fw53.ext ew363
        have fw284 := fw284.ext ew363
        have e := Only.trans e ew363
        have er := Only.trans er ew363
        have zw363 := ew363.size
        have hiyw363 := fw363.is
        obtain ⟨rfl, _, _, _, _⟩ := cells_ProcOp hiyw363
        refine ⟨_, _, _, _, rfl, ?_⟩
        refine ⟨?_, ?_⟩
        ·
         refine (implProcStep fw284.is sz0 fw363.is).mono ?_
         rintro _ w369 ⟨yw369_0, rfl, fw369_0, ew369⟩
         have hbw1 := hbw1.ext ew369
         have hbw2 := hbw2.ext ew369
         have hbw10 := hbw10.ext ew369
         have hc1w10 := hc1w10.ext ew369
         have hbw15 := hbw15.ext ew369
         have hbw20 := hbw20.ext ew369
         have hc1w20 := hc1w20.ext ew369
         have hbw350 := hbw350.ext ew369
         have hbw356 := hbw356.ext ew369
         have fw10 := fw10.ext ew369
         have fw34 := fw34.ext ew369
         have fw42 := fw42.ext ew369
         have fw53 := fw53.ext ew369
         have fw284 := fw284.ext ew369
         have fw363 := fw363.ext ew369
         have e := Only.trans e ew369
         have er := Only.trans er ew369
         have zw369 := ew369.size
         have hiyw369_0 := fw369_0.is
         obtain ⟨ryw369_0_0, rfl, _⟩ := cells_Procs hiyw369_0
         refine ⟨ryw369_0_0, _, _, _, rfl, ?_⟩
         refine ⟨?_, ?_⟩
         ·
          refine set_step hbw350 (by simp) (fun w374 ow374 hbw350q nw374 => ?_)
          have hbw1 := hbw1.only ow374 (by omega)
          have hbw2 := hbw2.only ow374 (by omega)
          have hbw10 := hbw10.only ow374 (by omega)
          have hc1w10 := hc1w10.only ow374 (by omega)
          have hbw15 := hbw15.only ow374 (by omega)
          have hbw20 := hbw20.only ow374 (by omega)
          have hc1w20 := hc1w20.only ow374 (by omega)
          have hbw356 := hbw356.only ow374 (by omega)
          have fw10 := fw10.only ow374 (fun k h1 h2 => by omega)
          have fw34 := fw34.only ow374 (fun k h1 h2 => by omega)
          have fw42 := fw42.only ow374 (fun k h1 h2 => by omega)
          have fw53 := fw53.only ow374 (fun k h1 h2 => by omega)
          have fw284 := fw284.only ow374 (fun k h1 h2 => by omega)
          have fw363 := fw363.only ow374 (fun k h1 h2 => by omega)
          have fw369_0 := fw369_0.only ow374 (fun k h1 h2 => by omega)
          have e := Ext.own e ow374 (fun k hk => by omega)
          have er := Ext.own er ow374 (fun k hk => by omega)
          have hbw350 := hbw350q
          refine ⟨?_, ?_⟩
          ·
           refine put_step hbw356 rfl rfl (fun w375 ow375 hbw356q nw375 => ?_)
           have hbw1 := hbw1.only ow375 (by omega)
           have hbw2 := hbw2.only ow375 (by omega)
           have hbw10 := hbw10.only ow375 (by omega)
           have hc1w10 := hc1w10.only ow375 (by omega)
           have hbw15 := hbw15.only ow375 (by omega)
           have hbw20 := hbw20.only ow375 (by omega)
           have hc1w20 := hc1w20.only ow375 (by omega)
           have hbw350 := hbw350.only ow375 (by omega)
           have fw10 := fw10.only ow375 (fun k h1 h2 => by omega)
           have fw34 := fw34.only ow375 (fun k h1 h2 => by omega)
           have fw42 := fw42.only ow375 (fun k h1 h2 => by omega)
           have fw53 := fw53.only ow375 (fun k h1 h2 => by omega)
           have fw284 := fw284.only ow375 (fun k h1 h2 => by omega)
           have fw363 := fw363.only ow375 (fun k h1 h2 => by omega)
           have fw369_0 := fw369_0.only ow375 (fun k h1 h2 => by omega)
           have e := Ext.own e ow375 (fun k hk => by omega)
           have er := Ext.own er ow375 (fun k hk => by omega)
           have hbw356 := hbw356q
           have hbl := hbw350.lt
           have hcl1 := hbw356.lt
           exact ⟨_, _, _, _, _, rfl, rfl, by omega, by omega, by omega, by omega, hbl, by omega, hcl1, by omega, by omega, hbw356, hbw350, fw369_0, er⟩
          ·
           trivial
         ·
          trivial
        ·
         trivial
       ·
        trivial
      ·
       trivial
    ·
     refine ⟨?_, ?_⟩
     ·
      refine alloc_step (fun w290 ew290 hbw290 nw290 => ?_)
      have hbw1 := hbw1.ext ew290
      have hbw2 := hbw2.ext ew290
      have hbw10 := hbw10.ext ew290
      have hc1w10 := hc1w10.ext ew290
      have hbw15 := hbw15.ext ew290
      have hbw20 := hbw20.ext ew290
      have hc1w20 := hc1w20.ext ew290
      have fw10 := fw10.ext ew290
      have fw34 := fw34.ext ew290
      have fw42 := fw42.ext ew290
      have fw53 := fw53.ext ew290
      have fw284 := fw284.ext ew290
      have e := Only.trans e ew290
      have er := Only.trans er ew290
      have zw290 := ew290.size
      refine ⟨⟨_, hbw2.cell 0, _, hbw2.cell 1, _, hbw2.cell 2, _, hbw2.cell 3, rfl⟩, ?_⟩
      refine ⟨⟨p0_0, hbw1.cell 0, rfl⟩, ?_⟩
      refine ⟨?_, ?_⟩
      ·
       refine (c50 (DProcOp.has _) (IsD.ext e _ _ h1) (by have := pop_sz op; omega)).mono ?_
       rintro _ w317 ⟨yw317, rfl, fw317, ew317⟩
       have hbw1 := hbw1.ext ew317
       have hbw2 := hbw2.ext ew317
       have hbw10 := hbw10.ext ew317
       have hc1w10 := hc1w10.ext ew317
       have hbw15 := hbw15.ext ew317
       have hbw20 := hbw20.ext ew317
       have hc1w20 := hc1w20.ext ew317
       have hbw290 := hbw290.ext ew317
       have fw10 := fw10.ext ew317
       have fw34 := fw34.ext ew317
       have fw42 := fw42.ext ew317
       have fw53 := fw53.ext ew317
       have fw284 := fw284.ext ew317
       have e := Only.trans e ew317
       have er := Only.trans er ew317
       have zw317 := ew317.size
       have hiyw317 := fw317.is
       obtain ⟨rfl, _, _, _, _⟩ := cells_ProcOp hiyw317
       refine ⟨_, _, _, _, rfl, ?_⟩
       refine ⟨?_, ?_⟩
       ·
        refine (implProcStep fw284.is sz0 fw317.is).mono ?_
        rintro _ w337 ⟨yw337_0, rfl, fw337_0, ew337⟩
        have hbw1 := hbw1.ext ew337
        have hbw2 := hbw2.ext ew337
        have hbw10 := hbw10.ext ew337
        have hc1w10 := hc1w10.ext ew337
        have hbw15 := hbw15.ext ew337
        have hbw20 := hbw20.ext ew337
        have hc1w20 := hc1w20.ext ew337
        have hbw290 := hbw290.ext ew337
        have fw10 := fw10.ext ew337
        have fw34 := fw34.ext ew337
        have fw42 := fw42.ext ew337
        have fw53 := fw53.ext ew337
        have fw284 := fw284.ext ew337
        have fw317 := fw317.ext ew337
        have e := Only.trans e ew337
        have er := Only.trans er ew337
        have zw337 := ew337.size
        have hiyw337_0 := fw337_0.is
        obtain ⟨ryw337_0_0, rfl, _⟩ := cells_Procs hiyw337_0
        refine ⟨ryw337_0_0, _, _, _, rfl, ?_⟩
        refine ⟨?_, ?_⟩
        ·
         refine alloc_step (fun w342 ew342 hbw342 nw342 => ?_)
         have hbw1 := hbw1.ext ew342
         have hbw2 := hbw2.ext ew342
         have hbw10 := hbw10.ext ew342
         have hc1w10 := hc1w10.ext ew342
         have hbw15 := hbw15.ext ew342
         have hbw20 := hbw20.ext ew342
         have hc1w20 := hc1w20.ext ew342
         have hbw290 := hbw290.ext ew342
         have fw10 := fw10.ext ew342
         have fw34 := fw34.ext ew342
         have fw42 := fw42.ext ew342
         have fw53 := fw53.ext ew342
         have fw284 := fw284.ext ew342
         have fw317 := fw317.ext ew342
         have fw337_0 := fw337_0.ext ew342
         have e := Only.trans e ew342
         have er := Only.trans er ew342
         have zw342 := ew342.size
         refine ⟨⟨_, hbw2.cell 0, _, hbw2.cell 1, _, hbw2.cell 2, _, hbw2.cell 3, rfl⟩, ?_⟩
         refine ⟨⟨p0_0, hbw1.cell 0, rfl⟩, ?_⟩
         refine ⟨?_, ?_⟩
         ·
          refine set_step hbw342 (by simp) (fun w348 ow348 hbw342q nw348 => ?_)
          have hbw1 := hbw1.only ow348 (by omega)
          have hbw2 := hbw2.only ow348 (by omega)
          have hbw10 := hbw10.only ow348 (by omega)
          have hc1w10 := hc1w10.only ow348 (by omega)
          have hbw15 := hbw15.only ow348 (by omega)
          have hbw20 := hbw20.only ow348 (by omega)
          have hc1w20 := hc1w20.only ow348 (by omega)
          have hbw290 := hbw290.only ow348 (by omega)
          have fw10 := fw10.only ow348 (fun k h1 h2 => by omega)
          have fw34 := fw34.only ow348 (fun k h1 h2 => by omega)
          have fw42 := fw42.only ow348 (fun k h1 h2 => by omega)
          have fw53 := fw53.only ow348 (fun k h1 h2 => by omega)
          have fw284 := fw284.only ow348 (fun k h1 h2 => by omega)
          have fw317 := fw317.only ow348 (fun k h1 h2 => by omega)
          have fw337_0 := fw337_0.only ow348 (fun k h1 h2 => by omega)
          have e := Ext.own e ow348 (fun k hk => by omega)
          have er := Ext.own er ow348 (fun k hk => by omega)
          have hbw342 := hbw342q
          refine ⟨?_, ?_⟩
          ·
           refine put_step hbw290 rfl rfl (fun w349 ow349 hbw290q nw349 => ?_)
           have hbw1 := hbw1.only ow349 (by omega)
           have hbw2 := hbw2.only ow349 (by omega)
           have hbw10 := hbw10.only ow349 (by omega)
           have hc1w10 := hc1w10.only ow349 (by omega)
           have hbw15 := hbw15.only ow349 (by omega)
           have hbw20 := hbw20.only ow349 (by omega)
           have hc1w20 := hc1w20.only ow349 (by omega)
           have hbw342 := hbw342.only ow349 (by omega)
           have fw10 := fw10.only ow349 (fun k h1 h2 => by omega)
           have fw34 := fw34.only ow349 (fun k h1 h2 => by omega)
           have fw42 := fw42.only ow349 (fun k h1 h2 => by omega)
           have fw53 := fw53.only ow349 (fun k h1 h2 => by omega)
           have fw284 := fw284.only ow349 (fun k h1 h2 => by omega)
           have fw317 := fw317.only ow349 (fun k h1 h2 => by omega)
           have fw337_0 := fw337_0.only ow349 (fun k h1 h2 => by omega)
           have e := Ext.own e ow349 (fun k hk => by omega)
           have er := Ext.own er ow349 (fun k hk => by omega)
           have hbw290 := hbw290q
           have hbl := hbw342.lt
           have hcl1 := hbw290.lt
           exact ⟨_, _, _, _, _, rfl, rfl, by omega, by omega, by omega, by omega, hbl, by omega, hcl1, by omega, by omega, hbw290, hbw342, fw337_0, er⟩
          ·
           trivial
         ·
          trivial
        ·
         trivial
       ·
        refine ⟨?_, ?_⟩
        ·
         refine alloc_step (fun w322 ew322 hbw322 nw322 => ?_)
         have hbw1 := hbw1.ext ew322
         have hbw2 := hbw2.ext ew322
         have hbw10 := hbw10.ext ew322
         have hc1w10 := hc1w10.ext ew322
         have hbw15 := hbw15.ext ew322
         have hbw20 := hbw20.ext ew322
         have hc1w20 := hc1w20.ext ew322
         have hbw290 := hbw290.ext ew322
         have fw10 := fw10.ext ew322
         have fw34 := fw34.ext ew322
         have fw42 := fw42.ext ew322
         have fw53 := fw53.ext ew322
         have fw284 := fw284.ext ew322
         have fw317 := fw317.ext ew322
         have e := Only.trans e ew322
         have er := Only.trans er ew322
         have zw322 := ew322.size
         refine ⟨⟨_, hbw2.cell 0, _, hbw2.cell 1, _, hbw2.cell 2, _, hbw2.cell 3, rfl⟩, ?_⟩
         refine ⟨⟨p0_0, hbw1.cell 0, rfl⟩, ?_⟩
         refine ⟨?_, ?_⟩
         ·
          refine (implProcStep fw284.is sz0 fw317.is).mono ?_
          rintro _ w329 ⟨yw329_0, rfl, fw329_0, ew329⟩
          have hbw1 := hbw1.ext ew329
          have hbw2 := hbw2.ext ew329
          have hbw10 := hbw10.ext ew329
          have hc1w10 := hc1w10.ext ew329
          have hbw15 := hbw15.ext ew329
          have hbw20 := hbw20.ext ew329
          have hc1w20 := hc1w20.ext ew329
          have hbw290 := hbw290.ext ew329
          have hbw322 := hbw322.ext ew329
          have fw10 := fw10.ext ew329
          have fw34 := fw34.ext ew329
          have fw42 := fw42.ext ew329
          have fw53 := fw53.ext ew329
          have fw284 := fw284.ext ew329
          have fw317 := fw317.ext ew329
          have e := Only.trans e ew329
          have er := Only.trans er ew329
          have zw329 := ew329.size
          have hiyw329_0 := fw329_0.is
          obtain ⟨ryw329_0_0, rfl, _⟩ := cells_Procs hiyw329_0
          refine ⟨ryw329_0_0, _, _, _, rfl, ?_⟩
          refine ⟨?_, ?_⟩
          ·
           refine set_step hbw322 (by simp) (fun w334 ow334 hbw322q nw334 => ?_)
           have hbw1 := hbw1.only ow334 (by omega)
           have hbw2 := hbw2.only ow334 (by omega)
           have hbw10 := hbw10.only ow334 (by omega)
           have hc1w10 := hc1w10.only ow334 (by omega)
           have hbw15 := hbw15.only ow334 (by omega)
           have hbw20 := hbw20.only ow334 (by omega)
           have hc1w20 := hc1w20.only ow334 (by omega)
           have hbw290 := hbw290.only ow334 (by omega)
           have fw10 := fw10.only ow334 (fun k h1 h2 => by omega)
           have fw34 := fw34.only ow334 (fun k h1 h2 => by omega)
           have fw42 := fw42.only ow334 (fun k h1 h2 => by omega)
           have fw53 := fw53.only ow334 (fun k h1 h2 => by omega)
           have fw284 := fw284.only ow334 (fun k h1 h2 => by omega)
           have fw317 := fw317.only ow334 (fun k h1 h2 => by omega)
           have fw329_0 := fw329_0.only ow334 (fun k h1 h2 => by omega)
           have e := Ext.own e ow334 (fun k hk => by omega)
           have er := Ext.own er ow334 (fun k hk => by omega)
           have hbw322 := hbw322q
           refine ⟨?_, ?_⟩
           ·
            refine put_step hbw290 rfl rfl (fun w335 ow335 hbw290q nw335 => ?_)
            have hbw1 := hbw1.only ow335 (by omega)
            have hbw2 := hbw2.only ow335 (by omega)
            have hbw10 := hbw10.only ow335 (by omega)
            have hc1w10 := hc1w10.only ow335 (by omega)
            have hbw15 := hbw15.only ow335 (by omega)
            have hbw20 := hbw20.only ow335 (by omega)
            have hc1w20 := hc1w20.only ow335 (by omega)
            have hbw322 := hbw322.only ow335 (by omega)
            have fw10 := fw10.only ow335 (fun k h1 h2 => by omega)
            have fw34 := fw34.only ow335 (fun k h1 h2 => by omega)
            have fw42 := fw42.only ow335 (fun k h1 h2 => by omega)
            have fw53 := fw53.only ow335 (fun k h1 h2 => by omega)
            have fw284 := fw284.only ow335 (fun k h1 h2 => by omega)
            have fw317 := fw317.only ow335 (fun k h1 h2 => by omega)
            have fw329_0 := fw329_0.only ow335 (fun k h1 h2 => by omega)
            have e := Ext.own e ow335 (fun k hk => by omega)
            have er := Ext.own er ow335 (fun k hk => by omega)
            have hbw290 := hbw290q
            have hbl := hbw322.lt
            have hcl1 := hbw290.lt
            exact ⟨_, _, _, _, _, rfl, rfl, by omega, by omega, by omega, by omega, hbl, by omega, hcl1, by omega, by omega, hbw290, hbw322, fw329_0, er⟩
           ·
            trivial
          ·
           trivial
         ·
          trivial
        ·
         trivial
      ·
       refine ⟨?_, ?_⟩
       ·
        refine alloc_step (fun w296 ew296 hbw296 nw296 => ?_)
        have hbw1 := hbw1.ext ew296
        have hbw2 := hbw2.ext ew296
        have hbw10 := hbw10.ext ew296
        have hc1w10 := hc1w10.ext ew296
        have hbw15 := hbw15.ext ew296
        have hbw20 := hbw20.ext ew296
        have hc1w20 := hc1w20.ext ew296
        have hbw290 := hbw290.ext ew296
        have fw10 := fw10.ext ew296
        have fw34 := fw34.ext ew296
        have fw42 := fw42.ext ew296
        have fw53 := fw53.ext ew296
        have fw284 := fw284.ext ew296
        have e := Only.trans e ew296
        have er := Only.trans er ew296
        have zw296 := ew296.size
        refine ⟨⟨_, hbw2.cell 0, _, hbw2.cell 1, _, hbw2.cell 2, _, hbw2.cell 3, rfl⟩, ?_⟩
        refine ⟨⟨p0_0, hbw1.cell 0, rfl⟩, ?_⟩
        refine ⟨?_, ?_⟩
        ·
         refine (c50 (DProcOp.has _) (IsD.ext e _ _ h1) (by have := pop_sz op; omega)).mono ?_
         rintro _ w303 ⟨yw303, rfl, fw303, ew303⟩
         have hbw1 := hbw1.ext ew303
         have hbw2 := hbw2.ext ew303
         have hbw10 := hbw10.ext ew303
         have hc1w10 := hc1w10.ext ew303
         have hbw15 := hbw15.ext ew303
         have hbw20 := hbw20.ext ew303
         have hc1w20 := hc1w20.ext ew303
         have hbw290 := hbw290.ext ew303
         have hbw296 := hbw296.ext ew303
         have fw10 := fw10.ext ew303
         have fw34 := fw34.ext ew303
         have fw42 := fw42.ext ew303
         have fw53 := fw53.ext ew303
         have fw284 := fw284.ext ew303
         have e := Only.trans e ew303
         have er := Only.trans er ew303
         have zw303 := ew303.size
         have hiyw303 := fw303.is
         obtain ⟨rfl, _, _, _, _⟩ := cells_ProcOp hiyw303
         refine ⟨_, _, _, _, rfl, ?_⟩
         refine ⟨?_, ?_⟩
         ·
          refine (implProcStep fw284.is sz0 fw303.is).mono ?_
          rintro _ w309 ⟨yw309_0, rfl, fw309_0, ew309⟩
          have hbw1 := hbw1.ext ew309
          have hbw2 := hbw2.ext ew309
          have hbw10 := hbw10.ext ew309
          have hc1w10 := hc1w10.ext ew309
          have hbw15 := hbw15.ext ew309
          have hbw20 := hbw20.ext ew309
          have hc1w20 := hc1w20.ext ew309
          have hbw290 := hbw290.ext ew309
          have hbw296 := hbw296.ext ew309
          have fw10 := fw10.ext ew309
          have fw34 := fw34.ext ew309
          have fw42 := fw42.ext ew309
          have fw53 := fw53.ext ew309
          have fw284 := fw284.ext ew309
          have fw303 := fw303.ext ew309
          have e := Only.trans e ew309
          have er := Only.trans er ew309
          have zw309 := ew309.size
          have hiyw309_0 := fw309_0.is
          obtain ⟨ryw309_0_0, rfl, _⟩ := cells_Procs hiyw309_0
          refine ⟨ryw309_0_0, _, _, _, rfl, ?_⟩
          refine ⟨?_, ?_⟩
          ·
           refine set_step hbw296 (by simp) (fun w314 ow314 hbw296q nw314 => ?_)
           have hbw1 := hbw1.only ow314 (by omega)
           have hbw2 := hbw2.only ow314 (by omega)
           have hbw10 := hbw10.only ow314 (by omega)
           have hc1w10 := hc1w10.only ow314 (by omega)
           have hbw15 := hbw15.only ow314 (by omega)
           have hbw20 := hbw20.only ow314 (by omega)
           have hc1w20 := hc1w20.only ow314 (by omega)
           have hbw290 := hbw290.only ow314 (by omega)
           have fw10 := fw10.only ow314 (fun k h1 h2 => by omega)
           have fw34 := fw34.only ow314 (fun k h1 h2 => by omega)
           have fw42 := fw42.only ow314 (fun k h1 h2 => by omega)
           have fw53 := fw53.only ow314 (fun k h1 h2 => by omega)
           have fw284 := fw284.only ow314 (fun k h1 h2 => by omega)
           have fw303 := fw303.only ow314 (fun k h1 h2 => by omega)
           have fw309_0 := fw309_0.only ow314 (fun k h1 h2 => by omega)
           have e := Ext.own e ow314 (fun k hk => by omega)
           have er := Ext.own er ow314 (fun k hk => by omega)
           have hbw296 := hbw296q
           refine ⟨?_, ?_⟩
           ·
            refine put_step hbw290 rfl rfl (fun w315 ow315 hbw290q nw315 => ?_)
            have hbw1 := hbw1.only ow315 (by omega)
            have hbw2 := hbw2.only ow315 (by omega)
            have hbw10 := hbw10.only ow315 (by omega)
            have hc1w10 := hc1w10.only ow315 (by omega)
            have hbw15 := hbw15.only ow315 (by omega)
            have hbw20 := hbw20.only ow315 (by omega)
            have hc1w20 := hc1w20.only ow315 (by omega)
            have hbw296 := hbw296.only ow315 (by omega)
            have fw10 := fw10.only ow315 (fun k h1 h2 => by omega)
            have fw34 := fw34.only ow315 (fun k h1 h2 => by omega)
            have fw42 := fw42.only ow315 (fun k h1 h2 => by omega)
            have fw53 := fw53.only ow315 (fun k h1 h2 => by omega)
            have fw284 := fw284.only ow315 (fun k h1 h2 => by omega)
            have fw303 := fw303.only ow315 (fun k h1 h2 => by omega)
            have fw309_0 := fw309_0.only ow315 (fun k h1 h2 => by omega)
            have e := Ext.own e ow315 (fun k hk => by omega)
            have er := Ext.own er ow315 (fun k hk => by omega)
            have hbw290 := hbw290q
            have hbl := hbw296.lt
            have hcl1 := hbw290.lt
            exact ⟨_, _, _, _, _, rfl, rfl, by omega, by omega, by omega, by omega, hbl, by omega, hcl1, by omega, by omega, hbw290, hbw296, fw309_0, er⟩
           ·
            trivial
          ·
           trivial
         ·
          trivial
        ·
         trivial
       ·
        trivial
     ·
      trivial
  ·
   refine ⟨?_, ?_⟩
   ·
    refine alloc_step (fun w189 ew189 hbw189 nw189 => ?_)
    have hbw1 := hbw1.ext ew189
    have hbw2 := hbw2.ext ew189
    have hbw10 := hbw10.ext ew189
    have hc1w10 := hc1w10.ext ew189
    have hbw15 := hbw15.ext ew189
    have hbw20 := hbw20.ext ew189
    have hc1w20 := hc1w20.ext ew189
    have fw10 := fw10.ext ew189
    have fw34 := fw34.ext ew189
    have fw42 := fw42.ext ew189
    have fw53 := fw53.ext ew189
    have e := Only.trans e ew189
    have er := Only.trans er ew189
    have zw189 := ew189.size
    refine ⟨⟨_, hbw2.cell 0, _, hbw2.cell 1, _, hbw2.cell 2, _, hbw2.cell 3, rfl⟩, ?_⟩
    refine ⟨⟨p0_0, hbw1.cell 0, rfl⟩, ?_⟩
    refine ⟨?_, ?_⟩
    ·
     refine (c49 (DProcs.has _) (IsD.ext e _ _ h0) (by have := sz0; omega)).mono ?_
     rintro _ w223 ⟨yw223, rfl, fw223, ew223⟩
     have hbw1 := hbw1.ext ew223
     have hbw2 := hbw2.ext ew223
     have hbw10 := hbw10.ext ew223
     have hc1w10 := hc1w10.ext ew223
     have hbw15 := hbw15.ext ew223
     have hbw20 := hbw20.ext ew223
     have hc1w20 := hc1w20.ext ew223
     have hbw189 := hbw189.ext ew223
     have fw10 := fw10.ext ew223
     have fw34 := fw34.ext ew223
     have fw42 := fw42.ext ew223
     have fw53 := fw53.ext ew223
     have e := Only.trans e ew223
     have er := Only.trans er ew223
     have zw223 := ew223.size
     have hiyw223 := fw223.is
     obtain ⟨ryw223_0, rfl, _⟩ := cells_Procs hiyw223
     refine ⟨ryw223_0, rfl, ?_⟩
     refine ⟨⟨_, hbw2.cell 0, _, hbw2.cell 1, _, hbw2.cell 2, _, hbw2.cell 3, rfl⟩, ?_⟩
     refine ⟨?_, ?_⟩
     ·
      refine (c50 (DProcOp.has _) (IsD.ext e _ _ h1) (by have := pop_sz op; omega)).mono ?_
      rintro _ w250 ⟨yw250, rfl, fw250, ew250⟩
      have hbw1 := hbw1.ext ew250
      have hbw2 := hbw2.ext ew250
      have hbw10 := hbw10.ext ew250
      have hc1w10 := hc1w10.ext ew250
      have hbw15 := hbw15.ext ew250
      have hbw20 := hbw20.ext ew250
      have hc1w20 := hc1w20.ext ew250
      have hbw189 := hbw189.ext ew250
      have fw10 := fw10.ext ew250
      have fw34 := fw34.ext ew250
      have fw42 := fw42.ext ew250
      have fw53 := fw53.ext ew250
      have fw223 := fw223.ext ew250
      have e := Only.trans e ew250
      have er := Only.trans er ew250
      have zw250 := ew250.size
      have hiyw250 := fw250.is
      obtain ⟨rfl, _, _, _, _⟩ := cells_ProcOp hiyw250
      refine ⟨_, _, _, _, rfl, ?_⟩
      refine ⟨?_, ?_⟩
      ·
       refine (implProcStep fw223.is sz0 fw250.is).mono ?_
       rintro _ w270 ⟨yw270_0, rfl, fw270_0, ew270⟩
       have hbw1 := hbw1.ext ew270
       have hbw2 := hbw2.ext ew270
       have hbw10 := hbw10.ext ew270
       have hc1w10 := hc1w10.ext ew270
       have hbw15 := hbw15.ext ew270
       have hbw20 := hbw20.ext ew270
       have hc1w20 := hc1w20.ext ew270
       have hbw189 := hbw189.ext ew270
       have fw10 := fw10.ext ew270
       have fw34 := fw34.ext ew270
       have fw42 := fw42.ext ew270
       have fw53 := fw53.ext ew270
       have fw223 := fw223.ext ew270
       have fw250 := fw250.ext ew270
       have e := Only.trans e ew270
       have er := Only.trans er ew270
       have zw270 := ew270.size
       have hiyw270_0 := fw270_0.is
       obtain ⟨ryw270_0_0, rfl, _⟩ := cells_Procs hiyw270_0
       refine ⟨ryw270_0_0, _, _, _, rfl, ?_⟩
       refine ⟨?_, ?_⟩
       ·
        refine alloc_step (fun w275 ew275 hbw275 nw275 => ?_)
        have hbw1 := hbw1.ext ew275
        have hbw2 := hbw2.ext ew275
        have hbw10 := hbw10.ext ew275
        have hc1w10 := hc1w10.ext ew275
        have hbw15 := hbw15.ext ew275
        have hbw20 := hbw20.ext ew275
        have hc1w20 := hc1w20.ext ew275
        have hbw189 := hbw189.ext ew275
        have fw10 := fw10.ext ew275
        have fw34 := fw34.ext ew275
        have fw42 := fw42.ext ew275
        have fw53 := fw53.ext ew275
        have fw223 := fw223.ext ew275
        have fw250 := fw250.ext ew275
        have fw270_0 := fw270_0.ext ew275
        have e := Only.trans e ew275
        have er := Only.trans er ew275
        have zw275 := ew275.size
        refine ⟨⟨_, hbw2.cell 0, _, hbw2.cell 1, _, hbw2.cell 2, _, hbw2.cell 3, rfl⟩, ?_⟩
        refine ⟨⟨p0_0, hbw1.cell 0, rfl⟩, ?_⟩
        refine ⟨?_, ?_⟩
        ·
         refine set_step hbw189 (by simp) (fun w281 ow281 hbw189q nw281 => ?_)
         have hbw1 := hbw1.only ow281 (by omega)
         have hbw2 := hbw2.only ow281 (by omega)
         have hbw10 := hbw10.only ow281 (by omega)
         have hc1w10 := hc1w10.only ow281 (by omega)
         have hbw15 := hbw15.only ow281 (by omega)
         have hbw20 := hbw20.only ow281 (by omega)
         have hc1w20 := hc1w20.only ow281 (by omega)
         have hbw275 := hbw275.only ow281 (by omega)
         have fw10 := fw10.only ow281 (fun k h1 h2 => by omega)
         have fw34 := fw34.only ow281 (fun k h1 h2 => by omega)
         have fw42 := fw42.only ow281 (fun k h1 h2 => by omega)
         have fw53 := fw53.only ow281 (fun k h1 h2 => by omega)
         have fw223 := fw223.only ow281 (fun k h1 h2 => by omega)
         have fw250 := fw250.only ow281 (fun k h1 h2 => by omega)
         have fw270_0 := fw270_0.only ow281 (fun k h1 h2 => by omega)
         have e := Ext.own e ow281 (fun k hk => by omega)
         have er := Ext.own er ow281 (fun k hk => by omega)
         have hbw189 := hbw189q
         refine ⟨?_, ?_⟩
         ·
          refine put_step hbw275 rfl rfl (fun w282 ow282 hbw275q nw282 => ?_)
          have hbw1 := hbw1.only ow282 (by omega)
          have hbw2 := hbw2.only ow282 (by omega)
          have hbw10 := hbw10.only ow282 (by omega)
          have hc1w10 := hc1w10.only ow282 (by omega)
          have hbw15 := hbw15.only ow282 (by omega)
          have hbw20 := hbw20.only ow282 (by omega)
          have hc1w20 := hc1w20.only ow282 (by omega)
          have hbw189 := hbw189.only ow282 (by omega)
          have fw10 := fw10.only ow282 (fun k h1 h2 => by omega)
          have fw34 := fw34.only ow282 (fun k h1 h2 => by omega)
          have fw42 := fw42.only ow282 (fun k h1 h2 => by omega)
          have fw53 := fw53.only ow282 (fun k h1 h2 => by omega)
          have fw223 := fw223.only ow282 (fun k h1 h2 => by omega)
          have fw250 := fw250.only ow282 (fun k h1 h2 => by omega)
          have fw270_0 := fw270_0.only ow282 (fun k h1 h2 => by omega)
          have e := Ext.own e ow282 (fun k hk => by omega)
          have er := Ext.own er ow282 (fun k hk => by omega)
          have hbw275 := hbw275q
          have hbl := hbw189.lt
          have hcl1 := hbw275.lt
          exact ⟨_, _, _, _, _, rfl, rfl, by omega, by omega, by omega, by omega, hbl, by omega, hcl1, by omega, by omega, hbw275, hbw189, fw270_0, er⟩
         ·
          trivial
        ·
         trivial
       ·
        trivial
      ·
       refine ⟨?_, ?_⟩
       ·
        refine alloc_step (fun w255 ew255 hbw255 nw255 => ?_)
        have hbw1 := hbw1.ext ew255
        have hbw2 := hbw2.ext ew255
        have hbw10 := hbw10.ext ew255
        have hc1w10 := hc1w10.ext ew255
        have hbw15 := hbw15.ext ew255
        have hbw20 := hbw20.ext ew255
        have hc1w20 := hc1w20.ext ew255
        have hbw189 := hbw189.ext ew255
        have fw10 := fw10.ext ew255
        have fw34 := fw34.ext ew255
        have fw42 := fw42.ext ew255
        have fw53 := fw53.ext ew255
        have fw223 := fw223.ext ew255
        have fw250 := fw250.ext ew255
        have e := Only.trans e ew255
        have er := Only.trans er ew255
        have zw255 := ew255.size
        refine ⟨⟨_, hbw2.cell 0, _, hbw2.cell 1, _, hbw2.cell 2, _, hbw2.cell 3, rfl⟩, ?_⟩
        refine ⟨⟨p0_0, hbw1.cell 0, rfl⟩, ?_⟩
        refine ⟨?_, ?_⟩
        ·
         refine (implProcStep fw223.is sz0 fw250.is).mono ?_
         rintro _ w262 ⟨yw262_0, rfl, fw262_0, ew262⟩
         have hbw1 := hbw1.ext ew262
         have hbw2 := hbw2.ext ew262
         have hbw10 := hbw10.ext ew262
         have hc1w10 := hc1w10.ext ew262
         have hbw15 := hbw15.ext ew262
         have hbw20 := hbw20.ext ew262
         have hc1w20 := hc1w20.ext ew262
         have hbw189 := hbw189.ext ew262
         have hbw255 := hbw255.ext ew262
         have fw10 := fw10.ext ew262
         have fw34 := fw34.ext ew262
         have fw42 := fw42.ext ew262
         have fw53 := fw53.ext ew262
         have fw223 := fw223.ext ew262
         have fw250 := fw250.ext ew262
         have e := Only.trans e ew262
         have er := Only.trans er ew262
         have zw262 := ew262.size
         have hiyw262_0 := fw262_0.is
         obtain ⟨ryw262_0_0, rfl, _⟩ := cells_Procs hiyw262_0
         refine ⟨ryw262_0_0, _, _, _, rfl, ?_⟩
         refine ⟨?_, ?_⟩
         ·
          refine set_step hbw189 (by simp) (fun w267 ow267 hbw189q nw267 => ?_)
          have hbw1 := hbw1.only ow267 (by omega)
          have hbw2 := hbw2.only ow267 (by omega)
          have hbw10 := hbw10.only ow267 (by omega)
          have hc1w10 := hc1w10.only ow267 (by omega)
          have hbw15 := hbw15.only ow267 (by omega)
          have hbw20 := hbw20.only ow267 (by omega)
          have hc1w20 := hc1w20.only ow267 (by omega)
          have hbw255 := hbw255.only ow267 (by omega)
          have fw10 := fw10.only ow267 (fun k h1 h2 => by omega)
          have fw34 := fw34.only ow267 (fun k h1 h2 => by omega)
          have fw42 := fw42.only ow267 (fun k h1 h2 => by omega)
          have fw53 := fw53.only ow267 (fun k h1 h2 => by omega)
          have fw223 := fw223.only ow267 (fun k h1 h2 => by omega)
          have fw250 := fw250.only ow267 (fun k h1 h2 => by omega)
          have fw262_0 := fw262_0.only ow267 (fun k h1 h2 => by omega)
          have e := Ext.own e ow267 (fun k hk => by omega)
          have er := Ext.own er ow267 (fun k hk => by omega)
          have hbw189 := hbw189q
          refine ⟨?_, ?_⟩
          ·
           refine put_step hbw255 rfl rfl (fun w268 ow268 hbw255q nw268 => ?_)
           have hbw1 := hbw1.only ow268 (by omega)
           have hbw2 := hbw2.only ow268 (by omega)
           have hbw10 := hbw10.only ow268 (by omega)
           have hc1w10 := hc1w10.only ow268 (by omega)
           have hbw15 := hbw15.only ow268 (by omega)
           have hbw20 := hbw20.only ow268 (by omega)
           have hc1w20 := hc1w20.only ow268 (by omega)
           have hbw189 := hbw189.only ow268 (by omega)
           have fw10 := fw10.only ow268 (fun k h1 h2 => by omega)
           have fw34 := fw34.only ow268 (fun k h1 h2 => by omega)
           have fw42 := fw42.only ow268 (fun k h1 h2 => by omega)
           have fw53 := fw53.only ow268 (fun k h1 h2 => by omega)
           have fw223 := fw223.only ow268 (fun k h1 h2 => by omega)
           have fw250 := fw250.only ow268 (fun k h1 h2 => by omega)
           have fw262_0 := fw262_0.only ow268 (fun k h1 h2 => by omega)
           have e := Ext.own e ow268 (fun k hk => by omega)
           have er := Ext.own er ow268 (fun k hk => by omega)
           have hbw255 := hbw255q
           have hbl := hbw189.lt
           have hcl1 := hbw255.lt
           exact ⟨_, _, _, _, _, rfl, rfl, by omega, by omega, by omega, by omega, hbl, by omega, hcl1, by omega, by omega, hbw255, hbw189, fw262_0, er⟩
          ·
           trivial
         ·
          trivial
        ·
         trivial
       ·
        trivial
     ·
      refine ⟨?_, ?_⟩
      ·
       refine alloc_step (fun w229 ew229 hbw229 nw229 => ?_)
       have hbw1 := hbw1.ext ew229
       have hbw2 := hbw2.ext ew229
       have hbw10 := hbw10.ext ew229
       have hc1w10 := hc1w10.ext ew229
       have hbw15 := hbw15.ext ew229
       have hbw20 := hbw20.ext ew229
       have hc1w20 := hc1w20.ext ew229
       have hbw189 := hbw189.ext ew229
       have fw10 := fw10.ext ew229
       have fw34 := fw34.ext ew229
       have fw42 := fw42.ext ew229
       have fw53 := fw53.ext ew229
       have fw223 := fw223.ext ew229
       have e := Only.trans e ew229
       have er := Only.trans er ew229
       have zw229 := ew229.size
       refine ⟨⟨_, hbw2.cell 0, _, hbw2.cell 1, _, hbw2.cell 2, _, hbw2.cell 3, rfl⟩, ?_⟩
       refine ⟨⟨p0_0, hbw1.cell 0, rfl⟩, ?_⟩
       refine ⟨?_, ?_⟩
       ·
        refine (c50 (DProcOp.has _) (IsD.ext e _ _ h1) (by have := pop_sz op; omega)).mono ?_
        rintro _ w236 ⟨yw236, rfl, fw236, ew236⟩
        have hbw1 := hbw1.ext ew236
        have hbw2 := hbw2.ext ew236
        have hbw10 := hbw10.ext ew236
        have hc1w10 := hc1w10.ext ew236
        have hbw15 := hbw15.ext ew236
        have hbw20 := hbw20.ext ew236
        have hc1w20 := hc1w20.ext ew236
        have hbw189 := hbw189.ext ew236
        have hbw229 := hbw229.ext ew236
        have fw10 := fw10.ext ew236
        have fw34 := fw34.ext ew236
        have fw42 := fw42.ext ew236
        have fw53 := fw53.ext ew236
        have fw223 := fw223.ext ew236
        have e := Only.trans e ew236
        have er := Only.trans er ew236
        have zw236 := ew236.size
        have hiyw236 := fw236.is
        obtain ⟨rfl, _, _, _, _⟩ := cells_ProcOp hiyw236
        refine ⟨_, _, _, _, rfl, ?_⟩
        refine ⟨?_, ?_⟩
        ·
         refine (implProcStep fw223.is sz0 fw236.is).mono ?_
         rintro _ w242 ⟨yw242_0, rfl, fw242_0, ew242⟩
         have hbw1 := hbw1.ext ew242
         have hbw2 := hbw2.ext ew242
         have hbw10 := hbw10.ext ew242
         have hc1w10 := hc1w10.ext ew242
         have hbw15 := hbw15.ext ew242
         have hbw20 := hbw20.ext ew242
         have hc1w20 := hc1w20.ext ew242
         have hbw189 := hbw189.ext ew242
         have hbw229 := hbw229.ext ew242
         have fw10 := fw10.ext ew242
         have fw34 := fw34.ext ew242
         have fw42 := fw42.ext ew242
         have fw53 := fw53.ext ew242
         have fw223 := fw223.ext ew242
         have fw236 := fw236.ext ew242
         have e := Only.trans e ew242
         have er := Only.trans er ew242
         have zw242 := ew242.size
         have hiyw242_0 := fw242_0.is
         obtain ⟨ryw242_0_0, rfl, _⟩ := cells_Procs hiyw242_0
         refine ⟨ryw242_0_0, _, _, _, rfl, ?_⟩
         refine ⟨?_, ?_⟩
         ·
          refine set_step hbw189 (by simp) (fun w247 ow247 hbw189q nw247 => ?_)
          have hbw1 := hbw1.only ow247 (by omega)
          have hbw2 := hbw2.only ow247 (by omega)
          have hbw10 := hbw10.only ow247 (by omega)
          have hc1w10 := hc1w10.only ow247 (by omega)
          have hbw15 := hbw15.only ow247 (by omega)
          have hbw20 := hbw20.only ow247 (by omega)
          have hc1w20 := hc1w20.only ow247 (by omega)
          have hbw229 := hbw229.only ow247 (by omega)
          have fw10 := fw10.only ow247 (fun k h1 h2 => by omega)
          have fw34 := fw34.only ow247 (fun k h1 h2 => by omega)
          have fw42 := fw42.only ow247 (fun k h1 h2 => by omega)
          have fw53 := fw53.only ow247 (fun k h1 h2 => by omega)
          have fw223 := fw223.only ow247 (fun k h1 h2 => by omega)
          have fw236 := fw236.only ow247 (fun k h1 h2 => by omega)
          have fw242_0 := fw242_0.only ow247 (fun k h1 h2 => by omega)
          have e := Ext.own e ow247 (fun k hk => by omega)
          have er := Ext.own er ow247 (fun k hk => by omega)
          have hbw189 := hbw189q
          refine ⟨?_, ?_⟩
          ·
           refine put_step hbw229 rfl rfl (fun w248 ow248 hbw229q nw248 => ?_)
           have hbw1 := hbw1.only ow248 (by omega)
           have hbw2 := hbw2.only ow248 (by omega)
           have hbw10 := hbw10.only ow248 (by omega)
           have hc1w10 := hc1w10.only ow248 (by omega)
           have hbw15 := hbw15.only ow248 (by omega)
           have hbw20 := hbw20.only ow248 (by omega)
           have hc1w20 := hc1w20.only ow248 (by omega)
           have hbw189 := hbw189.only ow248 (by omega)
           have fw10 := fw10.only ow248 (fun k h1 h2 => by omega)
           have fw34 := fw34.only ow248 (fun k h1 h2 => by omega)
           have fw42 := fw42.only ow248 (fun k h1 h2 => by omega)
           have fw53 := fw53.only ow248 (fun k h1 h2 => by omega)
           have fw223 := fw223.only ow248 (fun k h1 h2 => by omega)
           have fw236 := fw236.only ow248 (fun k h1 h2 => by omega)
           have fw242_0 := fw242_0.only ow248 (fun k h1 h2 => by omega)
           have e := Ext.own e ow248 (fun k hk => by omega)
           have er := Ext.own er ow248 (fun k hk => by omega)
           have hbw229 := hbw229q
           have hbl := hbw189.lt
           have hcl1 := hbw229.lt
           exact ⟨_, _, _, _, _, rfl, rfl, by omega, by omega, by omega, by omega, hbl, by omega, hcl1, by omega, by omega, hbw229, hbw189, fw242_0, er⟩
          ·
           trivial
         ·
          trivial
        ·
         trivial
       ·
        trivial
      ·
       trivial
    ·
     refine ⟨?_, ?_⟩
     ·
      refine alloc_step (fun w195 ew195 hbw195 nw195 => ?_)
      have hbw1 := hbw1.ext ew195
      have hbw2 := hbw2.ext ew195
      have hbw10 := hbw10.ext ew195
      have hc1w10 := hc1w10.ext ew195
      have hbw15 := hbw15.ext ew195
      have hbw20 := hbw20.ext ew195
      have hc1w20 := hc1w20.ext ew195
      have hbw189 := hbw189.ext ew195
      have fw10 := fw10.ext ew195
      have fw34 := fw34.ext ew195
      have fw42 := fw42.ext ew195
      have fw53 := fw53.ext ew195
      have e := Only.trans e ew195
      have er := Only.trans er ew195
      have zw195 := ew195.size
      refine ⟨⟨_, hbw2.cell 0, _, hbw2.cell 1, _, hbw2.cell 2, _, hbw2.cell 3, rfl⟩, ?_⟩
      refine ⟨⟨p0_0, hbw1.cell 0, rfl⟩, ?_⟩
      refine ⟨?_, ?_⟩
      ·
       refine (c49 (DProcs.has _) (IsD.ext e _ _ h0) (by have := sz0; omega)).mono ?_
       rintro _ w202 ⟨yw202, rfl, fw202, ew202⟩
       have hbw1 := hbw1.ext ew202
       have hbw2 := hbw2.ext ew202
       have hbw10 := hbw10.ext ew202
       have hc1w10 := hc1w10.ext ew202
       have hbw15 := hbw15.ext ew202
       have hbw20 := hbw20.ext ew202
       have hc1w20 := hc1w20.ext ew202
       have hbw189 := hbw189.ext ew202
       have hbw195 := hbw195.ext ew202
       have fw10 := fw10.ext ew202
       have fw34 := fw34.ext ew202
       have fw42 := fw42.ext ew202
       have fw53 := fw53.ext ew202
       have e := Only.trans e ew202
       have er := Only.trans er ew202
       have zw202 := ew202.size
       have hiyw202 := fw202.is
       obtain ⟨ryw202_0, rfl, _⟩ := cells_Procs hiyw202
       refine ⟨ryw202_0, rfl, ?_⟩
       refine ⟨⟨_, hbw2.cell 0, _, hbw2.cell 1, _, hbw2.cell 2, _, hbw2.cell 3, rfl⟩, ?_⟩
       refine ⟨?_, ?_⟩
       ·
        refine (c50 (DProcOp.has _) (IsD.ext e _ _ h1) (by have := pop_sz op; omega)).mono ?_
        rintro _ w209 ⟨yw209, rfl, fw209, ew209⟩
        have hbw1 := hbw1.ext ew209
        have hbw2 := hbw2.ext ew209
        have hbw10 := hbw10.ext ew209
        have hc1w10 := hc1w10.ext ew209
        have hbw15 := hbw15.ext ew209
        have hbw20 := hbw20.ext ew209
        have hc1w20 := hc1w20.ext ew209
        have hbw189 := hbw189.ext ew209
        have hbw195 := hbw195.ext ew209
        have fw10 := fw10.ext ew209
        have fw34 := fw34.ext ew209
        have fw42 := fw42.ext ew209
        have fw53 := fw53.ext ew209
        have fw202 := fw202.ext ew209
        have e := Only.trans e ew209
        have er := Only.trans er ew209
        have zw209 := ew209.size
        have hiyw209 := fw209.is
        obtain ⟨rfl, _, _, _, _⟩ := cells_ProcOp hiyw209
        refine ⟨_, _, _, _, rfl, ?_⟩
        refine ⟨?_, ?_⟩
        ·
         refine (implProcStep fw202.is sz0 fw209.is).mono ?_
         rintro _ w215 ⟨yw215_0, rfl, fw215_0, ew215⟩
         have hbw1 := hbw1.ext ew215
         have hbw2 := hbw2.ext ew215
         have hbw10 := hbw10.ext ew215
         have hc1w10 := hc1w10.ext ew215
         have hbw15 := hbw15.ext ew215
         have hbw20 := hbw20.ext ew215
         have hc1w20 := hc1w20.ext ew215
         have hbw189 := hbw189.ext ew215
         have hbw195 := hbw195.ext ew215
         have fw10 := fw10.ext ew215
         have fw34 := fw34.ext ew215
         have fw42 := fw42.ext ew215
         have fw53 := fw53.ext ew215
         have fw202 := fw202.ext ew215
         have fw209 := fw209.ext ew215
         have e := Only.trans e ew215
         have er := Only.trans er ew215
         have zw215 := ew215.size
         have hiyw215_0 := fw215_0.is
         obtain ⟨ryw215_0_0, rfl, _⟩ := cells_Procs hiyw215_0
         refine ⟨ryw215_0_0, _, _, _, rfl, ?_⟩
         refine ⟨?_, ?_⟩
         ·
          refine set_step hbw189 (by simp) (fun w220 ow220 hbw189q nw220 => ?_)
          have hbw1 := hbw1.only ow220 (by omega)
          have hbw2 := hbw2.only ow220 (by omega)
          have hbw10 := hbw10.only ow220 (by omega)
          have hc1w10 := hc1w10.only ow220 (by omega)
          have hbw15 := hbw15.only ow220 (by omega)
          have hbw20 := hbw20.only ow220 (by omega)
          have hc1w20 := hc1w20.only ow220 (by omega)
          have hbw195 := hbw195.only ow220 (by omega)
          have fw10 := fw10.only ow220 (fun k h1 h2 => by omega)
          have fw34 := fw34.only ow220 (fun k h1 h2 => by omega)
          have fw42 := fw42.only ow220 (fun k h1 h2 => by omega)
          have fw53 := fw53.only ow220 (fun k h1 h2 => by omega)
          have fw202 := fw202.only ow220 (fun k h1 h2 => by omega)
          have fw209 := fw209.only ow220 (fun k h1 h2 => by omega)
          have fw215_0 := fw215_0.only ow220 (fun k h1 h2 => by omega)
          have e := Ext.own e ow220 (fun k hk => by omega)
          have er := Ext.own er ow220 (fun k hk => by omega)
          have hbw189 := hbw189q
          refine ⟨?_, ?_⟩
          ·
           refine put_step hbw195 rfl rfl (fun w221 ow221 hbw195q nw221 => ?_)
           have hbw1 := hbw1.only ow221 (by omega)
           have hbw2 := hbw2.only ow221 (by omega)
           have hbw10 := hbw10.only ow221 (by omega)
           have hc1w10 := hc1w10.only ow221 (by omega)
           have hbw15 := hbw15.only ow221 (by omega)
           have hbw20 := hbw20.only ow221 (by omega)
           have hc1w20 := hc1w20.only ow221 (by omega)
           have hbw189 := hbw189.only ow221 (by omega)
           have fw10 := fw10.only ow221 (fun k h1 h2 => by omega)
           have fw34 := fw34.only ow221 (fun k h1 h2 => by omega)
           have fw42 := fw42.only ow221 (fun k h1 h2 => by omega)
           have fw53 := fw53.only ow221 (fun k h1 h2 => by omega)
           have fw202 := fw202.only ow221 (fun k h1 h2 => by omega)
           have fw209 := fw209.only ow221 (fun k h1 h2 => by omega)
           have fw215_0 := fw215_0.only ow221 (fun k h1 h2 => by omega)
           have e := Ext.own e ow221 (fun k hk => by omega)
           have er := Ext.own er ow221 (fun k hk => by omega)
           have hbw195 := hbw195q
           have hbl := hbw189.lt
           have hcl1 := hbw195.lt
           exact ⟨_, _, _, _, _, rfl, rfl, by omega, by omega, by omega, by omega, hbl, by omega, hcl1, by omega, by omega, hbw195, hbw189, fw215_0, er⟩
          ·
           trivial
         ·
          trivial
        ·
         trivial
       ·
        trivial
      ·
       trivial
     ·
      trivial
   ·
    refine ⟨?_, ?_⟩
    ·
     refine alloc_step (fun w95 ew95 hbw95 nw95 => ?_)
     have hbw1 := hbw1.ext ew95
     have hbw2 := hbw2.ext ew95
     have hbw10 := hbw10.ext ew95
     have hc1w10 := hc1w10.ext ew95
     have hbw15 := hbw15.ext ew95
     have hbw20 := hbw20.ext ew95
     have hc1w20 := hc1w20.ext ew95
     have fw10 := fw10.ext ew95
     have fw34 := fw34.ext ew95
     have fw42 := fw42.ext ew95
     have fw53 := fw53.ext ew95
     have e := Only.trans e ew95
     have er := Only.trans er ew95
     have zw95 := ew95.size
     refine ⟨⟨_, hbw2.cell 0, _, hbw2.cell 1, _, hbw2.cell 2, _, hbw2.cell 3, rfl⟩, ?_⟩
     refine ⟨⟨p0_0, hbw1.cell 0, rfl⟩, ?_⟩
     refine ⟨?_, ?_⟩
     ·
      refine (c49 (DProcs.has _) (IsD.ext e _ _ h0) (by have := sz0; omega)).mono ?_
      rintro _ w129 ⟨yw129, rfl, fw129, ew129⟩
      have hbw1 := hbw1.ext ew129
      have hbw2 := hbw2.ext ew129
      have hbw10 := hbw10.ext ew129
      have hc1w10 := hc1w10.ext ew129
      have hbw15 := hbw15.ext ew129
      have hbw20 := hbw20.ext ew129
      have hc1w20 := hc1w20.ext ew129
      have hbw95 := hbw95.ext ew129
      have fw10 := fw10.ext ew129
      have fw34 := fw34.ext ew129
      have fw42 := fw42.ext ew129
      have fw53 := fw53.ext ew129
      have e := Only.trans e ew129
      have er := Only.trans er ew129
      have zw129 := ew129.size
      have hiyw129 := fw129.is
      obtain ⟨ryw129_0, rfl, _⟩ := cells_Procs hiyw129
      refine ⟨ryw129_0, rfl, ?_⟩
      refine ⟨⟨_, hbw2.cell 0, _, hbw2.cell 1, _, hbw2.cell 2, _, hbw2.cell 3, rfl⟩, ?_⟩
      refine ⟨?_, ?_⟩
      ·
       refine (c50 (DProcOp.has _) (IsD.ext e _ _ h1) (by have := pop_sz op; omega)).mono ?_
       rintro _ w156 ⟨yw156, rfl, fw156, ew156⟩
       have hbw1 := hbw1.ext ew156
       have hbw2 := hbw2.ext ew156
       have hbw10 := hbw10.ext ew156
       have hc1w10 := hc1w10.ext ew156
       have hbw15 := hbw15.ext ew156
       have hbw20 := hbw20.ext ew156
       have hc1w20 := hc1w20.ext ew156
       have hbw95 := hbw95.ext ew156
       have fw10 := fw10.ext ew156
       have fw34 := fw34.ext ew156
       have fw42 := fw42.ext ew156
       have fw53 := fw53.ext ew156
       have fw129 := fw129.ext ew156
       have e := Only.trans e ew156
       have er := Only.trans er ew156
       have zw156 := ew156.size
       have hiyw156 := fw156.is
       obtain ⟨rfl, _, _, _, _⟩ := cells_ProcOp hiyw156
       refine ⟨_, _, _, _, rfl, ?_⟩
       refine ⟨?_, ?_⟩
       ·
        refine (implProcStep fw129.is sz0 fw156.is).mono ?_
        rintro _ w176 ⟨yw176_0, rfl, fw176_0, ew176⟩
        have hbw1 := hbw1.ext ew176
        have hbw2 := hbw2.ext ew176
        have hbw10 := hbw10.ext ew176
        have hc1w10 := hc1w10.ext ew176
        have hbw15 := hbw15.ext ew176
        have hbw20 := hbw20.ext ew176
        have hc1w20 := hc1w20.ext ew176
        have hbw95 := hbw95.ext ew176
        have fw10 := fw10.ext ew176
        have fw34 := fw34.ext ew176
        have fw42 := fw42.ext ew176
        have fw53 := fw53.ext ew176
        have fw129 := fw129.ext ew176
        have fw156 := fw156.ext ew176
        have e := Only.trans e ew176
        have er := Only.trans er ew176
        have zw176 := ew176.size
        have hiyw176_0 := fw176_0.is
        obtain ⟨ryw176_0_0, rfl, _⟩ := cells_Procs hiyw176_0
        refine ⟨ryw176_0_0, _, _, _, rfl, ?_⟩
        refine ⟨?_, ?_⟩
        ·
         refine alloc_step (fun w181 ew181 hbw181 nw181 => ?_)
         have hbw1 := hbw1.ext ew181
         have hbw2 := hbw2.ext ew181
         have hbw10 := hbw10.ext ew181
         have hc1w10 := hc1w10.ext ew181
         have hbw15 := hbw15.ext ew181
         have hbw20 := hbw20.ext ew181
         have hc1w20 := hc1w20.ext ew181
         have hbw95 := hbw95.ext ew181
         have fw10 := fw10.ext ew181
         have fw34 := fw34.ext ew181
         have fw42 := fw42.ext ew181
         have fw53 := fw53.ext ew181
         have fw129 := fw129.ext ew181
         have fw156 := fw156.ext ew181
         have fw176_0 := fw176_0.ext ew181
         have e := Only.trans e ew181
         have er := Only.trans er ew181
         have zw181 := ew181.size
         refine ⟨⟨_, hbw2.cell 0, _, hbw2.cell 1, _, hbw2.cell 2, _, hbw2.cell 3, rfl⟩, ?_⟩
         refine ⟨⟨p0_0, hbw1.cell 0, rfl⟩, ?_⟩
         refine ⟨?_, ?_⟩
         ·
          refine set_step hbw181 (by simp) (fun w187 ow187 hbw181q nw187 => ?_)
          have hbw1 := hbw1.only ow187 (by omega)
          have hbw2 := hbw2.only ow187 (by omega)
          have hbw10 := hbw10.only ow187 (by omega)
          have hc1w10 := hc1w10.only ow187 (by omega)
          have hbw15 := hbw15.only ow187 (by omega)
          have hbw20 := hbw20.only ow187 (by omega)
          have hc1w20 := hc1w20.only ow187 (by omega)
          have hbw95 := hbw95.only ow187 (by omega)
          have fw10 := fw10.only ow187 (fun k h1 h2 => by omega)
          have fw34 := fw34.only ow187 (fun k h1 h2 => by omega)
          have fw42 := fw42.only ow187 (fun k h1 h2 => by omega)
          have fw53 := fw53.only ow187 (fun k h1 h2 => by omega)
          have fw129 := fw129.only ow187 (fun k h1 h2 => by omega)
          have fw156 := fw156.only ow187 (fun k h1 h2 => by omega)
          have fw176_0 := fw176_0.only ow187 (fun k h1 h2 => by omega)
          have e := Ext.own e ow187 (fun k hk => by omega)
          have er := Ext.own er ow187 (fun k hk => by omega)
          have hbw181 := hbw181q
          refine ⟨?_, ?_⟩
          ·
           refine put_step hbw95 rfl rfl (fun w188 ow188 hbw95q nw188 => ?_)
           have hbw1 := hbw1.only ow188 (by omega)
           have hbw2 := hbw2.only ow188 (by omega)
           have hbw10 := hbw10.only ow188 (by omega)
           have hc1w10 := hc1w10.only ow188 (by omega)
           have hbw15 := hbw15.only ow188 (by omega)
           have hbw20 := hbw20.only ow188 (by omega)
           have hc1w20 := hc1w20.only ow188 (by omega)
           have hbw181 := hbw181.only ow188 (by omega)
           have fw10 := fw10.only ow188 (fun k h1 h2 => by omega)
           have fw34 := fw34.only ow188 (fun k h1 h2 => by omega)
           have fw42 := fw42.only ow188 (fun k h1 h2 => by omega)
           have fw53 := fw53.only ow188 (fun k h1 h2 => by omega)
           have fw129 := fw129.only ow188 (fun k h1 h2 => by omega)
           have fw156 := fw156.only ow188 (fun k h1 h2 => by omega)
           have fw176_0 := fw176_0.only ow188 (fun k h1 h2 => by omega)
           have e := Ext.own e ow188 (fun k hk => by omega)
           have er := Ext.own er ow188 (fun k hk => by omega)
           have hbw95 := hbw95q
           have hbl := hbw181.lt
           have hcl1 := hbw95.lt
           exact ⟨_, _, _, _, _, rfl, rfl, by omega, by omega, by omega, by omega, hbl, by omega, hcl1, by omega, by omega, hbw95, hbw181, fw176_0, er⟩
          ·
           trivial
         ·
          trivial
        ·
         trivial
       ·
        refine ⟨?_, ?_⟩
        ·
         refine alloc_step (fun w161 ew161 hbw161 nw161 => ?_)
         have hbw1 := hbw1.ext ew161
         have hbw2 := hbw2.ext ew161
         have hbw10 := hbw10.ext ew161
         have hc1w10 := hc1w10.ext ew161
         have hbw15 := hbw15.ext ew161
         have hbw20 := hbw20.ext ew161
         have hc1w20 := hc1w20.ext ew161
         have hbw95 := hbw95.ext ew161
         have fw10 := fw10.ext ew161
         have fw34 := fw34.ext ew161
         have fw42 := fw42.ext ew161
         have fw53 := fw53.ext ew161
         have fw129 := fw129.ext ew161
         have fw156 := fw156.ext ew161
         have e := Only.trans e ew161
         have er := Only.trans er ew161
         have zw161 := ew161.size
         refine ⟨⟨_, hbw2.cell 0, _, hbw2.cell 1, _, hbw2.cell 2, _, hbw2.cell 3, rfl⟩, ?_⟩
         refine ⟨⟨p0_0, hbw1.cell 0, rfl⟩, ?_⟩
         refine ⟨?_, ?_⟩
         ·
          refine (implProcStep fw129.is sz0 fw156.is).mono ?_
          rintro _ w168 ⟨yw168_0, rfl, fw168_0, ew168⟩
          have hbw1 := hbw1.ext ew168
          have hbw2 := hbw2.ext ew168
          have hbw10 := hbw10.ext ew168
          have hc1w10 := hc1w10.ext ew168
          have hbw15 := hbw15.ext ew168
          have hbw20 := hbw20.ext ew168
          have hc1w20 := hc1w20.ext ew168
          have hbw95 := hbw95.ext ew168
          have hbw161 := hbw161.ext ew168
          have fw10 := fw10.ext ew168
          have fw34 := fw34.ext ew168
          have fw42 := fw42.ext ew168
          have fw53 := fw53.ext ew168
          have fw129 := fw129.ext ew168
          have fw156 := fw156.ext ew168
          have e := Only.trans e ew168
          have er := Only.trans er ew168
          have zw168 := ew168.size
          have hiyw168_0 := fw168_0.is
          obtain ⟨ryw168_0_0, rfl, _⟩ := cells_Procs hiyw168_0
          refine ⟨ryw168_0_0, _, _, _, rfl, ?_⟩
          refine ⟨?_, ?_⟩
          ·
           refine set_step hbw161 (by simp) (fun w173 ow173 hbw161q nw173 => ?_)
           have hbw1 := hbw1.only ow173 (by omega)
           have hbw2 := hbw2.only ow173 (by omega)
           have hbw10 := hbw10.only ow173 (by omega)
           have hc1w10 := hc1w10.only ow173 (by omega)
           have hbw15 := hbw15.only ow173 (by omega)
           have hbw20 := hbw20.only ow173 (by omega)
           have hc1w20 := hc1w20.only ow173 (by omega)
           have hbw95 := hbw95.only ow173 (by omega)
           have fw10 := fw10.only ow173 (fun k h1 h2 => by omega)
           have fw34 := fw34.only ow173 (fun k h1 h2 => by omega)
           have fw42 := fw42.only ow173 (fun k h1 h2 => by omega)
           have fw53 := fw53.only ow173 (fun k h1 h2 => by omega)
           have fw129 := fw129.only ow173 (fun k h1 h2 => by omega)
           have fw156 := fw156.only ow173 (fun k h1 h2 => by omega)
           have fw168_0 := fw168_0.only ow173 (fun k h1 h2 => by omega)
           have e := Ext.own e ow173 (fun k hk => by omega)
           have er := Ext.own er ow173 (fun k hk => by omega)
           have hbw161 := hbw161q
           refine ⟨?_, ?_⟩
           ·
            refine put_step hbw95 rfl rfl (fun w174 ow174 hbw95q nw174 => ?_)
            have hbw1 := hbw1.only ow174 (by omega)
            have hbw2 := hbw2.only ow174 (by omega)
            have hbw10 := hbw10.only ow174 (by omega)
            have hc1w10 := hc1w10.only ow174 (by omega)
            have hbw15 := hbw15.only ow174 (by omega)
            have hbw20 := hbw20.only ow174 (by omega)
            have hc1w20 := hc1w20.only ow174 (by omega)
            have hbw161 := hbw161.only ow174 (by omega)
            have fw10 := fw10.only ow174 (fun k h1 h2 => by omega)
            have fw34 := fw34.only ow174 (fun k h1 h2 => by omega)
            have fw42 := fw42.only ow174 (fun k h1 h2 => by omega)
            have fw53 := fw53.only ow174 (fun k h1 h2 => by omega)
            have fw129 := fw129.only ow174 (fun k h1 h2 => by omega)
            have fw156 := fw156.only ow174 (fun k h1 h2 => by omega)
            have fw168_0 := fw168_0.only ow174 (fun k h1 h2 => by omega)
            have e := Ext.own e ow174 (fun k hk => by omega)
            have er := Ext.own er ow174 (fun k hk => by omega)
            have hbw95 := hbw95q
            have hbl := hbw161.lt
            have hcl1 := hbw95.lt
            exact ⟨_, _, _, _, _, rfl, rfl, by omega, by omega, by omega, by omega, hbl, by omega, hcl1, by omega, by omega, hbw95, hbw161, fw168_0, er⟩
           ·
            trivial
          ·
           trivial
         ·
          trivial
        ·
         trivial
      ·
       refine ⟨?_, ?_⟩
       ·
        refine alloc_step (fun w135 ew135 hbw135 nw135 => ?_)
        have hbw1 := hbw1.ext ew135
        have hbw2 := hbw2.ext ew135
        have hbw10 := hbw10.ext ew135
        have hc1w10 := hc1w10.ext ew135
        have hbw15 := hbw15.ext ew135
        have hbw20 := hbw20.ext ew135
        have hc1w20 := hc1w20.ext ew135
        have hbw95 := hbw95.ext ew135
        have fw10 := fw10.ext ew135
        have fw34 := fw34.ext ew135
        have fw42 := fw42.ext ew135
        have fw53 := fw53.ext ew135
        have fw129 := fw129.ext ew135
        have e := Only.trans e ew135
        have er := Only.trans er ew135
        have zw135 := ew135.size
        refine ⟨⟨_, hbw2.cell 0, _, hbw2.cell 1, _, hbw2.cell 2, _, hbw2.cell 3, rfl⟩, ?_⟩
        refine ⟨⟨p0_0, hbw1.cell 0, rfl⟩, ?_⟩
        refine ⟨?_, ?_⟩
        ·
         refine (c50 (DProcOp.has _) (IsD.ext e _ _ h1) (by have := pop_sz op; omega)).mono ?_
         rintro _ w142 ⟨yw142, rfl, fw142, ew142⟩
         have hbw1 := hbw1.ext ew142
         have hbw2 := hbw2.ext ew142
         have hbw10 := hbw10.ext ew142
         have hc1w10 := hc1w10.ext ew142
         have hbw15 := hbw15.ext ew142
         have hbw20 := hbw20.ext ew142
         have hc1w20 := hc1w20.ext ew142
         have hbw95 := hbw95.ext ew142
         have hbw135 := hbw135.ext ew142
         have fw10 := fw10.ext ew142
         have fw34 := fw34.ext ew142
         have fw42 := fw42.ext ew142
         have fw53 := fw53.ext ew142
         have fw129 := fw129.ext ew142
         have e := Only.trans e ew142
         have er := Only.trans er ew142
         have zw142 := ew142.size
         have hiyw142 := fw142.is
         obtain ⟨rfl, _, _, _, _⟩ := cells_ProcOp hiyw142
         refine ⟨_, _, _, _, rfl, ?_⟩
         refine ⟨?_, ?_⟩
         ·
          refine (implProcStep fw129.is sz0 fw142.is).mono ?_
          rintro _ w148 ⟨yw148_0, rfl, fw148_0, ew148⟩
          have hbw1 := hbw1.ext ew148
          have hbw2 := hbw2.ext ew148
          have hbw10 := hbw10.ext ew148
          have hc1w10 := hc1w10.ext ew148
          have hbw15 := hbw15.ext ew148
          have hbw20 := hbw20.ext ew148
          have hc1w20 := hc1w20.ext ew148
          have hbw95 := hbw95.ext ew148
          have hbw135 := hbw135.ext ew148
          have fw10 := fw10.ext ew148
          have fw34 := fw34.ext ew148
          have fw42 := fw42.ext ew148
          have fw53 := fw53.ext ew148
          have fw129 := fw129.ext ew148
          have fw142 := fw142.ext ew148
          have e := Only.trans e ew148
          have er := Only.trans er ew148
          have zw148 := ew148.size
          have hiyw148_0 := fw148_0.is
          obtain ⟨ryw148_0_0, rfl, _⟩ := cells_Procs hiyw148_0
          refine ⟨ryw148_0_0, _, _, _, rfl, ?_⟩
          refine ⟨?_, ?_⟩
          ·
           refine set_step hbw135 (by simp) (fun w153 ow153 hbw135q nw153 => ?_)
           have hbw1 := hbw1.only ow153 (by omega)
           have hbw2 := hbw2.only ow153 (by omega)
           have hbw10 := hbw10.only ow153 (by omega)
           have hc1w10 := hc1w10.only ow153 (by omega)
           have hbw15 := hbw15.only ow153 (by omega)
           have hbw20 := hbw20.only ow153 (by omega)
           have hc1w20 := hc1w20.only ow153 (by omega)
           have hbw95 := hbw95.only ow153 (by omega)
           have fw10 := fw10.only ow153 (fun k h1 h2 => by omega)
           have fw34 := fw34.only ow153 (fun k h1 h2 => by omega)
           have fw42 := fw42.only ow153 (fun k h1 h2 => by omega)
           have fw53 := fw53.only ow153 (fun k h1 h2 => by omega)
           have fw129 := fw129.only ow153 (fun k h1 h2 => by omega)
           have fw142 := fw142.only ow153 (fun k h1 h2 => by omega)
           have fw148_0 := fw148_0.only ow153 (fun k h1 h2 => by omega)
           have e := Ext.own e ow153 (fun k hk => by omega)
           have er := Ext.own er ow153 (fun k hk => by omega)
           have hbw135 := hbw135q
           refine ⟨?_, ?_⟩
           ·
            refine put_step hbw95 rfl rfl (fun w154 ow154 hbw95q nw154 => ?_)
            have hbw1 := hbw1.only ow154 (by omega)
            have hbw2 := hbw2.only ow154 (by omega)
            have hbw10 := hbw10.only ow154 (by omega)
            have hc1w10 := hc1w10.only ow154 (by omega)
            have hbw15 := hbw15.only ow154 (by omega)
            have hbw20 := hbw20.only ow154 (by omega)
            have hc1w20 := hc1w20.only ow154 (by omega)
            have hbw135 := hbw135.only ow154 (by omega)
            have fw10 := fw10.only ow154 (fun k h1 h2 => by omega)
            have fw34 := fw34.only ow154 (fun k h1 h2 => by omega)
            have fw42 := fw42.only ow154 (fun k h1 h2 => by omega)
            have fw53 := fw53.only ow154 (fun k h1 h2 => by omega)
            have fw129 := fw129.only ow154 (fun k h1 h2 => by omega)
            have fw142 := fw142.only ow154 (fun k h1 h2 => by omega)
            have fw148_0 := fw148_0.only ow154 (fun k h1 h2 => by omega)
            have e := Ext.own e ow154 (fun k hk => by omega)
            have er := Ext.own er ow154 (fun k hk => by omega)
            have hbw95 := hbw95q
            have hbl := hbw135.lt
            have hcl1 := hbw95.lt
            exact ⟨_, _, _, _, _, rfl, rfl, by omega, by omega, by omega, by omega, hbl, by omega, hcl1, by omega, by omega, hbw95, hbw135, fw148_0, er⟩
           ·
            trivial
          ·
           trivial
         ·
          trivial
        ·
         trivial
       ·
        trivial
     ·
      refine ⟨?_, ?_⟩
      ·
       refine alloc_step (fun w101 ew101 hbw101 nw101 => ?_)
       have hbw1 := hbw1.ext ew101
       have hbw2 := hbw2.ext ew101
       have hbw10 := hbw10.ext ew101
       have hc1w10 := hc1w10.ext ew101
       have hbw15 := hbw15.ext ew101
       have hbw20 := hbw20.ext ew101
       have hc1w20 := hc1w20.ext ew101
       have hbw95 := hbw95.ext ew101
       have fw10 := fw10.ext ew101
       have fw34 := fw34.ext ew101
       have fw42 := fw42.ext ew101
       have fw53 := fw53.ext ew101
       have e := Only.trans e ew101
       have er := Only.trans er ew101
       have zw101 := ew101.size
       refine ⟨⟨_, hbw2.cell 0, _, hbw2.cell 1, _, hbw2.cell 2, _, hbw2.cell 3, rfl⟩, ?_⟩
       refine ⟨⟨p0_0, hbw1.cell 0, rfl⟩, ?_⟩
       refine ⟨?_, ?_⟩
       ·
        refine (c49 (DProcs.has _) (IsD.ext e _ _ h0) (by have := sz0; omega)).mono ?_
        rintro _ w108 ⟨yw108, rfl, fw108, ew108⟩
        have hbw1 := hbw1.ext ew108
        have hbw2 := hbw2.ext ew108
        have hbw10 := hbw10.ext ew108
        have hc1w10 := hc1w10.ext ew108
        have hbw15 := hbw15.ext ew108
        have hbw20 := hbw20.ext ew108
        have hc1w20 := hc1w20.ext ew108
        have hbw95 := hbw95.ext ew108
        have hbw101 := hbw101.ext ew108
        have fw10 := fw10.ext ew108
        have fw34 := fw34.ext ew108
        have fw42 := fw42.ext ew108
        have fw53 := fw53.ext ew108
        have e := Only.trans e ew108
        have er := Only.trans er ew108
        have zw108 := ew108.size
        have hiyw108 := fw108.is
        obtain ⟨ryw108_0, rfl, _⟩ := cells_Procs hiyw108
        refine ⟨ryw108_0, rfl, ?_⟩
        refine ⟨⟨_, hbw2.cell 0, _, hbw2.cell 1, _, hbw2.cell 2, _, hbw2.cell 3, rfl⟩, ?_⟩
        refine ⟨?_, ?_⟩
        ·
         refine (c50 (DProcOp.has _) (IsD.ext e _ _ h1) (by have := pop_sz op; omega)).mono ?_
         rintro _ w115 ⟨yw115, rfl, fw115, ew115⟩
         have hbw1 := hbw1.ext ew115
         have hbw2 := hbw2.ext ew115
         have hbw10 := hbw10.ext ew115
         have hc1w10 := hc1w10.ext ew115
         have hbw15 := hbw15.ext ew115
         have hbw20 := hbw20.ext ew115
         have hc1w20 := hc1w20.ext ew115
         have hbw95 := hbw95.ext ew115
         have hbw101 := hbw101.ext ew115
         have fw10 := fw10.ext ew115
         have fw34 := fw34.ext ew115
         have fw42 := fw42.ext ew115
         have fw53 := fw53.ext ew115
         have fw108 := fw108.ext ew115
         have e := Only.trans e ew115
         have er := Only.trans er ew115
         have zw115 := ew115.size
         have hiyw115 := fw115.is
         obtain ⟨rfl, _, _, _, _⟩ := cells_ProcOp hiyw115
         refine ⟨_, _, _, _, rfl, ?_⟩
         refine ⟨?_, ?_⟩
         ·
          refine (implProcStep fw108.is sz0 fw115.is).mono ?_
          rintro _ w121 ⟨yw121_0, rfl, fw121_0, ew121⟩
          have hbw1 := hbw1.ext ew121
          have hbw2 := hbw2.ext ew121
          have hbw10 := hbw10.ext ew121
          have hc1w10 := hc1w10.ext ew121
          have hbw15 := hbw15.ext ew121
          have hbw20 := hbw20.ext ew121
          have hc1w20 := hc1w20.ext ew121
          have hbw95 := hbw95.ext ew121
          have hbw101 := hbw101.ext ew121
          have fw10 := fw10.ext ew121
          have fw34 := fw34.ext ew121
          have fw42 := fw42.ext ew121
          have fw53 := fw53.ext ew121
          have fw108 := fw108.ext ew121
          have fw115 := fw115.ext ew121
          have e := Only.trans e ew121
          have er := Only.trans er ew121
          have zw121 := ew121.size
          have hiyw121_0 := fw121_0.is
          obtain ⟨ryw121_0_0, rfl, _⟩ := cells_Procs hiyw121_0
          refine ⟨ryw121_0_0, _, _, _, rfl, ?_⟩
          refine ⟨?_, ?_⟩
          ·
           refine set_step hbw101 (by simp) (fun w126 ow126 hbw101q nw126 => ?_)
           have hbw1 := hbw1.only ow126 (by omega)
           have hbw2 := hbw2.only ow126 (by omega)
           have hbw10 := hbw10.only ow126 (by omega)
           have hc1w10 := hc1w10.only ow126 (by omega)
           have hbw15 := hbw15.only ow126 (by omega)
           have hbw20 := hbw20.only ow126 (by omega)
           have hc1w20 := hc1w20.only ow126 (by omega)
           have hbw95 := hbw95.only ow126 (by omega)
           have fw10 := fw10.only ow126 (fun k h1 h2 => by omega)
           have fw34 := fw34.only ow126 (fun k h1 h2 => by omega)
           have fw42 := fw42.only ow126 (fun k h1 h2 => by omega)
           have fw53 := fw53.only ow126 (fun k h1 h2 => by omega)
           have fw108 := fw108.only ow126 (fun k h1 h2 => by omega)
           have fw115 := fw115.only ow126 (fun k h1 h2 => by omega)
           have fw121_0 := fw121_0.only ow126 (fun k h1 h2 => by omega)
           have e := Ext.own e ow126 (fun k hk => by omega)
           have er := Ext.own er ow126 (fun k hk => by omega)
           have hbw101 := hbw101q
           refine ⟨?_, ?_⟩
           ·
            refine put_step hbw95 rfl rfl (fun w127 ow127 hbw95q nw127 => ?_)
            have hbw1 := hbw1.only ow127 (by omega)
            have hbw2 := hbw2.only ow127 (by omega)
            have hbw10 := hbw10.only ow127 (by omega)
            have hc1w10 := hc1w10.only ow127 (by omega)
            have hbw15 := hbw15.only ow127 (by omega)
            have hbw20 := hbw20.only ow127 (by omega)
            have hc1w20 := hc1w20.only ow127 (by omega)
            have hbw101 := hbw101.only ow127 (by omega)
            have fw10 := fw10.only ow127 (fun k h1 h2 => by omega)
            have fw34 := fw34.only ow127 (fun k h1 h2 => by omega)
            have fw42 := fw42.only ow127 (fun k h1 h2 => by omega)
            have fw53 := fw53.only ow127 (fun k h1 h2 => by omega)
            have fw108 := fw108.only ow127 (fun k h1 h2 => by omega)
            have fw115 := fw115.only ow127 (fun k h1 h2 => by omega)
            have fw121_0 := fw121_0.only ow127 (fun k h1 h2 => by omega)
            have e := Ext.own e ow127 (fun k hk => by omega)
            have er := Ext.own er ow127 (fun k hk => by omega)
            have hbw95 := hbw95q
            have hbl := hbw101.lt
            have hcl1 := hbw95.lt
            exact ⟨_, _, _, _, _, rfl, rfl, by omega, by omega, by omega, by omega, hbl, by omega, hcl1, by omega, by omega, hbw95, hbw101, fw121_0, er⟩
           ·
            trivial
          ·
           trivial
         ·
          trivial
        ·
         trivial
       ·
        trivial
      ·
       trivial
    ·
     trivial
 rintro (p60 : Option Addr) (p61 : Option Addr) w63 ⟨bw63, low63, hiw63, yw63, c1w63, rfl, rfl, hxw63, hlow63, hhiw63, hdsw63, hblw63, hcx1w63, hcl1w63, hcb1w63, hcd1w63, hc1w63, hbw63, fw63, erw63⟩
 have hbw1 := hbw1.ext erw63
 have hbw2 := hbw2.ext erw63
 have hbw10 := hbw10.ext erw63
 have hc1w10 := hc1w10.ext erw63
 have hbw15 := hbw15.ext erw63
 have hbw20 := hbw20.ext erw63
 have hc1w20 := hc1w20.ext erw63
 have fw10 := fw10.ext erw63
 have fw34 := fw34.ext erw63
 have fw42 := fw42.ext erw63
 have fw53 := fw53.ext erw63
 have e := Only.trans e erw63
 have zw63 := erw63.size
 have hiyw63 := fw63.is
 obtain ⟨ryw63_0, rfl, _⟩ := cells_Procs hiyw63
 refine addrOf_mk ?_
 refine ⟨ryw63_0, hbw63.cell 0, ?_⟩
 refine addrOf_mk ?_
 refine ⟨ryw10_0, hbw10.cell 0, ?_⟩
 refine (c52 (DProcs.has _) fw63.is fw10.is).mono ?_
 rintro _ w69 ⟨rfl, ew69⟩
 have hbw1 := hbw1.ext ew69
 have hbw2 := hbw2.ext ew69
 have hbw10 := hbw10.ext ew69
 have hc1w10 := hc1w10.ext ew69
 have hbw15 := hbw15.ext ew69
 have hbw20 := hbw20.ext ew69
 have hc1w20 := hc1w20.ext ew69
 have hbw63 := hbw63.ext ew69
 have hc1w63 := hc1w63.ext ew69
 have fw10 := fw10.ext ew69
 have fw34 := fw34.ext ew69
 have fw42 := fw42.ext ew69
 have fw53 := fw53.ext ew69
 have fw63 := fw63.ext ew69
 have e := Only.trans e ew69
 have zw69 := ew69.size
 refine ⟨_, rfl, ?_⟩
 refine JoinW.each ?_
 refine BIf.f rfl ?_
 refine addrOf_mk ?_
 refine ⟨_, hc1w63.cell 0, ?_⟩
 refine ⟨_, hc1w63.cell 1, ?_⟩
 refine ⟨_, hc1w63.cell 2, ?_⟩
 refine addrOf_mk ?_
 refine ⟨_, hc1w10.cell 0, ?_⟩
 refine ⟨_, hc1w10.cell 1, ?_⟩
 refine ⟨_, hc1w10.cell 2, ?_⟩
 refine (c53 (DProcRes.has _) ((pstepA_is x op) _) ((pstepA_is x op) _)).mono ?_
 rintro _ w88 ⟨rfl, ew88⟩
 have hbw1 := hbw1.ext ew88
 have hbw2 := hbw2.ext ew88
 have hbw10 := hbw10.ext ew88
 have hc1w10 := hc1w10.ext ew88
 have hbw15 := hbw15.ext ew88
 have hbw20 := hbw20.ext ew88
 have hc1w20 := hc1w20.ext ew88
 have hbw63 := hbw63.ext ew88
 have hc1w63 := hc1w63.ext ew88
 have fw10 := fw10.ext ew88
 have fw34 := fw34.ext ew88
 have fw42 := fw42.ext ew88
 have fw53 := fw53.ext ew88
 have fw63 := fw63.ext ew88
 have e := Only.trans e ew88
 have zw88 := ew88.size
 refine ⟨_, rfl, ?_⟩
 refine BIf.f (by first | (simp; done) | (simp; omega)) ?_
 refine addrOf_mk ?_
 refine ⟨ryw20_0, hbw20.cell 0, ?_⟩
 refine (c55 hsw53 fw53.is mkw53 (by omega) (by have := cnw53; have := pstepD_cnt x op; omega)).mono ?_
 rintro _ w77 ⟨rfl, ew77⟩
 have hbw1 := hbw1.ext ew77
 have hbw2 := hbw2.ext ew77
 have hbw10 := hbw10.ext ew77
 have hc1w10 := hc1w10.ext ew77
 have hbw15 := hbw15.ext ew77
 have hbw20 := hbw20.ext ew77
 have hc1w20 := hc1w20.ext ew77
 have hbw63 := hbw63.ext ew77
 have hc1w63 := hc1w63.ext ew77
 have fw10 := fw10.ext ew77
 have fw34 := fw34.ext ew77
 have fw42 := fw42.ext ew77
 have fw53 := fw53.ext ew77
 have fw63 := fw63.ext ew77
 have e := Only.trans e ew77
 have zw77 := ew77.size
 refine ⟨_, rfl, ?_⟩
 refine BIf.f (decide_eq_false (by omega)) ?_
 refine BIf.f (by first | (simp; done) | (simp; omega)) ?_
 exact ⟨by trivial, e⟩
open Go.RowKit in
theorem law_calls8 {w : World} {c0 : Array Value} {x : DProcs} (h0 : cDProcs.is w c0.toList x) {c1 : Array Value} {op : DProcOp} (h1 : cDProcOp.is w c1.toList op) : Calls Try.prog 8 #[.agg c0, .agg c1] w (fun e w' => e = .returned (.bool true) ∧ Below w.heap.size w w') :=
 (walk8 (cDProcs_dat h0) (cDProcOp_dat h1)).mono (by rintro e w' ⟨v, rfl, rfl, he⟩; exact ⟨rfl, he.below⟩)
end Go.Proofs.Yteigefjiifihpaa
