/- Part 6 of 6: plain readings of code, rules for them, and a proof over them, joined by a program. Conditions: none. -/
import Derived.Test.YtkgoanjemhbjgaaSpMa5
import Derived.Test.YtkgoanjemhbjgaaRows
import Derived.WalkKit
import Derived.ProofKit
import Derived.OpenShut
import Derived.ShutString
import Derived.ChangeOld
import Derived.Below
import Derived.Carry
import Derived.SizedLaws
/- The walk of a law: copies, both sides, comparisons; printed by a program. Conditions: none. -/
set_option linter.unusedVariables false
set_option linter.unusedSimpArgs false
set_option maxRecDepth 4000
namespace Go.Proofs.Ytkgoanjemhbjgaa
open Go Go.Den
theorem entry_sz (e : DEntry) : e.dat.sz ≤ 4194304 := by
  show (_ : Nat) ≤ _
  simp only [DEntry.dat, Dat.sz, Dat.szs]
  omega
theorem goc11 {a0_0 : Sl} {a0_1 : Int} {a0_2 : Sl} {a1 : Int} {a2 : Int} {a3_0 : Bool} {a3_1 : Bool} {a3_2 : Bool} {a3_3 : Bool} {a3_4 : Bool} {a3_5 : Bool} {a3_6 : Bool} {a3_7 : Bool} {a3_8 : Int} {w : World} {K : Value → World → Prop} (h : W11 a0_0 a0_1 a0_2 a1 a2 a3_0 a3_1 a3_2 a3_3 a3_4 a3_5 a3_6 a3_7 a3_8 w K) : Calls Try.prog 11 #[.agg #[.slice a0_0.a a0_0.len a0_0.cap, .int .i64 a0_1, .slice a0_2.a a0_2.len a0_2.cap], .int .i64 a1, .int .i64 a2, .agg #[.bool a3_0, .bool a3_1, .bool a3_2, .bool a3_3, .bool a3_4, .bool a3_5, .bool a3_6, .bool a3_7, .int .i64 a3_8]] w (fun e w' => ∃ v, e = .returned v ∧ K v w') :=
  denFn_sound tt_ok mix Try.func11 (by kernel_rfl) (eq11 a0_0 a0_1 a0_2 a1 a2 a3_0 a3_1 a3_2 a3_3 a3_4 a3_5 a3_6 a3_7 a3_8 w K ▸ h)
theorem walk11 {w : World} {x : DPool} {cs0 : List Value} (h0 : IsD w (x.dat) cs0) {root : Int} (wf1 : (Lit.int .i64 root).wf = true) {va : Int} (wf2 : (Lit.int .i64 va).wf = true) {en : DEntry} {cs3 : List Value} (h3 : IsD w (en.dat) cs3) : Calls Try.prog 11 #[.agg ⟨cs0⟩, .int .i64 root, .int .i64 va, .agg ⟨cs3⟩] w (fun e w' => ∃ v, e = .returned v ∧ (v = .bool true ∧ Ext w w')) := by
  obtain ⟨p0_0, p0_1_1, rfl, _, _, _, _⟩ := cells_Pool h0
  obtain ⟨rfl, _⟩ := cells_Entry h3
  refine goc11 ?_
  unfold W11
  refine alloc_step (fun w1 ew1 hbw1 nw1 => ?_)
  have e := ew1
  have zw1 := ew1.size
  refine alloc_step (fun w2 ew2 hbw2 nw2 => ?_)
  have hbw1 := hbw1.ext ew2
  have e := Only.trans e ew2
  have zw2 := ew2.size
  refine ⟨p0_0, hbw1.cell 0, ?_⟩
  refine ⟨_, hbw1.cell 1, ?_⟩
  refine ⟨p0_1_1, hbw1.cell 2, ?_⟩
  refine (c32 (DPool.has _) (IsD.ext e _ _ h0) (by omega) (by omega)).mono ?_
  rintro _ w7 ⟨⟨rw7, rfl, hrw7⟩, ew7⟩
  have hbw1 := hbw1.ext ew7
  have hbw2 := hbw2.ext ew7
  have e := Only.trans e ew7
  have zw7 := ew7.size
  refine ⟨_, rfl, ?_⟩
  refine BIf.dec (fun hn => ⟨rfl, e⟩) (fun hpw7 => ?_)
  have sz0 : (x.dat).sz ≤ 1048576 := by omega
  refine JoinW.cut2 (fun (p9 : Option Addr) (n10 : Int) w' => ∃ (b lo hi : Nat) (y : List Value), p9 = some ⟨b, 0, none⟩ ∧ n10 = mapN x root va en ∧ w7.heap.size ≤ b ∧ w7.heap.size ≤ lo ∧ hi ≤ w'.heap.size ∧ (b < lo ∨ hi ≤ b) ∧ b < w'.heap.size ∧ Blk w' b y ∧ Fr lo hi w' (mapP x root va en).dat y ∧ Ext w7 w') ?_ ?_
  · skip
    have er : Ext w7 w7 := Only.refl _ _
    have zr0 : w7.heap.size ≤ w7.heap.size := Nat.le_refl _
    have ed := ext_drew w7
    have hbw1 := hbw1.ext ed
    have hbw2 := hbw2.ext ed
    have e := Only.trans e ed
    have er := Only.trans er ed
    have zw7_drew := ed.size
    refine ⟨p0_0, hbw1.cell 0, ?_⟩
    refine ⟨_, hbw1.cell 1, ?_⟩
    refine ⟨p0_1_1, hbw1.cell 2, ?_⟩
    refine ⟨_, hbw2.cell 0, ?_⟩
    refine ⟨_, hbw2.cell 1, ?_⟩
    refine ⟨_, hbw2.cell 2, ?_⟩
    refine ⟨_, hbw2.cell 3, ?_⟩
    refine ⟨_, hbw2.cell 4, ?_⟩
    refine ⟨_, hbw2.cell 5, ?_⟩
    refine ⟨_, hbw2.cell 6, ?_⟩
    refine ⟨_, hbw2.cell 7, ?_⟩
    refine ⟨_, hbw2.cell 8, ?_⟩
    refine ⟨?_, ?_⟩
    · skip
      refine (c34 (DPool.has _) (IsD.ext e _ _ h0) (by have := sz0; omega)).mono ?_
      rintro _ w431 ⟨yw431, rfl, fw431, ew431⟩
      have hbw1 := hbw1.ext ew431
      have hbw2 := hbw2.ext ew431
      have e := Only.trans e ew431
      have er := Only.trans er ew431
      have zw431 := ew431.size
      have hiyw431 := fw431.is
      obtain ⟨ryw431_0, ryw431_1_1, rfl, _, _, _, _⟩ := cells_Pool hiyw431
      refine ⟨ryw431_0, _, ryw431_1_1, rfl, ?_⟩
      refine ⟨⟨_, hbw2.cell 0, _, hbw2.cell 1, _, hbw2.cell 2, _, hbw2.cell 3, _, hbw2.cell 4, _, hbw2.cell 5, _, hbw2.cell 6, _, hbw2.cell 7, _, hbw2.cell 8, rfl⟩, ?_⟩
      refine ⟨?_, ?_⟩
      · skip
        refine (c49 (DEntry.has _) (IsD.ext e _ _ h3) (by have := entry_sz en; omega)).mono ?_
        rintro _ w476 ⟨yw476, rfl, fw476, ew476⟩
        have hbw1 := hbw1.ext ew476
        have hbw2 := hbw2.ext ew476
        have fw431 := fw431.ext ew476
        have e := Only.trans e ew476
        have er := Only.trans er ew476
        have zw476 := ew476.size
        have hiyw476 := fw476.is
        obtain ⟨rfl, _⟩ := cells_Entry hiyw476
        refine ⟨_, _, _, _, _, _, _, _, _, rfl, ?_⟩
        refine ⟨?_, ?_⟩
        · skip
          refine (specMapPage (root := root) (va := va) fw431.is sz0 fw476.is).mono ?_
          rintro _ w507 ⟨yw507_0, rfl, fw507_0, ew507⟩
          have hbw1 := hbw1.ext ew507
          have hbw2 := hbw2.ext ew507
          have fw431 := fw431.ext ew507
          have fw476 := fw476.ext ew507
          have e := Only.trans e ew507
          have er := Only.trans er ew507
          have zw507 := ew507.size
          have hiyw507_0 := fw507_0.is
          obtain ⟨ryw507_0_0, ryw507_0_1_1, rfl, _, _, _, _⟩ := cells_Pool hiyw507_0
          refine ⟨ryw507_0_0, _, ryw507_0_1_1, _, rfl, ?_⟩
          refine ⟨?_, ?_⟩
          · skip
            refine alloc_step (fun w512 ew512 hbw512 nw512 => ?_)
            have hbw1 := hbw1.ext ew512
            have hbw2 := hbw2.ext ew512
            have fw431 := fw431.ext ew512
            have fw476 := fw476.ext ew512
            have fw507_0 := fw507_0.ext ew512
            have e := Only.trans e ew512
            have er := Only.trans er ew512
            have zw512 := ew512.size
            refine ⟨⟨_, hbw2.cell 0, _, hbw2.cell 1, _, hbw2.cell 2, _, hbw2.cell 3, _, hbw2.cell 4, _, hbw2.cell 5, _, hbw2.cell 6, _, hbw2.cell 7, _, hbw2.cell 8, rfl⟩, ?_⟩
            refine ⟨⟨p0_0, hbw1.cell 0, _, hbw1.cell 1, p0_1_1, hbw1.cell 2, rfl⟩, ?_⟩
            refine ⟨?_, ?_⟩
            · skip
              refine put_step hbw512 rfl rfl (fun w525 ow525 hbw512q nw525 => ?_)
              have hbw1 := hbw1.only ow525 (by omega)
              have hbw2 := hbw2.only ow525 (by omega)
              have fw431 := fw431.only ow525 (fun k h1 h2 => by omega)
              have fw476 := fw476.only ow525 (fun k h1 h2 => by omega)
              have fw507_0 := fw507_0.only ow525 (fun k h1 h2 => by omega)
              have e := Ext.own e ow525 (fun k hk => by omega)
              have er := Ext.own er ow525 (fun k hk => by omega)
              have hbw512 := hbw512q
              have hbl := hbw512.lt
              exact ⟨_, _, _, _, rfl, rfl, by omega, by omega, by omega, by omega, hbl, hbw512, fw507_0, er⟩
            · skip
              trivial
          · skip
            trivial
        · skip
          refine ⟨?_, ?_⟩
          · skip
            refine alloc_step (fun w486 ew486 hbw486 nw486 => ?_)
            have hbw1 := hbw1.ext ew486
            have hbw2 := hbw2.ext ew486
            have fw431 := fw431.ext ew486
            have fw476 := fw476.ext ew486
            have e := Only.trans e ew486
            have er := Only.trans er ew486
            have zw486 := ew486.size
            refine ⟨⟨_, hbw2.cell 0, _, hbw2.cell 1, _, hbw2.cell 2, _, hbw2.cell 3, _, hbw2.cell 4, _, hbw2.cell 5, _, hbw2.cell 6, _, hbw2.cell 7, _, hbw2.cell 8, rfl⟩, ?_⟩
            refine ⟨⟨p0_0, hbw1.cell 0, _, hbw1.cell 1, p0_1_1, hbw1.cell 2, rfl⟩, ?_⟩
            refine ⟨?_, ?_⟩
            · skip
              refine (specMapPage (root := root) (va := va) fw431.is sz0 fw476.is).mono ?_
              rintro _ w500 ⟨yw500_0, rfl, fw500_0, ew500⟩
              have hbw1 := hbw1.ext ew500
              have hbw2 := hbw2.ext ew500
              have hbw486 := hbw486.ext ew500
              have fw431 := fw431.ext ew500
              have fw476 := fw476.ext ew500
              have e := Only.trans e ew500
              have er := Only.trans er ew500
              have zw500 := ew500.size
              have hiyw500_0 := fw500_0.is
              obtain ⟨ryw500_0_0, ryw500_0_1_1, rfl, _, _, _, _⟩ := cells_Pool hiyw500_0
              refine ⟨ryw500_0_0, _, ryw500_0_1_1, _, rfl, ?_⟩
              refine ⟨?_, ?_⟩
              · skip
                refine put_step hbw486 rfl rfl (fun w505 ow505 hbw486q nw505 => ?_)
                have hbw1 := hbw1.only ow505 (by omega)
                have hbw2 := hbw2.only ow505 (by omega)
                have fw431 := fw431.only ow505 (fun k h1 h2 => by omega)
                have fw476 := fw476.only ow505 (fun k h1 h2 => by omega)
                have fw500_0 := fw500_0.only ow505 (fun k h1 h2 => by omega)
                have e := Ext.own e ow505 (fun k hk => by omega)
                have er := Ext.own er ow505 (fun k hk => by omega)
                have hbw486 := hbw486q
                have hbl := hbw486.lt
                exact ⟨_, _, _, _, rfl, rfl, by omega, by omega, by omega, by omega, hbl, hbw486, fw500_0, er⟩
              · skip
                trivial
            · skip
              trivial
          · skip
            trivial
      · skip
        refine ⟨?_, ?_⟩
        · skip
          refine alloc_step (fun w444 ew444 hbw444 nw444 => ?_)
          have hbw1 := hbw1.ext ew444
          have hbw2 := hbw2.ext ew444
          have fw431 := fw431.ext ew444
          have e := Only.trans e ew444
          have er := Only.trans er ew444
          have zw444 := ew444.size
          refine ⟨⟨_, hbw2.cell 0, _, hbw2.cell 1, _, hbw2.cell 2, _, hbw2.cell 3, _, hbw2.cell 4, _, hbw2.cell 5, _, hbw2.cell 6, _, hbw2.cell 7, _, hbw2.cell 8, rfl⟩, ?_⟩
          refine ⟨⟨p0_0, hbw1.cell 0, _, hbw1.cell 1, p0_1_1, hbw1.cell 2, rfl⟩, ?_⟩
          refine ⟨?_, ?_⟩
          · skip
            refine (c49 (DEntry.has _) (IsD.ext e _ _ h3) (by have := entry_sz en; omega)).mono ?_
            rintro _ w458 ⟨yw458, rfl, fw458, ew458⟩
            have hbw1 := hbw1.ext ew458
            have hbw2 := hbw2.ext ew458
            have hbw444 := hbw444.ext ew458
            have fw431 := fw431.ext ew458
            have e := Only.trans e ew458
            have er := Only.trans er ew458
            have zw458 := ew458.size
            have hiyw458 := fw458.is
            obtain ⟨rfl, _⟩ := cells_Entry hiyw458
            refine ⟨_, _, _, _, _, _, _, _, _, rfl, ?_⟩
            refine ⟨?_, ?_⟩
            · skip
              refine (specMapPage (root := root) (va := va) fw431.is sz0 fw458.is).mono ?_
              rintro _ w469 ⟨yw469_0, rfl, fw469_0, ew469⟩
              have hbw1 := hbw1.ext ew469
              have hbw2 := hbw2.ext ew469
              have hbw444 := hbw444.ext ew469
              have fw431 := fw431.ext ew469
              have fw458 := fw458.ext ew469
              have e := Only.trans e ew469
              have er := Only.trans er ew469
              have zw469 := ew469.size
              have hiyw469_0 := fw469_0.is
              obtain ⟨ryw469_0_0, ryw469_0_1_1, rfl, _, _, _, _⟩ := cells_Pool hiyw469_0
              refine ⟨ryw469_0_0, _, ryw469_0_1_1, _, rfl, ?_⟩
              refine ⟨?_, ?_⟩
              · skip
                refine put_step hbw444 rfl rfl (fun w474 ow474 hbw444q nw474 => ?_)
                have hbw1 := hbw1.only ow474 (by omega)
                have hbw2 := hbw2.only ow474 (by omega)
                have fw431 := fw431.only ow474 (fun k h1 h2 => by omega)
                have fw458 := fw458.only ow474 (fun k h1 h2 => by omega)
                have fw469_0 := fw469_0.only ow474 (fun k h1 h2 => by omega)
                have e := Ext.own e ow474 (fun k hk => by omega)
                have er := Ext.own er ow474 (fun k hk => by omega)
                have hbw444 := hbw444q
                have hbl := hbw444.lt
                exact ⟨_, _, _, _, rfl, rfl, by omega, by omega, by omega, by omega, hbl, hbw444, fw469_0, er⟩
              · skip
                trivial
            · skip
              trivial
          · skip
            trivial
        · skip
          trivial
    · skip
      refine ⟨?_, ?_⟩
      · skip
        refine alloc_step (fun w385 ew385 hbw385 nw385 => ?_)
        have hbw1 := hbw1.ext ew385
        have hbw2 := hbw2.ext ew385
        have e := Only.trans e ew385
        have er := Only.trans er ew385
        have zw385 := ew385.size
        refine ⟨⟨_, hbw2.cell 0, _, hbw2.cell 1, _, hbw2.cell 2, _, hbw2.cell 3, _, hbw2.cell 4, _, hbw2.cell 5, _, hbw2.cell 6, _, hbw2.cell 7, _, hbw2.cell 8, rfl⟩, ?_⟩
        refine ⟨⟨p0_0, hbw1.cell 0, _, hbw1.cell 1, p0_1_1, hbw1.cell 2, rfl⟩, ?_⟩
        refine ⟨?_, ?_⟩
        · skip
          refine (c34 (DPool.has _) (IsD.ext e _ _ h0) (by have := sz0; omega)).mono ?_
          rintro _ w399 ⟨yw399, rfl, fw399, ew399⟩
          have hbw1 := hbw1.ext ew399
          have hbw2 := hbw2.ext ew399
          have hbw385 := hbw385.ext ew399
          have e := Only.trans e ew399
          have er := Only.trans er ew399
          have zw399 := ew399.size
          have hiyw399 := fw399.is
          obtain ⟨ryw399_0, ryw399_1_1, rfl, _, _, _, _⟩ := cells_Pool hiyw399
          refine ⟨ryw399_0, _, ryw399_1_1, rfl, ?_⟩
          refine ⟨⟨_, hbw2.cell 0, _, hbw2.cell 1, _, hbw2.cell 2, _, hbw2.cell 3, _, hbw2.cell 4, _, hbw2.cell 5, _, hbw2.cell 6, _, hbw2.cell 7, _, hbw2.cell 8, rfl⟩, ?_⟩
          refine ⟨?_, ?_⟩
          · skip
            refine (c49 (DEntry.has _) (IsD.ext e _ _ h3) (by have := entry_sz en; omega)).mono ?_
            rintro _ w413 ⟨yw413, rfl, fw413, ew413⟩
            have hbw1 := hbw1.ext ew413
            have hbw2 := hbw2.ext ew413
            have hbw385 := hbw385.ext ew413
            have fw399 := fw399.ext ew413
            have e := Only.trans e ew413
            have er := Only.trans er ew413
            have zw413 := ew413.size
            have hiyw413 := fw413.is
            obtain ⟨rfl, _⟩ := cells_Entry hiyw413
            refine ⟨_, _, _, _, _, _, _, _, _, rfl, ?_⟩
            refine ⟨?_, ?_⟩
            · skip
              refine (specMapPage (root := root) (va := va) fw399.is sz0 fw413.is).mono ?_
              rintro _ w424 ⟨yw424_0, rfl, fw424_0, ew424⟩
              have hbw1 := hbw1.ext ew424
              have hbw2 := hbw2.ext ew424
              have hbw385 := hbw385.ext ew424
              have fw399 := fw399.ext ew424
              have fw413 := fw413.ext ew424
              have e := Only.trans e ew424
              have er := Only.trans er ew424
              have zw424 := ew424.size
              have hiyw424_0 := fw424_0.is
              obtain ⟨ryw424_0_0, ryw424_0_1_1, rfl, _, _, _, _⟩ := cells_Pool hiyw424_0
              refine ⟨ryw424_0_0, _, ryw424_0_1_1, _, rfl, ?_⟩
              refine ⟨?_, ?_⟩
              · skip
                refine put_step hbw385 rfl rfl (fun w429 ow429 hbw385q nw429 => ?_)
                have hbw1 := hbw1.only ow429 (by omega)
                have hbw2 := hbw2.only ow429 (by omega)
                have fw399 := fw399.only ow429 (fun k h1 h2 => by omega)
                have fw413 := fw413.only ow429 (fun k h1 h2 => by omega)
                have fw424_0 := fw424_0.only ow429 (fun k h1 h2 => by omega)
                have e := Ext.own e ow429 (fun k hk => by omega)
                have er := Ext.own er ow429 (fun k hk => by omega)
                have hbw385 := hbw385q
                have hbl := hbw385.lt
                exact ⟨_, _, _, _, rfl, rfl, by omega, by omega, by omega, by omega, hbl, hbw385, fw424_0, er⟩
              · skip
                trivial
            · skip
              trivial
          · skip
            trivial
        · skip
          trivial
      · skip
        trivial
  rintro (p9 : Option Addr) (n10 : Int) w12 ⟨bw12, low12, hiw12, yw12, rfl, rfl, hxw12, hlow12, hhiw12, hdsw12, hblw12, hbw12, fw12, erw12⟩
  have hbw1 := hbw1.ext erw12
  have hbw2 := hbw2.ext erw12
  have e := Only.trans e erw12
  have zw12 := erw12.size
  have hiyw12 := fw12.is
  obtain ⟨ryw12_0, ryw12_1_1, rfl, _, _, _, _⟩ := cells_Pool hiyw12
  refine ⟨p0_0, hbw1.cell 0, ?_⟩
  refine ⟨_, hbw1.cell 1, ?_⟩
  refine ⟨p0_1_1, hbw1.cell 2, ?_⟩
  refine (c34 (DPool.has _) (IsD.ext e _ _ h0) (by have := sz0; omega)).mono ?_
  rintro _ w17 ⟨yw17, rfl, fw17, ew17⟩
  have hbw1 := hbw1.ext ew17
  have hbw2 := hbw2.ext ew17
  have hbw12 := hbw12.ext ew17
  have fw12 := fw12.ext ew17
  have e := Only.trans e ew17
  have zw17 := ew17.size
  have hiyw17 := fw17.is
  obtain ⟨ryw17_0, ryw17_1_1, rfl, _, _, _, _⟩ := cells_Pool hiyw17
  refine ⟨ryw17_0, _, ryw17_1_1, rfl, ?_⟩
  refine alloc_step (fun w21 ew21 hbw21 nw21 => ?_)
  have hbw1 := hbw1.ext ew21
  have hbw2 := hbw2.ext ew21
  have hbw12 := hbw12.ext ew21
  have fw12 := fw12.ext ew21
  have fw17 := fw17.ext ew21
  have e := Only.trans e ew21
  have zw21 := ew21.size
  refine put_step hbw21 rfl rfl (fun w22 ow22 hbw21q nw22 => ?_)
  have hbw1 := hbw1.only ow22 (by omega)
  have hbw2 := hbw2.only ow22 (by omega)
  have hbw12 := hbw12.only ow22 (by omega)
  have fw12 := fw12.only ow22 (fun k h1 h2 => by omega)
  have fw17 := fw17.only ow22 (fun k h1 h2 => by omega)
  have e := Ext.own e ow22 (fun k hk => by omega)
  have hbw21 := hbw21q
  refine JoinW.cut2 (fun (p23 : Option Addr) (n24 : Int) w' => ∃ (b lo hi : Nat) (y : List Value), p23 = some ⟨b, 0, none⟩ ∧ n24 = mapN x root va en ∧ w22.heap.size ≤ b ∧ w22.heap.size ≤ lo ∧ hi ≤ w'.heap.size ∧ (b < lo ∨ hi ≤ b) ∧ b < w'.heap.size ∧ Blk w' b y ∧ Fr lo hi w' (mapP x root va en).dat y ∧ Ext w22 w') ?_ ?_
  · skip
    have er : Ext w22 w22 := Only.refl _ _
    have zr0 : w22.heap.size ≤ w22.heap.size := Nat.le_refl _
    have ed := ext_drew w22
    have hbw1 := hbw1.ext ed
    have hbw2 := hbw2.ext ed
    have hbw12 := hbw12.ext ed
    have hbw21 := hbw21.ext ed
    have fw12 := fw12.ext ed
    have fw17 := fw17.ext ed
    have e := Only.trans e ed
    have er := Only.trans er ed
    have zw22_drew := ed.size
    refine ⟨ryw17_0, hbw21.cell 0, ?_⟩
    refine ⟨_, hbw21.cell 1, ?_⟩
    refine ⟨ryw17_1_1, hbw21.cell 2, ?_⟩
    refine ⟨_, hbw2.cell 0, ?_⟩
    refine ⟨_, hbw2.cell 1, ?_⟩
    refine ⟨_, hbw2.cell 2, ?_⟩
    refine ⟨_, hbw2.cell 3, ?_⟩
    refine ⟨_, hbw2.cell 4, ?_⟩
    refine ⟨_, hbw2.cell 5, ?_⟩
    refine ⟨_, hbw2.cell 6, ?_⟩
    refine ⟨_, hbw2.cell 7, ?_⟩
    refine ⟨_, hbw2.cell 8, ?_⟩
    refine ⟨?_, ?_⟩
    · skip
      refine (c49 (DEntry.has _) (IsD.ext e _ _ h3) (by have := entry_sz en; omega)).mono ?_
      rintro _ w320 ⟨yw320, rfl, fw320, ew320⟩
      have hbw1 := hbw1.ext ew320
      have hbw2 := hbw2.ext ew320
      have hbw12 := hbw12.ext ew320
      have hbw21 := hbw21.ext ew320
      have fw12 := fw12.ext ew320
      have fw17 := fw17.ext ew320
      have e := Only.trans e ew320
      have er := Only.trans er ew320
      have zw320 := ew320.size
      have hiyw320 := fw320.is
      obtain ⟨rfl, _⟩ := cells_Entry hiyw320
      refine ⟨_, _, _, _, _, _, _, _, _, rfl, ?_⟩
      refine ⟨⟨ryw17_0, hbw21.cell 0, _, hbw21.cell 1, ryw17_1_1, hbw21.cell 2, rfl⟩, ?_⟩
      refine ⟨?_, ?_⟩
      · skip
        refine (implMapPage (root := root) (va := va) fw17.is sz0 fw320.is).mono ?_
        rintro _ w354 ⟨yw354_0, rfl, fw354_0, ew354⟩
        have hbw1 := hbw1.ext ew354
        have hbw2 := hbw2.ext ew354
        have hbw12 := hbw12.ext ew354
        have hbw21 := hbw21.ext ew354
        have fw12 := fw12.ext ew354
        have fw17 := fw17.ext ew354
        have fw320 := fw320.ext ew354
        have e := Only.trans e ew354
        have er := Only.trans er ew354
        have zw354 := ew354.size
        have hiyw354_0 := fw354_0.is
        obtain ⟨ryw354_0_0, ryw354_0_1_1, rfl, _, _, _, _⟩ := cells_Pool hiyw354_0
        refine ⟨ryw354_0_0, _, ryw354_0_1_1, _, rfl, ?_⟩
        refine ⟨?_, ?_⟩
        · skip
          refine alloc_step (fun w359 ew359 hbw359 nw359 => ?_)
          have hbw1 := hbw1.ext ew359
          have hbw2 := hbw2.ext ew359
          have hbw12 := hbw12.ext ew359
          have hbw21 := hbw21.ext ew359
          have fw12 := fw12.ext ew359
          have fw17 := fw17.ext ew359
          have fw320 := fw320.ext ew359
          have fw354_0 := fw354_0.ext ew359
          have e := Only.trans e ew359
          have er := Only.trans er ew359
          have zw359 := ew359.size
          refine ⟨⟨_, hbw2.cell 0, _, hbw2.cell 1, _, hbw2.cell 2, _, hbw2.cell 3, _, hbw2.cell 4, _, hbw2.cell 5, _, hbw2.cell 6, _, hbw2.cell 7, _, hbw2.cell 8, rfl⟩, ?_⟩
          refine ⟨⟨ryw17_0, hbw21.cell 0, _, hbw21.cell 1, ryw17_1_1, hbw21.cell 2, rfl⟩, ?_⟩
          refine ⟨?_, ?_⟩
          · skip
            refine put_step hbw359 rfl rfl (fun w372 ow372 hbw359q nw372 => ?_)
            have hbw1 := hbw1.only ow372 (by omega)
            have hbw2 := hbw2.only ow372 (by omega)
            have hbw12 := hbw12.only ow372 (by omega)
            have hbw21 := hbw21.only ow372 (by omega)
            have fw12 := fw12.only ow372 (fun k h1 h2 => by omega)
            have fw17 := fw17.only ow372 (fun k h1 h2 => by omega)
            have fw320 := fw320.only ow372 (fun k h1 h2 => by omega)
            have fw354_0 := fw354_0.only ow372 (fun k h1 h2 => by omega)
            have e := Ext.own e ow372 (fun k hk => by omega)
            have er := Ext.own er ow372 (fun k hk => by omega)
            have hbw359 := hbw359q
            have hbl := hbw359.lt
            exact ⟨_, _, _, _, rfl, rfl, by omega, by omega, by omega, by omega, hbl, hbw359, fw354_0, er⟩
          · skip
            trivial
        · skip
          trivial
      · skip
        refine ⟨?_, ?_⟩
        · skip
          refine alloc_step (fun w333 ew333 hbw333 nw333 => ?_)
          have hbw1 := hbw1.ext ew333
          have hbw2 := hbw2.ext ew333
          have hbw12 := hbw12.ext ew333
          have hbw21 := hbw21.ext ew333
          have fw12 := fw12.ext ew333
          have fw17 := fw17.ext ew333
          have fw320 := fw320.ext ew333
          have e := Only.trans e ew333
          have er := Only.trans er ew333
          have zw333 := ew333.size
          refine ⟨⟨_, hbw2.cell 0, _, hbw2.cell 1, _, hbw2.cell 2, _, hbw2.cell 3, _, hbw2.cell 4, _, hbw2.cell 5, _, hbw2.cell 6, _, hbw2.cell 7, _, hbw2.cell 8, rfl⟩, ?_⟩
          refine ⟨⟨ryw17_0, hbw21.cell 0, _, hbw21.cell 1, ryw17_1_1, hbw21.cell 2, rfl⟩, ?_⟩
          refine ⟨?_, ?_⟩
          · skip
            refine (implMapPage (root := root) (va := va) fw17.is sz0 fw320.is).mono ?_
            rintro _ w347 ⟨yw347_0, rfl, fw347_0, ew347⟩
            have hbw1 := hbw1.ext ew347
            have hbw2 := hbw2.ext ew347
            have hbw12 := hbw12.ext ew347
            have hbw21 := hbw21.ext ew347
            have hbw333 := hbw333.ext ew347
            have fw12 := fw12.ext ew347
            have fw17 := fw17.ext ew347
            have fw320 := fw320.ext ew347
            have e := Only.trans e ew347
            have er := Only.trans er ew347
            have zw347 := ew347.size
            have hiyw347_0 := fw347_0.is
            obtain ⟨ryw347_0_0, ryw347_0_1_1, rfl, _, _, _, _⟩ := cells_Pool hiyw347_0
            refine ⟨ryw347_0_0, _, ryw347_0_1_1, _, rfl, ?_⟩
            refine ⟨?_, ?_⟩
            · skip
              refine put_step hbw333 rfl rfl (fun w352 ow352 hbw333q nw352 => ?_)
              have hbw1 := hbw1.only ow352 (by omega)
              have hbw2 := hbw2.only ow352 (by omega)
              have hbw12 := hbw12.only ow352 (by omega)
              have hbw21 := hbw21.only ow352 (by omega)
              have fw12 := fw12.only ow352 (fun k h1 h2 => by omega)
              have fw17 := fw17.only ow352 (fun k h1 h2 => by omega)
              have fw320 := fw320.only ow352 (fun k h1 h2 => by omega)
              have fw347_0 := fw347_0.only ow352 (fun k h1 h2 => by omega)
              have e := Ext.own e ow352 (fun k hk => by omega)
              have er := Ext.own er ow352 (fun k hk => by omega)
              have hbw333 := hbw333q
              have hbl := hbw333.lt
              exact ⟨_, _, _, _, rfl, rfl, by omega, by omega, by omega, by omega, hbl, hbw333, fw347_0, er⟩
            · skip
              trivial
          · skip
            trivial
        · skip
          trivial
    · skip
      refine ⟨?_, ?_⟩
      · skip
        refine alloc_step (fun w285 ew285 hbw285 nw285 => ?_)
        have hbw1 := hbw1.ext ew285
        have hbw2 := hbw2.ext ew285
        have hbw12 := hbw12.ext ew285
        have hbw21 := hbw21.ext ew285
        have fw12 := fw12.ext ew285
        have fw17 := fw17.ext ew285
        have e := Only.trans e ew285
        have er := Only.trans er ew285
        have zw285 := ew285.size
        refine ⟨⟨_, hbw2.cell 0, _, hbw2.cell 1, _, hbw2.cell 2, _, hbw2.cell 3, _, hbw2.cell 4, _, hbw2.cell 5, _, hbw2.cell 6, _, hbw2.cell 7, _, hbw2.cell 8, rfl⟩, ?_⟩
        refine ⟨⟨ryw17_0, hbw21.cell 0, _, hbw21.cell 1, ryw17_1_1, hbw21.cell 2, rfl⟩, ?_⟩
        refine ⟨?_, ?_⟩
        · skip
          refine (c49 (DEntry.has _) (IsD.ext e _ _ h3) (by have := entry_sz en; omega)).mono ?_
          rintro _ w299 ⟨yw299, rfl, fw299, ew299⟩
          have hbw1 := hbw1.ext ew299
          have hbw2 := hbw2.ext ew299
          have hbw12 := hbw12.ext ew299
          have hbw21 := hbw21.ext ew299
          have hbw285 := hbw285.ext ew299
          have fw12 := fw12.ext ew299
          have fw17 := fw17.ext ew299
          have e := Only.trans e ew299
          have er := Only.trans er ew299
          have zw299 := ew299.size
          have hiyw299 := fw299.is
          obtain ⟨rfl, _⟩ := cells_Entry hiyw299
          refine ⟨_, _, _, _, _, _, _, _, _, rfl, ?_⟩
          refine ⟨⟨ryw17_0, hbw21.cell 0, _, hbw21.cell 1, ryw17_1_1, hbw21.cell 2, rfl⟩, ?_⟩
          refine ⟨?_, ?_⟩
          · skip
            refine (implMapPage (root := root) (va := va) fw17.is sz0 fw299.is).mono ?_
            rintro _ w313 ⟨yw313_0, rfl, fw313_0, ew313⟩
            have hbw1 := hbw1.ext ew313
            have hbw2 := hbw2.ext ew313
            have hbw12 := hbw12.ext ew313
            have hbw21 := hbw21.ext ew313
            have hbw285 := hbw285.ext ew313
            have fw12 := fw12.ext ew313
            have fw17 := fw17.ext ew313
            have fw299 := fw299.ext ew313
            have e := Only.trans e ew313
            have er := Only.trans er ew313
            have zw313 := ew313.size
            have hiyw313_0 := fw313_0.is
            obtain ⟨ryw313_0_0, ryw313_0_1_1, rfl, _, _, _, _⟩ := cells_Pool hiyw313_0
            refine ⟨ryw313_0_0, _, ryw313_0_1_1, _, rfl, ?_⟩
            refine ⟨?_, ?_⟩
            · skip
              refine put_step hbw285 rfl rfl (fun w318 ow318 hbw285q nw318 => ?_)
              have hbw1 := hbw1.only ow318 (by omega)
              have hbw2 := hbw2.only ow318 (by omega)
              have hbw12 := hbw12.only ow318 (by omega)
              have hbw21 := hbw21.only ow318 (by omega)
              have fw12 := fw12.only ow318 (fun k h1 h2 => by omega)
              have fw17 := fw17.only ow318 (fun k h1 h2 => by omega)
              have fw299 := fw299.only ow318 (fun k h1 h2 => by omega)
              have fw313_0 := fw313_0.only ow318 (fun k h1 h2 => by omega)
              have e := Ext.own e ow318 (fun k hk => by omega)
              have er := Ext.own er ow318 (fun k hk => by omega)
              have hbw285 := hbw285q
              have hbl := hbw285.lt
              exact ⟨_, _, _, _, rfl, rfl, by omega, by omega, by omega, by omega, hbl, hbw285, fw313_0, er⟩
            · skip
              trivial
          · skip
            trivial
        · skip
          trivial
      · skip
        trivial
  rintro (p23 : Option Addr) (n24 : Int) w26 ⟨bw26, low26, hiw26, yw26, rfl, rfl, hxw26, hlow26, hhiw26, hdsw26, hblw26, hbw26, fw26, erw26⟩
  have hbw1 := hbw1.ext erw26
  have hbw2 := hbw2.ext erw26
  have hbw12 := hbw12.ext erw26
  have hbw21 := hbw21.ext erw26
  have fw12 := fw12.ext erw26
  have fw17 := fw17.ext erw26
  have e := Only.trans e erw26
  have zw26 := erw26.size
  have hiyw26 := fw26.is
  obtain ⟨ryw26_0, ryw26_1_1, rfl, _, _, _, _⟩ := cells_Pool hiyw26
  refine addrOf_mk ?_
  refine ⟨ryw26_0, hbw26.cell 0, ?_⟩
  refine ⟨_, hbw26.cell 1, ?_⟩
  refine ⟨ryw26_1_1, hbw26.cell 2, ?_⟩
  refine addrOf_mk ?_
  refine ⟨ryw12_0, hbw12.cell 0, ?_⟩
  refine ⟨_, hbw12.cell 1, ?_⟩
  refine ⟨ryw12_1_1, hbw12.cell 2, ?_⟩
  refine (c36 (DPool.has _) fw26.is fw12.is).mono ?_
  rintro _ w36 ⟨rfl, ew36⟩
  have hbw1 := hbw1.ext ew36
  have hbw2 := hbw2.ext ew36
  have hbw12 := hbw12.ext ew36
  have hbw21 := hbw21.ext ew36
  have hbw26 := hbw26.ext ew36
  have fw12 := fw12.ext ew36
  have fw17 := fw17.ext ew36
  have fw26 := fw26.ext ew36
  have e := Only.trans e ew36
  have zw36 := ew36.size
  refine ⟨_, rfl, ?_⟩
  refine JoinW.each ?_
  refine BIf.f rfl ?_
  refine BIf.f (by first | (simp; done) | (simp; omega)) ?_
  have ed := ext_drew w36
  have hbw1 := hbw1.ext ed
  have hbw2 := hbw2.ext ed
  have hbw12 := hbw12.ext ed
  have hbw21 := hbw21.ext ed
  have hbw26 := hbw26.ext ed
  have fw12 := fw12.ext ed
  have fw17 := fw17.ext ed
  have fw26 := fw26.ext ed
  have e := Only.trans e ed
  have zw36_drew := ed.size
  refine ⟨ryw17_0, hbw21.cell 0, ?_⟩
  refine ⟨_, hbw21.cell 1, ?_⟩
  refine ⟨ryw17_1_1, hbw21.cell 2, ?_⟩
  refine ⟨p0_0, hbw1.cell 0, ?_⟩
  refine ⟨_, hbw1.cell 1, ?_⟩
  refine ⟨p0_1_1, hbw1.cell 2, ?_⟩
  refine (c34 (DPool.has _) (IsD.ext e _ _ h0) (by have := sz0; omega)).mono ?_
  rintro _ w48 ⟨yw48, rfl, fw48, ew48⟩
  have hbw1 := hbw1.ext ew48
  have hbw2 := hbw2.ext ew48
  have hbw12 := hbw12.ext ew48
  have hbw21 := hbw21.ext ew48
  have hbw26 := hbw26.ext ew48
  have fw12 := fw12.ext ew48
  have fw17 := fw17.ext ew48
  have fw26 := fw26.ext ew48
  have e := Only.trans e ew48
  have zw48 := ew48.size
  have hiyw48 := fw48.is
  obtain ⟨ryw48_0, ryw48_1_1, rfl, _, _, _, _⟩ := cells_Pool hiyw48
  refine ⟨ryw48_0, _, ryw48_1_1, rfl, ?_⟩
  refine ⟨⟨ryw17_0, hbw21.cell 0, _, hbw21.cell 1, ryw17_1_1, hbw21.cell 2, rfl⟩, ?_⟩
  refine (c36 (DPool.has _) fw17.is fw48.is).mono ?_
  rintro _ w56 ⟨rfl, ew56⟩
  have hbw1 := hbw1.ext ew56
  have hbw2 := hbw2.ext ew56
  have hbw12 := hbw12.ext ew56
  have hbw21 := hbw21.ext ew56
  have hbw26 := hbw26.ext ew56
  have fw12 := fw12.ext ew56
  have fw17 := fw17.ext ew56
  have fw26 := fw26.ext ew56
  have fw48 := fw48.ext ew56
  have e := Only.trans e ew56
  have zw56 := ew56.size
  refine ⟨_, rfl, ?_⟩
  refine BIf.f rfl ?_
  refine ⟨ryw17_0, hbw21.cell 0, ?_⟩
  refine ⟨_, hbw21.cell 1, ?_⟩
  refine ⟨ryw17_1_1, hbw21.cell 2, ?_⟩
  obtain ⟨bsw62, oww62, ndw62, rgw62⟩ := fw17
  refine (c39 (DPool.has _) oww62 ndw62 (by omega) (by have := sz0; have := pool_cnt sz0; (try simp only [Dat.cntT, Dat.cntTs] at *); omega)).mono ?_
  rintro _ w62 ⟨rfl, dw62, cnw62, hsw62, mkw62, oww62, ow62⟩
  have hbw1 := hbw1.only ow62 (fun hk => by have := rgw62 _ hk; omega)
  have hbw2 := hbw2.only ow62 (fun hk => by have := rgw62 _ hk; omega)
  have hbw12 := hbw12.only ow62 (fun hk => by have := rgw62 _ hk; omega)
  have hbw21 := hbw21.only ow62 (fun hk => by have := rgw62 _ hk; omega)
  have hbw26 := hbw26.only ow62 (fun hk => by have := rgw62 _ hk; omega)
  have fw12 := fw12.only ow62 (fun k h1 h2 hk => by have := rgw62 k hk; omega)
  have fw26 := fw26.only ow62 (fun k h1 h2 hk => by have := rgw62 k hk; omega)
  have fw48 := fw48.only ow62 (fun k h1 h2 hk => by have := rgw62 k hk; omega)
  have e := Ext.own e ow62 (fun k hk => by have := rgw62 k hk; omega)
  have zw62 := ow62.size
  have fw62 : Fr _ _ w62 dw62 _ := ⟨bsw62, oww62, ndw62, rgw62⟩
  refine ⟨_, rfl, ?_⟩
  refine JoinW.each ?_
  refine BIf.f (decide_eq_false (by omega)) ?_
  refine addrOf_mk ?_
  refine ⟨ryw26_0, hbw26.cell 0, ?_⟩
  refine ⟨_, hbw26.cell 1, ?_⟩
  refine ⟨ryw26_1_1, hbw26.cell 2, ?_⟩
  refine addrOf_mk ?_
  refine ⟨ryw12_0, hbw12.cell 0, ?_⟩
  refine ⟨_, hbw12.cell 1, ?_⟩
  refine ⟨ryw12_1_1, hbw12.cell 2, ?_⟩
  refine (c36 (DPool.has _) fw26.is fw12.is).mono ?_
  rintro _ w271 ⟨rfl, ew271⟩
  have hbw1 := hbw1.ext ew271
  have hbw2 := hbw2.ext ew271
  have hbw12 := hbw12.ext ew271
  have hbw21 := hbw21.ext ew271
  have hbw26 := hbw26.ext ew271
  have fw12 := fw12.ext ew271
  have fw26 := fw26.ext ew271
  have fw48 := fw48.ext ew271
  have fw62 := fw62.ext ew271
  have e := Only.trans e ew271
  have zw271 := ew271.size
  refine ⟨_, rfl, ?_⟩
  refine JoinW.each ?_
  refine BIf.f (by first | (simp; done) | (simp; omega)) ?_
  refine BIf.f (by first | (simp; done) | (simp; omega)) ?_
  refine addrOf_mk ?_
  refine ⟨ryw26_0, hbw26.cell 0, ?_⟩
  refine ⟨_, hbw26.cell 1, ?_⟩
  refine ⟨ryw26_1_1, hbw26.cell 2, ?_⟩
  obtain ⟨bsw75, oww75, ndw75, rgw75⟩ := fw26
  refine (c39 (DPool.has _) oww75 ndw75 (by omega) (by have := mapP_cnt (root := root) (va := va) (e := en) h0 sz0; omega)).mono ?_
  rintro _ w75 ⟨rfl, dw75, cnw75, hsw75, mkw75, oww75, ow75⟩
  have hbw1 := hbw1.only ow75 (fun hk => by have := rgw75 _ hk; omega)
  have hbw2 := hbw2.only ow75 (fun hk => by have := rgw75 _ hk; omega)
  have hbw12 := hbw12.only ow75 (fun hk => by have := rgw75 _ hk; omega)
  have hbw21 := hbw21.only ow75 (fun hk => by have := rgw75 _ hk; omega)
  have hbw26 := hbw26.only ow75 (fun hk => by have := rgw75 _ hk; omega)
  have fw12 := fw12.only ow75 (fun k h1 h2 hk => by have := rgw75 k hk; omega)
  have fw48 := fw48.only ow75 (fun k h1 h2 hk => by have := rgw75 k hk; omega)
  have fw62 := fw62.only ow75 (fun k h1 h2 hk => by have := rgw75 k hk; omega)
  have e := Ext.own e ow75 (fun k hk => by have := rgw75 k hk; omega)
  have zw75 := ow75.size
  have fw75 : Fr _ _ w75 dw75 _ := ⟨bsw75, oww75, ndw75, rgw75⟩
  refine ⟨_, rfl, ?_⟩
  refine addrOf_mk ?_
  refine ⟨ryw26_0, hbw26.cell 0, ?_⟩
  refine ⟨_, hbw26.cell 1, ?_⟩
  refine ⟨ryw26_1_1, hbw26.cell 2, ?_⟩
  refine (c40 hsw75 fw75.is mkw75 (by omega) (by have := cnw75; have := mapP_cnt (root := root) (va := va) (e := en) h0 sz0; omega)).mono ?_
  rintro _ w82 ⟨rfl, ew82⟩
  have hbw1 := hbw1.ext ew82
  have hbw2 := hbw2.ext ew82
  have hbw12 := hbw12.ext ew82
  have hbw21 := hbw21.ext ew82
  have hbw26 := hbw26.ext ew82
  have fw12 := fw12.ext ew82
  have fw48 := fw48.ext ew82
  have fw62 := fw62.ext ew82
  have fw75 := fw75.ext ew82
  have e := Only.trans e ew82
  have zw82 := ew82.size
  refine ⟨_, rfl, ?_⟩
  refine BIf.f (decide_eq_false (by omega)) ?_
  refine BIf.f (by first | (simp; done) | (simp; omega)) ?_
  refine JoinW.cut2 (fun (p84 : Option Addr) (n85 : Int) w' => ∃ (b lo hi : Nat) (y : List Value), p84 = some ⟨b, 0, none⟩ ∧ n85 = mapN x root va en ∧ w82.heap.size ≤ b ∧ w82.heap.size ≤ lo ∧ hi ≤ w'.heap.size ∧ (b < lo ∨ hi ≤ b) ∧ b < w'.heap.size ∧ Blk w' b y ∧ Fr lo hi w' (mapP x root va en).dat y ∧ Ext w82 w') ?_ ?_
  · skip
    have er : Ext w82 w82 := Only.refl _ _
    have zr0 : w82.heap.size ≤ w82.heap.size := Nat.le_refl _
    have ed := ext_drew w82
    have hbw1 := hbw1.ext ed
    have hbw2 := hbw2.ext ed
    have hbw12 := hbw12.ext ed
    have hbw21 := hbw21.ext ed
    have hbw26 := hbw26.ext ed
    have fw12 := fw12.ext ed
    have fw48 := fw48.ext ed
    have fw62 := fw62.ext ed
    have fw75 := fw75.ext ed
    have e := Only.trans e ed
    have er := Only.trans er ed
    have zw82_drew := ed.size
    refine ⟨p0_0, hbw1.cell 0, ?_⟩
    refine ⟨_, hbw1.cell 1, ?_⟩
    refine ⟨p0_1_1, hbw1.cell 2, ?_⟩
    refine ⟨_, hbw2.cell 0, ?_⟩
    refine ⟨_, hbw2.cell 1, ?_⟩
    refine ⟨_, hbw2.cell 2, ?_⟩
    refine ⟨_, hbw2.cell 3, ?_⟩
    refine ⟨_, hbw2.cell 4, ?_⟩
    refine ⟨_, hbw2.cell 5, ?_⟩
    refine ⟨_, hbw2.cell 6, ?_⟩
    refine ⟨_, hbw2.cell 7, ?_⟩
    refine ⟨_, hbw2.cell 8, ?_⟩
    refine ⟨?_, ?_⟩
    · skip
      refine (c34 (DPool.has _) (IsD.ext e _ _ h0) (by have := sz0; omega)).mono ?_
      rintro _ w167 ⟨yw167, rfl, fw167, ew167⟩
      have hbw1 := hbw1.ext ew167
      have hbw2 := hbw2.ext ew167
      have hbw12 := hbw12.ext ew167
      have hbw21 := hbw21.ext ew167
      have hbw26 := hbw26.ext ew167
      have fw12 := fw12.ext ew167
      have fw48 := fw48.ext ew167
      have fw62 := fw62.ext ew167
      have fw75 := fw75.ext ew167
      have e := Only.trans e ew167
      have er := Only.trans er ew167
      have zw167 := ew167.size
      have hiyw167 := fw167.is
      obtain ⟨ryw167_0, ryw167_1_1, rfl, _, _, _, _⟩ := cells_Pool hiyw167
      refine ⟨ryw167_0, _, ryw167_1_1, rfl, ?_⟩
      refine ⟨⟨_, hbw2.cell 0, _, hbw2.cell 1, _, hbw2.cell 2, _, hbw2.cell 3, _, hbw2.cell 4, _, hbw2.cell 5, _, hbw2.cell 6, _, hbw2.cell 7, _, hbw2.cell 8, rfl⟩, ?_⟩
      refine ⟨?_, ?_⟩
      · skip
        refine (c49 (DEntry.has _) (IsD.ext e _ _ h3) (by have := entry_sz en; omega)).mono ?_
        rintro _ w212 ⟨yw212, rfl, fw212, ew212⟩
        have hbw1 := hbw1.ext ew212
        have hbw2 := hbw2.ext ew212
        have hbw12 := hbw12.ext ew212
        have hbw21 := hbw21.ext ew212
        have hbw26 := hbw26.ext ew212
        have fw12 := fw12.ext ew212
        have fw48 := fw48.ext ew212
        have fw62 := fw62.ext ew212
        have fw75 := fw75.ext ew212
        have fw167 := fw167.ext ew212
        have e := Only.trans e ew212
        have er := Only.trans er ew212
        have zw212 := ew212.size
        have hiyw212 := fw212.is
        obtain ⟨rfl, _⟩ := cells_Entry hiyw212
        refine ⟨_, _, _, _, _, _, _, _, _, rfl, ?_⟩
        refine ⟨?_, ?_⟩
        · skip
          refine (implMapPage (root := root) (va := va) fw167.is sz0 fw212.is).mono ?_
          rintro _ w243 ⟨yw243_0, rfl, fw243_0, ew243⟩
          have hbw1 := hbw1.ext ew243
          have hbw2 := hbw2.ext ew243
          have hbw12 := hbw12.ext ew243
          have hbw21 := hbw21.ext ew243
          have hbw26 := hbw26.ext ew243
          have fw12 := fw12.ext ew243
          have fw48 := fw48.ext ew243
          have fw62 := fw62.ext ew243
          have fw75 := fw75.ext ew243
          have fw167 := fw167.ext ew243
          have fw212 := fw212.ext ew243
          have e := Only.trans e ew243
          have er := Only.trans er ew243
          have zw243 := ew243.size
          have hiyw243_0 := fw243_0.is
          obtain ⟨ryw243_0_0, ryw243_0_1_1, rfl, _, _, _, _⟩ := cells_Pool hiyw243_0
          refine ⟨ryw243_0_0, _, ryw243_0_1_1, _, rfl, ?_⟩
          refine ⟨?_, ?_⟩
          · skip
            refine alloc_step (fun w248 ew248 hbw248 nw248 => ?_)
            have hbw1 := hbw1.ext ew248
            have hbw2 := hbw2.ext ew248
            have hbw12 := hbw12.ext ew248
            have hbw21 := hbw21.ext ew248
            have hbw26 := hbw26.ext ew248
            have fw12 := fw12.ext ew248
            have fw48 := fw48.ext ew248
            have fw62 := fw62.ext ew248
            have fw75 := fw75.ext ew248
            have fw167 := fw167.ext ew248
            have fw212 := fw212.ext ew248
            have fw243_0 := fw243_0.ext ew248
            have e := Only.trans e ew248
            have er := Only.trans er ew248
            have zw248 := ew248.size
            refine ⟨⟨_, hbw2.cell 0, _, hbw2.cell 1, _, hbw2.cell 2, _, hbw2.cell 3, _, hbw2.cell 4, _, hbw2.cell 5, _, hbw2.cell 6, _, hbw2.cell 7, _, hbw2.cell 8, rfl⟩, ?_⟩
            refine ⟨⟨p0_0, hbw1.cell 0, _, hbw1.cell 1, p0_1_1, hbw1.cell 2, rfl⟩, ?_⟩
            refine ⟨?_, ?_⟩
            · skip
              refine put_step hbw248 rfl rfl (fun w261 ow261 hbw248q nw261 => ?_)
              have hbw1 := hbw1.only ow261 (by omega)
              have hbw2 := hbw2.only ow261 (by omega)
              have hbw12 := hbw12.only ow261 (by omega)
              have hbw21 := hbw21.only ow261 (by omega)
              have hbw26 := hbw26.only ow261 (by omega)
              have fw12 := fw12.only ow261 (fun k h1 h2 => by omega)
              have fw48 := fw48.only ow261 (fun k h1 h2 => by omega)
              have fw62 := fw62.only ow261 (fun k h1 h2 => by omega)
              have fw75 := fw75.only ow261 (fun k h1 h2 => by omega)
              have fw167 := fw167.only ow261 (fun k h1 h2 => by omega)
              have fw212 := fw212.only ow261 (fun k h1 h2 => by omega)
              have fw243_0 := fw243_0.only ow261 (fun k h1 h2 => by omega)
              have e := Ext.own e ow261 (fun k hk => by omega)
              have er := Ext.own er ow261 (fun k hk => by omega)
              have hbw248 := hbw248q
              have hbl := hbw248.lt
              exact ⟨_, _, _, _, rfl, rfl, by omega, by omega, by omega, by omega, hbl, hbw248, fw243_0, er⟩
            · skip
              trivial
          · skip
            trivial
        · skip
          refine ⟨?_, ?_⟩
          · skip
            refine alloc_step (fun w222 ew222 hbw222 nw222 => ?_)
            have hbw1 := hbw1.ext ew222
            have hbw2 := hbw2.ext ew222
            have hbw12 := hbw12.ext ew222
            have hbw21 := hbw21.ext ew222
            have hbw26 := hbw26.ext ew222
            have fw12 := fw12.ext ew222
            have fw48 := fw48.ext ew222
            have fw62 := fw62.ext ew222
            have fw75 := fw75.ext ew222
            have fw167 := fw167.ext ew222
            have fw212 := fw212.ext ew222
            have e := Only.trans e ew222
            have er := Only.trans er ew222
            have zw222 := ew222.size
            refine ⟨⟨_, hbw2.cell 0, _, hbw2.cell 1, _, hbw2.cell 2, _, hbw2.cell 3, _, hbw2.cell 4, _, hbw2.cell 5, _, hbw2.cell 6, _, hbw2.cell 7, _, hbw2.cell 8, rfl⟩, ?_⟩
            refine ⟨⟨p0_0, hbw1.cell 0, _, hbw1.cell 1, p0_1_1, hbw1.cell 2, rfl⟩, ?_⟩
            refine ⟨?_, ?_⟩
            · skip
              refine (implMapPage (root := root) (va := va) fw167.is sz0 fw212.is).mono ?_
              rintro _ w236 ⟨yw236_0, rfl, fw236_0, ew236⟩
              have hbw1 := hbw1.ext ew236
              have hbw2 := hbw2.ext ew236
              have hbw12 := hbw12.ext ew236
              have hbw21 := hbw21.ext ew236
              have hbw26 := hbw26.ext ew236
              have hbw222 := hbw222.ext ew236
              have fw12 := fw12.ext ew236
              have fw48 := fw48.ext ew236
              have fw62 := fw62.ext ew236
              have fw75 := fw75.ext ew236
              have fw167 := fw167.ext ew236
              have fw212 := fw212.ext ew236
              have e := Only.trans e ew236
              have er := Only.trans er ew236
              have zw236 := ew236.size
              have hiyw236_0 := fw236_0.is
              obtain ⟨ryw236_0_0, ryw236_0_1_1, rfl, _, _, _, _⟩ := cells_Pool hiyw236_0
              refine ⟨ryw236_0_0, _, ryw236_0_1_1, _, rfl, ?_⟩
              refine ⟨?_, ?_⟩
              · skip
                refine put_step hbw222 rfl rfl (fun w241 ow241 hbw222q nw241 => ?_)
                have hbw1 := hbw1.only ow241 (by omega)
                have hbw2 := hbw2.only ow241 (by omega)
                have hbw12 := hbw12.only ow241 (by omega)
                have hbw21 := hbw21.only ow241 (by omega)
                have hbw26 := hbw26.only ow241 (by omega)
                have fw12 := fw12.only ow241 (fun k h1 h2 => by omega)
                have fw48 := fw48.only ow241 (fun k h1 h2 => by omega)
                have fw62 := fw62.only ow241 (fun k h1 h2 => by omega)
                have fw75 := fw75.only ow241 (fun k h1 h2 => by omega)
                have fw167 := fw167.only ow241 (fun k h1 h2 => by omega)
                have fw212 := fw212.only ow241 (fun k h1 h2 => by omega)
                have fw236_0 := fw236_0.only ow241 (fun k h1 h2 => by omega)
                have e := Ext.own e ow241 (fun k hk => by omega)
                have er := Ext.own er ow241 (fun k hk => by omega)
                have hbw222 := hbw222q
                have hbl := hbw222.lt
                exact ⟨_, _, _, _, rfl, rfl, by omega, by omega, by omega, by omega, hbl, hbw222, fw236_0, er⟩
              · skip
                trivial
            · skip
              trivial
          · skip
            trivial
      · skip
        refine ⟨?_, ?_⟩
        · skip
          refine alloc_step (fun w180 ew180 hbw180 nw180 => ?_)
          have hbw1 := hbw1.ext ew180
          have hbw2 := hbw2.ext ew180
          have hbw12 := hbw12.ext ew180
          have hbw21 := hbw21.ext ew180
          have hbw26 := hbw26.ext ew180
          have fw12 := fw12.ext ew180
          have fw48 := fw48.ext ew180
          have fw62 := fw62.ext ew180
          have fw75 := fw75.ext ew180
          have fw167 := fw167.ext ew180
          have e := Only.trans e ew180
          have er := Only.trans er ew180
          have zw180 := ew180.size
          refine ⟨⟨_, hbw2.cell 0, _, hbw2.cell 1, _, hbw2.cell 2, _, hbw2.cell 3, _, hbw2.cell 4, _, hbw2.cell 5, _, hbw2.cell 6, _, hbw2.cell 7, _, hbw2.cell 8, rfl⟩, ?_⟩
          refine ⟨⟨p0_0, hbw1.cell 0, _, hbw1.cell 1, p0_1_1, hbw1.cell 2, rfl⟩, ?_⟩
          refine ⟨?_, ?_⟩
          · skip
            refine (c49 (DEntry.has _) (IsD.ext e _ _ h3) (by have := entry_sz en; omega)).mono ?_
            rintro _ w194 ⟨yw194, rfl, fw194, ew194⟩
            have hbw1 := hbw1.ext ew194
            have hbw2 := hbw2.ext ew194
            have hbw12 := hbw12.ext ew194
            have hbw21 := hbw21.ext ew194
            have hbw26 := hbw26.ext ew194
            have hbw180 := hbw180.ext ew194
            have fw12 := fw12.ext ew194
            have fw48 := fw48.ext ew194
            have fw62 := fw62.ext ew194
            have fw75 := fw75.ext ew194
            have fw167 := fw167.ext ew194
            have e := Only.trans e ew194
            have er := Only.trans er ew194
            have zw194 := ew194.size
            have hiyw194 := fw194.is
            obtain ⟨rfl, _⟩ := cells_Entry hiyw194
            refine ⟨_, _, _, _, _, _, _, _, _, rfl, ?_⟩
            refine ⟨?_, ?_⟩
            · skip
              refine (implMapPage (root := root) (va := va) fw167.is sz0 fw194.is).mono ?_
              rintro _ w205 ⟨yw205_0, rfl, fw205_0, ew205⟩
              have hbw1 := hbw1.ext ew205
              have hbw2 := hbw2.ext ew205
              have hbw12 := hbw12.ext ew205
              have hbw21 := hbw21.ext ew205
              have hbw26 := hbw26.ext ew205
              have hbw180 := hbw180.ext ew205
              have fw12 := fw12.ext ew205
              have fw48 := fw48.ext ew205
              have fw62 := fw62.ext ew205
              have fw75 := fw75.ext ew205
              have fw167 := fw167.ext ew205
              have fw194 := fw194.ext ew205
              have e := Only.trans e ew205
              have er := Only.trans er ew205
              have zw205 := ew205.size
              have hiyw205_0 := fw205_0.is
              obtain ⟨ryw205_0_0, ryw205_0_1_1, rfl, _, _, _, _⟩ := cells_Pool hiyw205_0
              refine ⟨ryw205_0_0, _, ryw205_0_1_1, _, rfl, ?_⟩
              refine ⟨?_, ?_⟩
              · skip
                refine put_step hbw180 rfl rfl (fun w210 ow210 hbw180q nw210 => ?_)
                have hbw1 := hbw1.only ow210 (by omega)
                have hbw2 := hbw2.only ow210 (by omega)
                have hbw12 := hbw12.only ow210 (by omega)
                have hbw21 := hbw21.only ow210 (by omega)
                have hbw26 := hbw26.only ow210 (by omega)
                have fw12 := fw12.only ow210 (fun k h1 h2 => by omega)
                have fw48 := fw48.only ow210 (fun k h1 h2 => by omega)
                have fw62 := fw62.only ow210 (fun k h1 h2 => by omega)
                have fw75 := fw75.only ow210 (fun k h1 h2 => by omega)
                have fw167 := fw167.only ow210 (fun k h1 h2 => by omega)
                have fw194 := fw194.only ow210 (fun k h1 h2 => by omega)
                have fw205_0 := fw205_0.only ow210 (fun k h1 h2 => by omega)
                have e := Ext.own e ow210 (fun k hk => by omega)
                have er := Ext.own er ow210 (fun k hk => by omega)
                have hbw180 := hbw180q
                have hbl := hbw180.lt
                exact ⟨_, _, _, _, rfl, rfl, by omega, by omega, by omega, by omega, hbl, hbw180, fw205_0, er⟩
              · skip
                trivial
            · skip
              trivial
          · skip
            trivial
        · skip
          trivial
    · skip
      refine ⟨?_, ?_⟩
      · skip
        refine alloc_step (fun w121 ew121 hbw121 nw121 => ?_)
        have hbw1 := hbw1.ext ew121
        have hbw2 := hbw2.ext ew121
        have hbw12 := hbw12.ext ew121
        have hbw21 := hbw21.ext ew121
        have hbw26 := hbw26.ext ew121
        have fw12 := fw12.ext ew121
        have fw48 := fw48.ext ew121
        have fw62 := fw62.ext ew121
        have fw75 := fw75.ext ew121
        have e := Only.trans e ew121
        have er := Only.trans er ew121
        have zw121 := ew121.size
        refine ⟨⟨_, hbw2.cell 0, _, hbw2.cell 1, _, hbw2.cell 2, _, hbw2.cell 3, _, hbw2.cell 4, _, hbw2.cell 5, _, hbw2.cell 6, _, hbw2.cell 7, _, hbw2.cell 8, rfl⟩, ?_⟩
        refine ⟨⟨p0_0, hbw1.cell 0, _, hbw1.cell 1, p0_1_1, hbw1.cell 2, rfl⟩, ?_⟩
        refine ⟨?_, ?_⟩
        · skip
          refine (c34 (DPool.has _) (IsD.ext e _ _ h0) (by have := sz0; omega)).mono ?_
          rintro _ w135 ⟨yw135, rfl, fw135, ew135⟩
          have hbw1 := hbw1.ext ew135
          have hbw2 := hbw2.ext ew135
          have hbw12 := hbw12.ext ew135
          have hbw21 := hbw21.ext ew135
          have hbw26 := hbw26.ext ew135
          have hbw121 := hbw121.ext ew135
          have fw12 := fw12.ext ew135
          have fw48 := fw48.ext ew135
          have fw62 := fw62.ext ew135
          have fw75 := fw75.ext ew135
          have e := Only.trans e ew135
          have er := Only.trans er ew135
          have zw135 := ew135.size
          have hiyw135 := fw135.is
          obtain ⟨ryw135_0, ryw135_1_1, rfl, _, _, _, _⟩ := cells_Pool hiyw135
          refine ⟨ryw135_0, _, ryw135_1_1, rfl, ?_⟩
          refine ⟨⟨_, hbw2.cell 0, _, hbw2.cell 1, _, hbw2.cell 2, _, hbw2.cell 3, _, hbw2.cell 4, _, hbw2.cell 5, _, hbw2.cell 6, _, hbw2.cell 7, _, hbw2.cell 8, rfl⟩, ?_⟩
          refine ⟨?_, ?_⟩
          · skip
            refine (c49 (DEntry.has _) (IsD.ext e _ _ h3) (by have := entry_sz en; omega)).mono ?_
            rintro _ w149 ⟨yw149, rfl, fw149, ew149⟩
            have hbw1 := hbw1.ext ew149
            have hbw2 := hbw2.ext ew149
            have hbw12 := hbw12.ext ew149
            have hbw21 := hbw21.ext ew149
            have hbw26 := hbw26.ext ew149
            have hbw121 := hbw121.ext ew149
            have fw12 := fw12.ext ew149
            have fw48 := fw48.ext ew149
            have fw62 := fw62.ext ew149
            have fw75 := fw75.ext ew149
            have fw135 := fw135.ext ew149
            have e := Only.trans e ew149
            have er := Only.trans er ew149
            have zw149 := ew149.size
            have hiyw149 := fw149.is
            obtain ⟨rfl, _⟩ := cells_Entry hiyw149
            refine ⟨_, _, _, _, _, _, _, _, _, rfl, ?_⟩
            refine ⟨?_, ?_⟩
            · skip
              refine (implMapPage (root := root) (va := va) fw135.is sz0 fw149.is).mono ?_
              rintro _ w160 ⟨yw160_0, rfl, fw160_0, ew160⟩
              have hbw1 := hbw1.ext ew160
              have hbw2 := hbw2.ext ew160
              have hbw12 := hbw12.ext ew160
              have hbw21 := hbw21.ext ew160
              have hbw26 := hbw26.ext ew160
              have hbw121 := hbw121.ext ew160
              have fw12 := fw12.ext ew160
              have fw48 := fw48.ext ew160
              have fw62 := fw62.ext ew160
              have fw75 := fw75.ext ew160
              have fw135 := fw135.ext ew160
              have fw149 := fw149.ext ew160
              have e := Only.trans e ew160
              have er := Only.trans er ew160
              have zw160 := ew160.size
              have hiyw160_0 := fw160_0.is
              obtain ⟨ryw160_0_0, ryw160_0_1_1, rfl, _, _, _, _⟩ := cells_Pool hiyw160_0
              refine ⟨ryw160_0_0, _, ryw160_0_1_1, _, rfl, ?_⟩
              refine ⟨?_, ?_⟩
              · skip
                refine put_step hbw121 rfl rfl (fun w165 ow165 hbw121q nw165 => ?_)
                have hbw1 := hbw1.only ow165 (by omega)
                have hbw2 := hbw2.only ow165 (by omega)
                have hbw12 := hbw12.only ow165 (by omega)
                have hbw21 := hbw21.only ow165 (by omega)
                have hbw26 := hbw26.only ow165 (by omega)
                have fw12 := fw12.only ow165 (fun k h1 h2 => by omega)
                have fw48 := fw48.only ow165 (fun k h1 h2 => by omega)
                have fw62 := fw62.only ow165 (fun k h1 h2 => by omega)
                have fw75 := fw75.only ow165 (fun k h1 h2 => by omega)
                have fw135 := fw135.only ow165 (fun k h1 h2 => by omega)
                have fw149 := fw149.only ow165 (fun k h1 h2 => by omega)
                have fw160_0 := fw160_0.only ow165 (fun k h1 h2 => by omega)
                have e := Ext.own e ow165 (fun k hk => by omega)
                have er := Ext.own er ow165 (fun k hk => by omega)
                have hbw121 := hbw121q
                have hbl := hbw121.lt
                exact ⟨_, _, _, _, rfl, rfl, by omega, by omega, by omega, by omega, hbl, hbw121, fw160_0, er⟩
              · skip
                trivial
            · skip
              trivial
          · skip
            trivial
        · skip
          trivial
      · skip
        trivial
  rintro (p84 : Option Addr) (n85 : Int) w87 ⟨bw87, low87, hiw87, yw87, rfl, rfl, hxw87, hlow87, hhiw87, hdsw87, hblw87, hbw87, fw87, erw87⟩
  have hbw1 := hbw1.ext erw87
  have hbw2 := hbw2.ext erw87
  have hbw12 := hbw12.ext erw87
  have hbw21 := hbw21.ext erw87
  have hbw26 := hbw26.ext erw87
  have fw12 := fw12.ext erw87
  have fw48 := fw48.ext erw87
  have fw62 := fw62.ext erw87
  have fw75 := fw75.ext erw87
  have e := Only.trans e erw87
  have zw87 := erw87.size
  have hiyw87 := fw87.is
  obtain ⟨ryw87_0, ryw87_1_1, rfl, _, _, _, _⟩ := cells_Pool hiyw87
  refine addrOf_mk ?_
  refine ⟨ryw87_0, hbw87.cell 0, ?_⟩
  refine ⟨_, hbw87.cell 1, ?_⟩
  refine ⟨ryw87_1_1, hbw87.cell 2, ?_⟩
  refine addrOf_mk ?_
  refine ⟨ryw12_0, hbw12.cell 0, ?_⟩
  refine ⟨_, hbw12.cell 1, ?_⟩
  refine ⟨ryw12_1_1, hbw12.cell 2, ?_⟩
  refine (c36 (DPool.has _) fw87.is fw12.is).mono ?_
  rintro _ w97 ⟨rfl, ew97⟩
  have hbw1 := hbw1.ext ew97
  have hbw2 := hbw2.ext ew97
  have hbw12 := hbw12.ext ew97
  have hbw21 := hbw21.ext ew97
  have hbw26 := hbw26.ext ew97
  have hbw87 := hbw87.ext ew97
  have fw12 := fw12.ext ew97
  have fw48 := fw48.ext ew97
  have fw62 := fw62.ext ew97
  have fw75 := fw75.ext ew97
  have fw87 := fw87.ext ew97
  have e := Only.trans e ew97
  have zw97 := ew97.size
  refine ⟨_, rfl, ?_⟩
  refine JoinW.each ?_
  refine BIf.f rfl ?_
  refine BIf.f (by first | (simp; done) | (simp; omega)) ?_
  refine addrOf_mk ?_
  refine ⟨ryw26_0, hbw26.cell 0, ?_⟩
  refine ⟨_, hbw26.cell 1, ?_⟩
  refine ⟨ryw26_1_1, hbw26.cell 2, ?_⟩
  refine (c40 hsw75 fw75.is mkw75 (by omega) (by have := cnw75; have := mapP_cnt (root := root) (va := va) (e := en) h0 sz0; omega)).mono ?_
  rintro _ w107 ⟨rfl, ew107⟩
  have hbw1 := hbw1.ext ew107
  have hbw2 := hbw2.ext ew107
  have hbw12 := hbw12.ext ew107
  have hbw21 := hbw21.ext ew107
  have hbw26 := hbw26.ext ew107
  have hbw87 := hbw87.ext ew107
  have fw12 := fw12.ext ew107
  have fw48 := fw48.ext ew107
  have fw62 := fw62.ext ew107
  have fw75 := fw75.ext ew107
  have fw87 := fw87.ext ew107
  have e := Only.trans e ew107
  have zw107 := ew107.size
  refine ⟨_, rfl, ?_⟩
  refine BIf.f (decide_eq_false (by omega)) ?_
  refine BIf.f (by first | (simp; done) | (simp; omega)) ?_
  exact ⟨by trivial, e⟩
open Go.RowKit in
theorem law_calls11 {w : World} {c0 : Array Value} {x : DPool} (h0 : cDPool.is w c0.toList x) {root : Int} (wf1 : (Lit.int .i64 root).wf = true) {va : Int} (wf2 : (Lit.int .i64 va).wf = true) {c3 : Array Value} {en : DEntry} (h3 : cDEntry.is w c3.toList en) : Calls Try.prog 11 #[.agg c0, .int .i64 root, .int .i64 va, .agg c3] w (fun e w' => e = .returned (.bool true) ∧ Below w.heap.size w w') :=
  (walk11 (cDPool_dat h0) (root := root) wf1 (va := va) wf2 (cDEntry_dat h3)).mono (by rintro e w' ⟨v, rfl, rfl, he⟩; exact ⟨rfl, he.below⟩)
end Go.Proofs.Ytkgoanjemhbjgaa

/- The row of the law FnExactMapPage: what its walk shows is what the statement says. Conditions: none. -/
namespace Go.Proofs.Ytkgoanjemhbjgaa.fnExactMapPage
open Go.ChangeShapes Go.WideShapes Go.ChangeAt Go.RowKit
open Go.ChangeMaps (open_string shut_string)
set_option linter.unusedVariables false
theorem own : ownKnob Try.prog.godebug = none := by kernel_rfl
theorem laidOut : laidOutB Try.prog = true := by kernel_rfl
set_option maxRecDepth 100000 in
theorem lifted (os : Os) (started : os.Started) (H : Type) (enc : TypeId × Value → H) :
    ReturnsInHanded {} Try.checked os 11 .any (Rows.fnExactMapPageSpec.pre6 enc Try.prog Try.f11 Rows.fnExactMapPageRow.domain false) (Rows.fnExactMapPageSpec.post enc Try.prog Try.f11 false true false false) := by
  refine returnsInHanded_of_change_sized (C := Try.checked) own started (by kernel_rfl) Try.func11
    (ChangeSpec.witness6 (enc := enc) (C := Try.checked) false ⟨#[], #[.agg #[.slice none 0 0, .int .i64 0, .slice none 0 0], .int .i64 0, .int .i64 0, .agg #[.bool false, .bool false, .bool false, .bool false, .bool false, .bool false, .bool false, .bool false, .int .i64 0]], []⟩ 8 (by kernel_rfl) (by kernel_rfl) (by kernel_rfl) (by kernel_rfl)) ?_
  intro W base args ds gs before hval0 hW hcnd hsz0 _
  have hsz : (DataW.weightsEach Try.prog (Try.f11.params.toList ++ Rows.fnExactMapPageSpec.plain.varTypes Try.prog) (ds ++ gs)).all (· ≤ reachBytes) = true := hsz0
  have hval : ∀ (j : Nat) t v, Try.f11.params[j]? = some t → args[j]? = some v → Value.okWide Try.prog W .any base t v := hval0
  have hW' := hW
  obtain ⟨p, q, hA0, hV, rfl, hfz, hnd⟩ := hW
  have hA : DataW.TrodAll enc Try.prog W 0 (fun _ => true) true Try.f11.params.toList args.toList ds p := hA0
  rw [Try.params11] at hA hval hsz
  obtain ⟨v0, vs0, d0, ds0, p0, q0, hargs, rfl, rfl, h0, r0⟩ := trodAll_cons hA
  obtain ⟨v1, vs1, d1, ds1, p1, q1, rfl, rfl, rfl, h1, r1⟩ := trodAll_cons r0
  obtain ⟨v2, vs2, d2, ds2, p2, q2, rfl, rfl, rfl, h2, r2⟩ := trodAll_cons r1
  obtain ⟨v3, vs3, d3, ds3, p3, q3, rfl, rfl, rfl, h3, r3⟩ := trodAll_cons r2
  obtain ⟨rfl, rfl, rfl⟩ := trodAll_nil r3
  obtain rfl : args = #[v0, v1, v2, v3] := by cases args; simp_all
  obtain ⟨rfl, rfl⟩ := trodVars_none hV
  have k0 := h0
  have lt0 : ∀ x ∈ p0, x.block < W.heap.size := by obtain ⟨m, hm⟩ := k0; exact DataW.trod_lt m _ _ _ hm
  obtain ⟨c0, rfl⟩ : ∃ cs, v0 = .agg cs := by have hv := (hval 0 58 v0 rfl rfl); unfold Value.okWide at hv; rw [Try.underlying58] at hv; exact ⟨hv.choose, hv.choose_spec.1⟩
  obtain ⟨x0, w0⟩ : ∃ x, (cDPool).is W c0.toList x := by obtain ⟨fuel, hf⟩ := h0; exact ((o58).at_ enc W fuel _ _ hf).2
  obtain ⟨a1, rfl, rfl, rfl, w1⟩ := open_int Try.underlying2 (hval 1 2 v1 rfl rfl) h1
  obtain ⟨a2, rfl, rfl, rfl, w2⟩ := open_int Try.underlying2 (hval 2 2 v2 rfl rfl) h2
  have k3 := h3
  have lt3 : ∀ x ∈ p3, x.block < W.heap.size := by obtain ⟨m, hm⟩ := k3; exact DataW.trod_lt m _ _ _ hm
  obtain ⟨c3, rfl⟩ : ∃ cs, v3 = .agg cs := by have hv := (hval 3 79 v3 rfl rfl); unfold Value.okWide at hv; rw [Try.underlying79] at hv; exact ⟨hv.choose, hv.choose_spec.1⟩
  obtain ⟨x3, w3⟩ : ∃ x, (cDEntry).is W c3.toList x := by obtain ⟨fuel, hf⟩ := h3; exact ((o79).at_ enc W fuel _ _ hf).2
  clear hA0 hval0 hsz0 hsz
  refine (law_calls11 w0 w1 w2 w3).mono fun e W' ⟨he, bel⟩ => ?_
  subst he
  exact ⟨_, rfl, _, _, _, [], _, [], hW', trodAll_mk1 (shut_bool Try.underlying4 _), (trodAll_cons_mk (Below.trod laidOut (by kernel_rfl) (of_decide_eq_true (by kernel_rfl)) k0 bel lt0) (trodAll_cons_mk (shut_int Try.underlying2 w1) (trodAll_cons_mk (shut_int Try.underlying2 w2) (trodAll_cons_mk (Below.trod laidOut (by kernel_rfl) (of_decide_eq_true (by kernel_rfl)) k3 bel lt3) trodAll_mk0)))), rfl, bel.frame _, fun h => by cases h⟩
theorem over : Rows.fnExactMapPageRow.holds Try.pinned (OpenSpec.ofChange Rows.fnExactMapPageSpec) :=
  OpenClaim.holds_of_wide 11 Try.f11 rfl rfl rfl rfl rfl rfl rfl ⟨rfl, rfl, rfl, rfl, rfl⟩ rfl rfl rfl rfl rfl (by kernel_rfl) Try.func11 (by kernel_rfl)
    (of_decide_eq_true (by kernel_rfl)) (by unfold Func.isWrapper; first | (rw [if_pos (by decide +kernel)]; kernel_rfl) | (rw [if_neg (by decide +kernel)]; exact ⟨rfl, rfl⟩))
    (fun os started H enc _ => lifted os started H enc)
theorem proved : Rows.FnExactMapPageSaid := over
#print axioms proved
end Go.Proofs.Ytkgoanjemhbjgaa.fnExactMapPage
namespace Go.Proofs.Ytkgoanjemhbjgaa
/-- The row, under a short name, for the claim. -/
theorem fnExactMapPage_holds : Rows.FnExactMapPageSaid := fnExactMapPage.proved
end Go.Proofs.Ytkgoanjemhbjgaa
