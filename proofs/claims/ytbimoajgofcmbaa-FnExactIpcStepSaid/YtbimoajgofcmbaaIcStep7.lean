/- Part 7 of 7: plain readings of code, rules for them, and a proof over them, joined by a program. Conditions: none. -/
import Derived.Test.YtbimoajgofcmbaaIcStep6
import Derived.Test.YtbimoajgofcmbaaRows
import Derived.WalkKit
import Derived.ProofKit
import Derived.OpenShut
import Derived.ShutString
import Derived.ChangeOld
import Derived.Below
import Derived.Carry
import Derived.SizedLaws
set_option linter.unusedVariables false
set_option linter.unusedSimpArgs false
set_option linter.unusedSectionVars false
set_option maxRecDepth 4000
namespace Go.Proofs.Ytbimoajgofcmbaa
open Go Go.Den
theorem fa8_0 {w : World} {b : Nat} {y0 : Int} {y1 : Int} {y2 : Int} {y3 : Int} {y4 : Int} {y5 : Int} {y6 : Int} {y7 : Sl} (h : Blk w b [.int .i64 y0, .int .i64 y1, .int .i64 y2, .int .i64 y3, .int .i64 y4, .int .i64 y5, .int .i64 y6, .slice y7.a y7.len y7.cap]) : Fa8_0 w b y0 y1 y2 y3 y4 y5 y6 y7 := ⟨_, h.cell 0, _, h.cell 1, _, h.cell 2, _, h.cell 3, _, h.cell 4, _, h.cell 5, _, h.cell 6, _, h.cell 7, rfl⟩
theorem fa8_1 {w : World} {b : Nat} {y0 : Int} {y1 : Sl} {y2 : Sl} {y3 : Sl} (h : Blk w b [.int .i64 y0, .slice y1.a y1.len y1.cap, .slice y2.a y2.len y2.cap, .slice y3.a y3.len y3.cap]) : Fa8_1 w b y0 y1 y2 y3 := ⟨_, h.cell 0, _, h.cell 1, _, h.cell 2, _, h.cell 3, rfl⟩
theorem goc8 {a0_0 : Int} {a0_1 : Sl} {a0_2 : Sl} {a0_3 : Sl} {a1_0 : Int} {a1_1 : Int} {a1_2 : Int} {a1_3 : Int} {a1_4 : Int} {a1_5 : Int} {a1_6 : Int} {a1_7 : Sl} {w : World} {K : Value → World → Prop} (h : W8 a0_0 a0_1 a0_2 a0_3 a1_0 a1_1 a1_2 a1_3 a1_4 a1_5 a1_6 a1_7 w K) : Calls Try.prog 8 #[.agg #[.int .i64 a0_0, .slice a0_1.a a0_1.len a0_1.cap, .slice a0_2.a a0_2.len a0_2.cap, .slice a0_3.a a0_3.len a0_3.cap], .agg #[.int .i64 a1_0, .int .i64 a1_1, .int .i64 a1_2, .int .i64 a1_3, .int .i64 a1_4, .int .i64 a1_5, .int .i64 a1_6, .slice a1_7.a a1_7.len a1_7.cap]] w (fun e w' => ∃ v, e = .returned v ∧ K v w') :=
 denFn_sound tt_ok mix Try.func8 (by kernel_rfl) (eq8 a0_0 a0_1 a0_2 a0_3 a1_0 a1_1 a1_2 a1_3 a1_4 a1_5 a1_6 a1_7 w K ▸ h)
set_option maxHeartbeats 8000000 in
theorem walk8 {w : World} {x : DIpc} {cs0 : List Value} (h0 : IsD w (x.dat) cs0) {op : DIpcOp} {cs1 : List Value} (h1 : IsD w (op.dat) cs1) : Calls Try.prog 8 #[.agg ⟨cs0⟩, .agg ⟨cs1⟩] w (fun e w' => ∃ v, e = .returned v ∧ (v = .bool true ∧ Ext w w')) := by
 obtain ⟨p0_1, p0_2, p0_3, rfl, _, _, _, _⟩ := cells_Ipc h0
 obtain ⟨p1_7, rfl, _, _, _, _, _, _, _, _⟩ := cells_IpcOp h1
 refine goc8 ?_
 unfold W8; (try delta qn ql qb qi qS qI qP qQ qR qU qA qC H8_1 H8_4 H8_3 H8_2 H8_5 H8_8 H8_7 H8_6 H8_9 H8_10 H8_0 H8_12 H8_11)
 refine alloc_step (fun w1 ew1 hbw1 nw1 => ?_)
 have e := ew1
 have zw1 := ew1.size
 refine alloc_step (fun w2 ew2 hbw2 nw2 => ?_)
 have hbw1 := hbw1.ext ew2
 have e := Only.trans e ew2
 have zw2 := ew2.size
 refine ⟨_, hbw1.cell 0, ?_⟩
 refine ⟨p0_1, hbw1.cell 1, ?_⟩
 refine ⟨p0_2, hbw1.cell 2, ?_⟩
 refine ⟨p0_3, hbw1.cell 3, ?_⟩
 refine (c9 (DIpc.has _) (IsD.ext e _ _ h0) (by omega) (by omega)).mono ?_
 rintro _ w8 ⟨⟨rw8, rfl, hrw8⟩, ew8⟩
 have hbw1 := hbw1.ext ew8
 have hbw2 := hbw2.ext ew8
 have e := Only.trans e ew8
 have zw8 := ew8.size
 refine ⟨_, rfl, ?_⟩
 refine BIf.dec (fun hn => ⟨rfl, e⟩) (fun hpw8 => ?_)
 have sz0 : (x.dat).sz ≤ 1048576 := by omega
 refine ⟨_, hbw2.cell 0, ?_⟩
 refine ⟨_, hbw2.cell 1, ?_⟩
 refine ⟨_, hbw2.cell 2, ?_⟩
 refine ⟨_, hbw2.cell 3, ?_⟩
 refine ⟨_, hbw2.cell 4, ?_⟩
 refine ⟨_, hbw2.cell 5, ?_⟩
 refine ⟨_, hbw2.cell 6, ?_⟩
 refine ⟨p1_7, hbw2.cell 7, ?_⟩
 refine (c38 (DIpcOp.has _) (IsD.ext e _ _ h1) (by omega) (by omega)).mono ?_
 rintro _ w19 ⟨⟨rw19, rfl, hrw19⟩, ew19⟩
 have hbw1 := hbw1.ext ew19
 have hbw2 := hbw2.ext ew19
 have e := Only.trans e ew19
 have zw19 := ew19.size
 refine ⟨_, rfl, ?_⟩
 refine BIf.dec (fun hn => ⟨rfl, e⟩) (fun hpw19 => ?_)
 have sz1 : (op.dat).sz ≤ 1048576 := by omega
 refine JoinW.cut2 (fun (p21 : Option Addr) (p22 : Option Addr) w' => ∃ (b lo hi : Nat) (y : List Value) (b1 lo1 hi1 : Nat) (y1 : List Value), p21 = some ⟨b, 0, none⟩ ∧ p22 = some ⟨b1, 0, none⟩ ∧ w19.heap.size ≤ b ∧ w19.heap.size ≤ lo ∧ hi ≤ w'.heap.size ∧ (b < lo ∨ hi ≤ b) ∧ b < w'.heap.size ∧ w19.heap.size ≤ b1 ∧ w19.heap.size ≤ lo1 ∧ hi1 ≤ w'.heap.size ∧ (b1 < lo1 ∨ hi1 ≤ b1) ∧ b1 < w'.heap.size ∧ Blk w' b y ∧ Fr lo hi w' (stepA x op).1.dat y ∧ Blk w' b1 y1 ∧ Fr lo1 hi1 w' (stepA x op).2.dat y1 ∧ Ext w19 w') ?_ ?_
 ·
  have er : Ext w19 w19 := Only.refl _ _
  have zr0 : w19.heap.size ≤ w19.heap.size := Nat.le_refl _
  have zkw_heap_size : w.heap.size < w19.heap.size := by have := hbw1.lt; omega
  have zkw1_heap_size : w1.heap.size < w19.heap.size := by have := hbw2.lt; omega
  have zw0 : w.heap.size ≤ w19.heap.size := by omega
  try clear nw1
  try clear zw1
  try clear nw2
  try clear zw2
  try clear hrw8
  try clear zw8
  try clear hpw8
  try clear hrw19
  try clear zw19
  try clear hpw19
  have ed := ext_drew w19
  have hbw1 := hbw1.ext ed
  have hbw2 := hbw2.ext ed
  have er := Only.trans er ed
  have zw19_drew := ed.size
  refine ⟨_, hbw1.cell 0, ?_⟩
  refine ⟨p0_1, hbw1.cell 1, ?_⟩
  refine ⟨p0_2, hbw1.cell 2, ?_⟩
  refine ⟨p0_3, hbw1.cell 3, ?_⟩
  refine ⟨_, hbw2.cell 0, ?_⟩
  refine ⟨_, hbw2.cell 1, ?_⟩
  refine ⟨_, hbw2.cell 2, ?_⟩
  refine ⟨_, hbw2.cell 3, ?_⟩
  refine ⟨_, hbw2.cell 4, ?_⟩
  refine ⟨_, hbw2.cell 5, ?_⟩
  refine ⟨_, hbw2.cell 6, ?_⟩
  refine ⟨p1_7, hbw2.cell 7, ?_⟩
  refine ⟨?_, ?_⟩
  ·
   refine (c11 (DIpc.has _) (IsD.ext (Only.trans e er) _ _ h0) (by have := sz0; omega)).mono ?_
   rintro _ w1432 ⟨yw1432, rfl, fw1432, ew1432⟩
   have hbw1 := hbw1.ext ew1432
   have hbw2 := hbw2.ext ew1432
   have er := Only.trans er ew1432
   have zw1432 := ew1432.size
   have hiyw1432 := fw1432.is
   obtain ⟨ryw1432_1, ryw1432_2, ryw1432_3, rfl, _, _, _, _⟩ := cells_Ipc hiyw1432
   refine ⟨_, ryw1432_1, ryw1432_2, ryw1432_3, rfl, ?_⟩
   refine ⟨fa8_0 hbw2, ?_⟩
   refine ⟨?_, ?_⟩
   ·
    refine (c39 (DIpcOp.has _) (IsD.ext (Only.trans e er) _ _ h1) (by have := sz1; omega)).mono ?_
    rintro _ w1662 ⟨yw1662, rfl, fw1662, ew1662⟩
    have hbw1 := hbw1.ext ew1662
    have hbw2 := hbw2.ext ew1662
    have fw1432 := fw1432.ext ew1662
    have er := Only.trans er ew1662
    have zw1662 := ew1662.size
    have hiyw1662 := fw1662.is
    obtain ⟨ryw1662_7, rfl, _, _, _, _, _, _, _, _⟩ := cells_IpcOp hiyw1662
    refine ⟨_, _, _, _, _, _, _, ryw1662_7, rfl, ?_⟩
    refine ⟨?_, ?_⟩
    ·
     refine (specIpcStep fw1432.is sz0 fw1662.is sz1).mono ?_
     rintro _ w1798 ⟨yw1798_0, yw1798_1, bsw1798_0, bsw1798_1, rfl, fw1798_0, fw1798_1, djw1798, ew1798⟩
     have hbw1 := hbw1.ext ew1798
     have hbw2 := hbw2.ext ew1798
     have er := Only.trans er ew1798
     have zw1798 := ew1798.size
     have hiyw1798_0 := fw1798_0.is
     obtain ⟨ryw1798_0_1, ryw1798_0_2, ryw1798_0_3, rfl, _, _, _, _⟩ := cells_Ipc hiyw1798_0
     have hiyw1798_1 := fw1798_1.is
     obtain ⟨ryw1798_1_2, rfl, _, _, _, _⟩ := cells_IpcRes hiyw1798_1
     refine ⟨_, ryw1798_0_1, ryw1798_0_2, ryw1798_0_3, _, _, ryw1798_1_2, _, rfl, ?_⟩
     refine ⟨?_, ?_⟩
     ·
      refine alloc_step (fun w1835 ew1835 hbw1835 nw1835 => ?_)
      have hbw1 := hbw1.ext ew1835
      have hbw2 := hbw2.ext ew1835
      have fw1798_0 := fw1798_0.ext ew1835
      have fw1798_1 := fw1798_1.ext ew1835
      have er := Only.trans er ew1835
      have zw1835 := ew1835.size
      refine ⟨fa8_0 hbw2, ?_⟩
      refine ⟨fa8_1 hbw1, ?_⟩
      refine ⟨?_, trivial⟩
      refine alloc_step (fun w1848 ew1848 hbw1848 nw1848 => ?_)
      have hbw1 := hbw1.ext ew1848
      have hbw2 := hbw2.ext ew1848
      have hbw1835 := hbw1835.ext ew1848
      have fw1798_0 := fw1798_0.ext ew1848
      have fw1798_1 := fw1798_1.ext ew1848
      have er := Only.trans er ew1848
      have zw1848 := ew1848.size
      refine ⟨fa8_0 hbw2, ?_⟩
      refine ⟨fa8_1 hbw1, ?_⟩
      refine ⟨?_, trivial⟩
      refine put_step hbw1835 rfl rfl (fun w1861 ow1861 hbw1835q nw1861 => ?_)
      have hbw1848 := hbw1848.only ow1861 (by omega)
      have fw1798_0 := fw1798_0.only ow1861 (fun k h1 h2 => by omega)
      have fw1798_1 := fw1798_1.only ow1861 (fun k h1 h2 => by omega)
      have er := Ext.own er ow1861 (fun k hk => by omega)
      have hbw1835 := hbw1835q
      refine ⟨?_, trivial⟩
      refine put_step hbw1848 rfl rfl (fun w1862 ow1862 hbw1848q nw1862 => ?_)
      have hbw1835 := hbw1835.only ow1862 (by omega)
      have fw1798_0 := fw1798_0.only ow1862 (fun k h1 h2 => by omega)
      have fw1798_1 := fw1798_1.only ow1862 (fun k h1 h2 => by omega)
      have er := Ext.own er ow1862 (fun k hk => by omega)
      have hbw1848 := hbw1848q
      have hbl := hbw1835.lt
      have hbl1 := hbw1848.lt
      exact ⟨_, _, _, _, _, _, _, _, rfl, rfl, by omega, by omega, by omega, by omega, hbl, by omega, by omega, by omega, by omega, hbl1, hbw1835, fw1798_0.fr, hbw1848, fw1798_1.fr, er⟩
     refine ⟨?_, trivial⟩
     refine alloc_step (fun w1807 ew1807 hbw1807 nw1807 => ?_)
     have hbw1 := hbw1.ext ew1807
     have hbw2 := hbw2.ext ew1807
     have fw1798_0 := fw1798_0.ext ew1807
     have fw1798_1 := fw1798_1.ext ew1807
     have er := Only.trans er ew1807
     have zw1807 := ew1807.size
     refine ⟨fa8_0 hbw2, ?_⟩
     refine ⟨fa8_1 hbw1, ?_⟩
     refine ⟨?_, trivial⟩
     refine alloc_step (fun w1820 ew1820 hbw1820 nw1820 => ?_)
     have hbw1 := hbw1.ext ew1820
     have hbw2 := hbw2.ext ew1820
     have hbw1807 := hbw1807.ext ew1820
     have fw1798_0 := fw1798_0.ext ew1820
     have fw1798_1 := fw1798_1.ext ew1820
     have er := Only.trans er ew1820
     have zw1820 := ew1820.size
     refine ⟨fa8_0 hbw2, ?_⟩
     refine ⟨fa8_1 hbw1, ?_⟩
     refine ⟨?_, trivial⟩
     refine put_step hbw1820 rfl rfl (fun w1833 ow1833 hbw1820q nw1833 => ?_)
     have hbw1807 := hbw1807.only ow1833 (by omega)
     have fw1798_0 := fw1798_0.only ow1833 (fun k h1 h2 => by omega)
     have fw1798_1 := fw1798_1.only ow1833 (fun k h1 h2 => by omega)
     have er := Ext.own er ow1833 (fun k hk => by omega)
     have hbw1820 := hbw1820q
     refine ⟨?_, trivial⟩
     refine put_step hbw1807 rfl rfl (fun w1834 ow1834 hbw1807q nw1834 => ?_)
     have hbw1820 := hbw1820.only ow1834 (by omega)
     have fw1798_0 := fw1798_0.only ow1834 (fun k h1 h2 => by omega)
     have fw1798_1 := fw1798_1.only ow1834 (fun k h1 h2 => by omega)
     have er := Ext.own er ow1834 (fun k hk => by omega)
     have hbw1807 := hbw1807q
     have hbl := hbw1820.lt
     have hbl1 := hbw1807.lt
     exact ⟨_, _, _, _, _, _, _, _, rfl, rfl, by omega, by omega, by omega, by omega, hbl, by omega, by omega, by omega, by omega, hbl1, hbw1820, fw1798_0.fr, hbw1807, fw1798_1.fr, er⟩
    refine ⟨?_, ?_⟩
    ·
     refine alloc_step (fun w1734 ew1734 hbw1734 nw1734 => ?_)
     have hbw1 := hbw1.ext ew1734
     have hbw2 := hbw2.ext ew1734
     have fw1432 := fw1432.ext ew1734
     have fw1662 := fw1662.ext ew1734
     have er := Only.trans er ew1734
     have zw1734 := ew1734.size
     refine ⟨fa8_0 hbw2, ?_⟩
     refine ⟨fa8_1 hbw1, ?_⟩
     refine ⟨?_, ?_⟩
     ·
      refine (specIpcStep fw1432.is sz0 fw1662.is sz1).mono ?_
      rintro _ w1773 ⟨yw1773_0, yw1773_1, bsw1773_0, bsw1773_1, rfl, fw1773_0, fw1773_1, djw1773, ew1773⟩
      have hbw1 := hbw1.ext ew1773
      have hbw2 := hbw2.ext ew1773
      have hbw1734 := hbw1734.ext ew1773
      have er := Only.trans er ew1773
      have zw1773 := ew1773.size
      have hiyw1773_0 := fw1773_0.is
      obtain ⟨ryw1773_0_1, ryw1773_0_2, ryw1773_0_3, rfl, _, _, _, _⟩ := cells_Ipc hiyw1773_0
      have hiyw1773_1 := fw1773_1.is
      obtain ⟨ryw1773_1_2, rfl, _, _, _, _⟩ := cells_IpcRes hiyw1773_1
      refine ⟨_, ryw1773_0_1, ryw1773_0_2, ryw1773_0_3, _, _, ryw1773_1_2, _, rfl, ?_⟩
      refine ⟨?_, trivial⟩
      refine alloc_step (fun w1782 ew1782 hbw1782 nw1782 => ?_)
      have hbw1 := hbw1.ext ew1782
      have hbw2 := hbw2.ext ew1782
      have hbw1734 := hbw1734.ext ew1782
      have fw1773_0 := fw1773_0.ext ew1782
      have fw1773_1 := fw1773_1.ext ew1782
      have er := Only.trans er ew1782
      have zw1782 := ew1782.size
      refine ⟨fa8_0 hbw2, ?_⟩
      refine ⟨fa8_1 hbw1, ?_⟩
      refine ⟨?_, trivial⟩
      refine put_step hbw1734 rfl rfl (fun w1795 ow1795 hbw1734q nw1795 => ?_)
      have hbw1782 := hbw1782.only ow1795 (by omega)
      have fw1773_0 := fw1773_0.only ow1795 (fun k h1 h2 => by omega)
      have fw1773_1 := fw1773_1.only ow1795 (fun k h1 h2 => by omega)
      have er := Ext.own er ow1795 (fun k hk => by omega)
      have hbw1734 := hbw1734q
      refine ⟨?_, trivial⟩
      refine put_step hbw1782 rfl rfl (fun w1796 ow1796 hbw1782q nw1796 => ?_)
      have hbw1734 := hbw1734.only ow1796 (by omega)
      have fw1773_0 := fw1773_0.only ow1796 (fun k h1 h2 => by omega)
      have fw1773_1 := fw1773_1.only ow1796 (fun k h1 h2 => by omega)
      have er := Ext.own er ow1796 (fun k hk => by omega)
      have hbw1782 := hbw1782q
      have hbl := hbw1734.lt
      have hbl1 := hbw1782.lt
      exact ⟨_, _, _, _, _, _, _, _, rfl, rfl, by omega, by omega, by omega, by omega, hbl, by omega, by omega, by omega, by omega, hbl1, hbw1734, fw1773_0.fr, hbw1782, fw1773_1.fr, er⟩
     refine ⟨?_, trivial⟩
     refine alloc_step (fun w1747 ew1747 hbw1747 nw1747 => ?_)
     have hbw1 := hbw1.ext ew1747
     have hbw2 := hbw2.ext ew1747
     have hbw1734 := hbw1734.ext ew1747
     have fw1432 := fw1432.ext ew1747
     have fw1662 := fw1662.ext ew1747
     have er := Only.trans er ew1747
     have zw1747 := ew1747.size
     refine ⟨fa8_0 hbw2, ?_⟩
     refine ⟨fa8_1 hbw1, ?_⟩
     refine ⟨?_, trivial⟩
     refine (specIpcStep fw1432.is sz0 fw1662.is sz1).mono ?_
     rintro _ w1761 ⟨yw1761_0, yw1761_1, bsw1761_0, bsw1761_1, rfl, fw1761_0, fw1761_1, djw1761, ew1761⟩
     have hbw1734 := hbw1734.ext ew1761
     have hbw1747 := hbw1747.ext ew1761
     have er := Only.trans er ew1761
     have zw1761 := ew1761.size
     have hiyw1761_0 := fw1761_0.is
     obtain ⟨ryw1761_0_1, ryw1761_0_2, ryw1761_0_3, rfl, _, _, _, _⟩ := cells_Ipc hiyw1761_0
     have hiyw1761_1 := fw1761_1.is
     obtain ⟨ryw1761_1_2, rfl, _, _, _, _⟩ := cells_IpcRes hiyw1761_1
     refine ⟨_, ryw1761_0_1, ryw1761_0_2, ryw1761_0_3, _, _, ryw1761_1_2, _, rfl, ?_⟩
     refine ⟨?_, trivial⟩
     refine put_step hbw1734 rfl rfl (fun w1770 ow1770 hbw1734q nw1770 => ?_)
     have hbw1747 := hbw1747.only ow1770 (by omega)
     have fw1761_0 := fw1761_0.only ow1770 (fun k h1 h2 => by omega)
     have fw1761_1 := fw1761_1.only ow1770 (fun k h1 h2 => by omega)
     have er := Ext.own er ow1770 (fun k hk => by omega)
     have hbw1734 := hbw1734q
     refine ⟨?_, trivial⟩
     refine put_step hbw1747 rfl rfl (fun w1771 ow1771 hbw1747q nw1771 => ?_)
     have hbw1734 := hbw1734.only ow1771 (by omega)
     have fw1761_0 := fw1761_0.only ow1771 (fun k h1 h2 => by omega)
     have fw1761_1 := fw1761_1.only ow1771 (fun k h1 h2 => by omega)
     have er := Ext.own er ow1771 (fun k hk => by omega)
     have hbw1747 := hbw1747q
     have hbl := hbw1734.lt
     have hbl1 := hbw1747.lt
     exact ⟨_, _, _, _, _, _, _, _, rfl, rfl, by omega, by omega, by omega, by omega, hbl, by omega, by omega, by omega, by omega, hbl1, hbw1734, fw1761_0.fr, hbw1747, fw1761_1.fr, er⟩
    refine ⟨?_, trivial⟩
    refine alloc_step (fun w1671 ew1671 hbw1671 nw1671 => ?_)
    have hbw1 := hbw1.ext ew1671
    have hbw2 := hbw2.ext ew1671
    have fw1432 := fw1432.ext ew1671
    have fw1662 := fw1662.ext ew1671
    have er := Only.trans er ew1671
    have zw1671 := ew1671.size
    refine ⟨fa8_0 hbw2, ?_⟩
    refine ⟨fa8_1 hbw1, ?_⟩
    refine ⟨?_, ?_⟩
    ·
     refine (specIpcStep fw1432.is sz0 fw1662.is sz1).mono ?_
     rintro _ w1710 ⟨yw1710_0, yw1710_1, bsw1710_0, bsw1710_1, rfl, fw1710_0, fw1710_1, djw1710, ew1710⟩
     have hbw1 := hbw1.ext ew1710
     have hbw2 := hbw2.ext ew1710
     have hbw1671 := hbw1671.ext ew1710
     have er := Only.trans er ew1710
     have zw1710 := ew1710.size
     have hiyw1710_0 := fw1710_0.is
     obtain ⟨ryw1710_0_1, ryw1710_0_2, ryw1710_0_3, rfl, _, _, _, _⟩ := cells_Ipc hiyw1710_0
     have hiyw1710_1 := fw1710_1.is
     obtain ⟨ryw1710_1_2, rfl, _, _, _, _⟩ := cells_IpcRes hiyw1710_1
     refine ⟨_, ryw1710_0_1, ryw1710_0_2, ryw1710_0_3, _, _, ryw1710_1_2, _, rfl, ?_⟩
     refine ⟨?_, trivial⟩
     refine alloc_step (fun w1719 ew1719 hbw1719 nw1719 => ?_)
     have hbw1 := hbw1.ext ew1719
     have hbw2 := hbw2.ext ew1719
     have hbw1671 := hbw1671.ext ew1719
     have fw1710_0 := fw1710_0.ext ew1719
     have fw1710_1 := fw1710_1.ext ew1719
     have er := Only.trans er ew1719
     have zw1719 := ew1719.size
     refine ⟨fa8_0 hbw2, ?_⟩
     refine ⟨fa8_1 hbw1, ?_⟩
     refine ⟨?_, trivial⟩
     refine put_step hbw1719 rfl rfl (fun w1732 ow1732 hbw1719q nw1732 => ?_)
     have hbw1671 := hbw1671.only ow1732 (by omega)
     have fw1710_0 := fw1710_0.only ow1732 (fun k h1 h2 => by omega)
     have fw1710_1 := fw1710_1.only ow1732 (fun k h1 h2 => by omega)
     have er := Ext.own er ow1732 (fun k hk => by omega)
     have hbw1719 := hbw1719q
     refine ⟨?_, trivial⟩
     refine put_step hbw1671 rfl rfl (fun w1733 ow1733 hbw1671q nw1733 => ?_)
     have hbw1719 := hbw1719.only ow1733 (by omega)
     have fw1710_0 := fw1710_0.only ow1733 (fun k h1 h2 => by omega)
     have fw1710_1 := fw1710_1.only ow1733 (fun k h1 h2 => by omega)
     have er := Ext.own er ow1733 (fun k hk => by omega)
     have hbw1671 := hbw1671q
     have hbl := hbw1719.lt
     have hbl1 := hbw1671.lt
     exact ⟨_, _, _, _, _, _, _, _, rfl, rfl, by omega, by omega, by omega, by omega, hbl, by omega, by omega, by omega, by omega, hbl1, hbw1719, fw1710_0.fr, hbw1671, fw1710_1.fr, er⟩
    refine ⟨?_, trivial⟩
    refine alloc_step (fun w1684 ew1684 hbw1684 nw1684 => ?_)
    have hbw1 := hbw1.ext ew1684
    have hbw2 := hbw2.ext ew1684
    have hbw1671 := hbw1671.ext ew1684
    have fw1432 := fw1432.ext ew1684
    have fw1662 := fw1662.ext ew1684
    have er := Only.trans er ew1684
    have zw1684 := ew1684.size
    refine ⟨fa8_0 hbw2, ?_⟩
    refine ⟨fa8_1 hbw1, ?_⟩
    refine ⟨?_, trivial⟩
    refine (specIpcStep fw1432.is sz0 fw1662.is sz1).mono ?_
    rintro _ w1698 ⟨yw1698_0, yw1698_1, bsw1698_0, bsw1698_1, rfl, fw1698_0, fw1698_1, djw1698, ew1698⟩
    have hbw1671 := hbw1671.ext ew1698
    have hbw1684 := hbw1684.ext ew1698
    have er := Only.trans er ew1698
    have zw1698 := ew1698.size
    have hiyw1698_0 := fw1698_0.is
    obtain ⟨ryw1698_0_1, ryw1698_0_2, ryw1698_0_3, rfl, _, _, _, _⟩ := cells_Ipc hiyw1698_0
    have hiyw1698_1 := fw1698_1.is
    obtain ⟨ryw1698_1_2, rfl, _, _, _, _⟩ := cells_IpcRes hiyw1698_1
    refine ⟨_, ryw1698_0_1, ryw1698_0_2, ryw1698_0_3, _, _, ryw1698_1_2, _, rfl, ?_⟩
    refine ⟨?_, trivial⟩
    refine put_step hbw1684 rfl rfl (fun w1707 ow1707 hbw1684q nw1707 => ?_)
    have hbw1671 := hbw1671.only ow1707 (by omega)
    have fw1698_0 := fw1698_0.only ow1707 (fun k h1 h2 => by omega)
    have fw1698_1 := fw1698_1.only ow1707 (fun k h1 h2 => by omega)
    have er := Ext.own er ow1707 (fun k hk => by omega)
    have hbw1684 := hbw1684q
    refine ⟨?_, trivial⟩
    refine put_step hbw1671 rfl rfl (fun w1708 ow1708 hbw1671q nw1708 => ?_)
    have hbw1684 := hbw1684.only ow1708 (by omega)
    have fw1698_0 := fw1698_0.only ow1708 (fun k h1 h2 => by omega)
    have fw1698_1 := fw1698_1.only ow1708 (fun k h1 h2 => by omega)
    have er := Ext.own er ow1708 (fun k hk => by omega)
    have hbw1671 := hbw1671q
    have hbl := hbw1684.lt
    have hbl1 := hbw1671.lt
    exact ⟨_, _, _, _, _, _, _, _, rfl, rfl, by omega, by omega, by omega, by omega, hbl, by omega, by omega, by omega, by omega, hbl1, hbw1684, fw1698_0.fr, hbw1671, fw1698_1.fr, er⟩
   refine ⟨?_, ?_⟩
   ·
    refine alloc_step (fun w1553 ew1553 hbw1553 nw1553 => ?_)
    have hbw1 := hbw1.ext ew1553
    have hbw2 := hbw2.ext ew1553
    have fw1432 := fw1432.ext ew1553
    have er := Only.trans er ew1553
    have zw1553 := ew1553.size
    refine ⟨fa8_0 hbw2, ?_⟩
    refine ⟨fa8_1 hbw1, ?_⟩
    refine ⟨?_, ?_⟩
    ·
     refine (c39 (DIpcOp.has _) (IsD.ext (Only.trans e er) _ _ h1) (by have := sz1; omega)).mono ?_
     rintro _ w1602 ⟨yw1602, rfl, fw1602, ew1602⟩
     have hbw1 := hbw1.ext ew1602
     have hbw2 := hbw2.ext ew1602
     have hbw1553 := hbw1553.ext ew1602
     have fw1432 := fw1432.ext ew1602
     have er := Only.trans er ew1602
     have zw1602 := ew1602.size
     have hiyw1602 := fw1602.is
     obtain ⟨ryw1602_7, rfl, _, _, _, _, _, _, _, _⟩ := cells_IpcOp hiyw1602
     refine ⟨_, _, _, _, _, _, _, ryw1602_7, rfl, ?_⟩
     refine ⟨?_, ?_⟩
     ·
      refine (specIpcStep fw1432.is sz0 fw1602.is sz1).mono ?_
      rintro _ w1637 ⟨yw1637_0, yw1637_1, bsw1637_0, bsw1637_1, rfl, fw1637_0, fw1637_1, djw1637, ew1637⟩
      have hbw1 := hbw1.ext ew1637
      have hbw2 := hbw2.ext ew1637
      have hbw1553 := hbw1553.ext ew1637
      have er := Only.trans er ew1637
      have zw1637 := ew1637.size
      have hiyw1637_0 := fw1637_0.is
      obtain ⟨ryw1637_0_1, ryw1637_0_2, ryw1637_0_3, rfl, _, _, _, _⟩ := cells_Ipc hiyw1637_0
      have hiyw1637_1 := fw1637_1.is
      obtain ⟨ryw1637_1_2, rfl, _, _, _, _⟩ := cells_IpcRes hiyw1637_1
      refine ⟨_, ryw1637_0_1, ryw1637_0_2, ryw1637_0_3, _, _, ryw1637_1_2, _, rfl, ?_⟩
      refine ⟨?_, trivial⟩
      refine alloc_step (fun w1646 ew1646 hbw1646 nw1646 => ?_)
      have hbw1 := hbw1.ext ew1646
      have hbw2 := hbw2.ext ew1646
      have hbw1553 := hbw1553.ext ew1646
      have fw1637_0 := fw1637_0.ext ew1646
      have fw1637_1 := fw1637_1.ext ew1646
      have er := Only.trans er ew1646
      have zw1646 := ew1646.size
      refine ⟨fa8_0 hbw2, ?_⟩
      refine ⟨fa8_1 hbw1, ?_⟩
      refine ⟨?_, trivial⟩
      refine put_step hbw1553 rfl rfl (fun w1659 ow1659 hbw1553q nw1659 => ?_)
      have hbw1646 := hbw1646.only ow1659 (by omega)
      have fw1637_0 := fw1637_0.only ow1659 (fun k h1 h2 => by omega)
      have fw1637_1 := fw1637_1.only ow1659 (fun k h1 h2 => by omega)
      have er := Ext.own er ow1659 (fun k hk => by omega)
      have hbw1553 := hbw1553q
      refine ⟨?_, trivial⟩
      refine put_step hbw1646 rfl rfl (fun w1660 ow1660 hbw1646q nw1660 => ?_)
      have hbw1553 := hbw1553.only ow1660 (by omega)
      have fw1637_0 := fw1637_0.only ow1660 (fun k h1 h2 => by omega)
      have fw1637_1 := fw1637_1.only ow1660 (fun k h1 h2 => by omega)
      have er := Ext.own er ow1660 (fun k hk => by omega)
      have hbw1646 := hbw1646q
      have hbl := hbw1553.lt
      have hbl1 := hbw1646.lt
      exact ⟨_, _, _, _, _, _, _, _, rfl, rfl, by omega, by omega, by omega, by omega, hbl, by omega, by omega, by omega, by omega, hbl1, hbw1553, fw1637_0.fr, hbw1646, fw1637_1.fr, er⟩
     refine ⟨?_, trivial⟩
     refine alloc_step (fun w1611 ew1611 hbw1611 nw1611 => ?_)
     have hbw1 := hbw1.ext ew1611
     have hbw2 := hbw2.ext ew1611
     have hbw1553 := hbw1553.ext ew1611
     have fw1432 := fw1432.ext ew1611
     have fw1602 := fw1602.ext ew1611
     have er := Only.trans er ew1611
     have zw1611 := ew1611.size
     refine ⟨fa8_0 hbw2, ?_⟩
     refine ⟨fa8_1 hbw1, ?_⟩
     refine ⟨?_, trivial⟩
     refine (specIpcStep fw1432.is sz0 fw1602.is sz1).mono ?_
     rintro _ w1625 ⟨yw1625_0, yw1625_1, bsw1625_0, bsw1625_1, rfl, fw1625_0, fw1625_1, djw1625, ew1625⟩
     have hbw1553 := hbw1553.ext ew1625
     have hbw1611 := hbw1611.ext ew1625
     have er := Only.trans er ew1625
     have zw1625 := ew1625.size
     have hiyw1625_0 := fw1625_0.is
     obtain ⟨ryw1625_0_1, ryw1625_0_2, ryw1625_0_3, rfl, _, _, _, _⟩ := cells_Ipc hiyw1625_0
     have hiyw1625_1 := fw1625_1.is
     obtain ⟨ryw1625_1_2, rfl, _, _, _, _⟩ := cells_IpcRes hiyw1625_1
     refine ⟨_, ryw1625_0_1, ryw1625_0_2, ryw1625_0_3, _, _, ryw1625_1_2, _, rfl, ?_⟩
     refine ⟨?_, trivial⟩
     refine put_step hbw1553 rfl rfl (fun w1634 ow1634 hbw1553q nw1634 => ?_)
     have hbw1611 := hbw1611.only ow1634 (by omega)
     have fw1625_0 := fw1625_0.only ow1634 (fun k h1 h2 => by omega)
     have fw1625_1 := fw1625_1.only ow1634 (fun k h1 h2 => by omega)
     have er := Ext.own er ow1634 (fun k hk => by omega)
     have hbw1553 := hbw1553q
     refine ⟨?_, trivial⟩
     refine put_step hbw1611 rfl rfl (fun w1635 ow1635 hbw1611q nw1635 => ?_)
     have hbw1553 := hbw1553.only ow1635 (by omega)
     have fw1625_0 := fw1625_0.only ow1635 (fun k h1 h2 => by omega)
     have fw1625_1 := fw1625_1.only ow1635 (fun k h1 h2 => by omega)
     have er := Ext.own er ow1635 (fun k hk => by omega)
     have hbw1611 := hbw1611q
     have hbl := hbw1553.lt
     have hbl1 := hbw1611.lt
     exact ⟨_, _, _, _, _, _, _, _, rfl, rfl, by omega, by omega, by omega, by omega, hbl, by omega, by omega, by omega, by omega, hbl1, hbw1553, fw1625_0.fr, hbw1611, fw1625_1.fr, er⟩
    refine ⟨?_, trivial⟩
    refine alloc_step (fun w1566 ew1566 hbw1566 nw1566 => ?_)
    have hbw1 := hbw1.ext ew1566
    have hbw2 := hbw2.ext ew1566
    have hbw1553 := hbw1553.ext ew1566
    have fw1432 := fw1432.ext ew1566
    have er := Only.trans er ew1566
    have zw1566 := ew1566.size
    refine ⟨fa8_0 hbw2, ?_⟩
    refine ⟨fa8_1 hbw1, ?_⟩
    refine ⟨?_, trivial⟩
    refine (c39 (DIpcOp.has _) (IsD.ext (Only.trans e er) _ _ h1) (by have := sz1; omega)).mono ?_
    rintro _ w1580 ⟨yw1580, rfl, fw1580, ew1580⟩
    have hbw1553 := hbw1553.ext ew1580
    have hbw1566 := hbw1566.ext ew1580
    have fw1432 := fw1432.ext ew1580
    have er := Only.trans er ew1580
    have zw1580 := ew1580.size
    have hiyw1580 := fw1580.is
    obtain ⟨ryw1580_7, rfl, _, _, _, _, _, _, _, _⟩ := cells_IpcOp hiyw1580
    refine ⟨_, _, _, _, _, _, _, ryw1580_7, rfl, ?_⟩
    refine ⟨?_, trivial⟩
    refine (specIpcStep fw1432.is sz0 fw1580.is sz1).mono ?_
    rintro _ w1590 ⟨yw1590_0, yw1590_1, bsw1590_0, bsw1590_1, rfl, fw1590_0, fw1590_1, djw1590, ew1590⟩
    have hbw1553 := hbw1553.ext ew1590
    have hbw1566 := hbw1566.ext ew1590
    have er := Only.trans er ew1590
    have zw1590 := ew1590.size
    have hiyw1590_0 := fw1590_0.is
    obtain ⟨ryw1590_0_1, ryw1590_0_2, ryw1590_0_3, rfl, _, _, _, _⟩ := cells_Ipc hiyw1590_0
    have hiyw1590_1 := fw1590_1.is
    obtain ⟨ryw1590_1_2, rfl, _, _, _, _⟩ := cells_IpcRes hiyw1590_1
    refine ⟨_, ryw1590_0_1, ryw1590_0_2, ryw1590_0_3, _, _, ryw1590_1_2, _, rfl, ?_⟩
    refine ⟨?_, trivial⟩
    refine put_step hbw1553 rfl rfl (fun w1599 ow1599 hbw1553q nw1599 => ?_)
    have hbw1566 := hbw1566.only ow1599 (by omega)
    have fw1590_0 := fw1590_0.only ow1599 (fun k h1 h2 => by omega)
    have fw1590_1 := fw1590_1.only ow1599 (fun k h1 h2 => by omega)
    have er := Ext.own er ow1599 (fun k hk => by omega)
    have hbw1553 := hbw1553q
    refine ⟨?_, trivial⟩
    refine put_step hbw1566 rfl rfl (fun w1600 ow1600 hbw1566q nw1600 => ?_)
    have hbw1553 := hbw1553.only ow1600 (by omega)
    have fw1590_0 := fw1590_0.only ow1600 (fun k h1 h2 => by omega)
    have fw1590_1 := fw1590_1.only ow1600 (fun k h1 h2 => by omega)
    have er := Ext.own er ow1600 (fun k hk => by omega)
    have hbw1566 := hbw1566q
    have hbl := hbw1553.lt
    have hbl1 := hbw1566.lt
    exact ⟨_, _, _, _, _, _, _, _, rfl, rfl, by omega, by omega, by omega, by omega, hbl, by omega, by omega, by omega, by omega, hbl1, hbw1553, fw1590_0.fr, hbw1566, fw1590_1.fr, er⟩
   refine ⟨?_, trivial⟩
   refine alloc_step (fun w1445 ew1445 hbw1445 nw1445 => ?_)
   have hbw1 := hbw1.ext ew1445
   have hbw2 := hbw2.ext ew1445
   have fw1432 := fw1432.ext ew1445
   have er := Only.trans er ew1445
   have zw1445 := ew1445.size
   refine ⟨fa8_0 hbw2, ?_⟩
   refine ⟨fa8_1 hbw1, ?_⟩
   refine ⟨?_, ?_⟩
   ·
    refine (c39 (DIpcOp.has _) (IsD.ext (Only.trans e er) _ _ h1) (by have := sz1; omega)).mono ?_
    rintro _ w1494 ⟨yw1494, rfl, fw1494, ew1494⟩
    have hbw1 := hbw1.ext ew1494
    have hbw2 := hbw2.ext ew1494
    have hbw1445 := hbw1445.ext ew1494
    have fw1432 := fw1432.ext ew1494
    have er := Only.trans er ew1494
    have zw1494 := ew1494.size
    have hiyw1494 := fw1494.is
    obtain ⟨ryw1494_7, rfl, _, _, _, _, _, _, _, _⟩ := cells_IpcOp hiyw1494
    refine ⟨_, _, _, _, _, _, _, ryw1494_7, rfl, ?_⟩
    refine ⟨?_, ?_⟩
    ·
     refine (specIpcStep fw1432.is sz0 fw1494.is sz1).mono ?_
     rintro _ w1529 ⟨yw1529_0, yw1529_1, bsw1529_0, bsw1529_1, rfl, fw1529_0, fw1529_1, djw1529, ew1529⟩
     have hbw1 := hbw1.ext ew1529
     have hbw2 := hbw2.ext ew1529
     have hbw1445 := hbw1445.ext ew1529
     have er := Only.trans er ew1529
     have zw1529 := ew1529.size
     have hiyw1529_0 := fw1529_0.is
     obtain ⟨ryw1529_0_1, ryw1529_0_2, ryw1529_0_3, rfl, _, _, _, _⟩ := cells_Ipc hiyw1529_0
     have hiyw1529_1 := fw1529_1.is
     obtain ⟨ryw1529_1_2, rfl, _, _, _, _⟩ := cells_IpcRes hiyw1529_1
     refine ⟨_, ryw1529_0_1, ryw1529_0_2, ryw1529_0_3, _, _, ryw1529_1_2, _, rfl, ?_⟩
     refine ⟨?_, trivial⟩
     refine alloc_step (fun w1538 ew1538 hbw1538 nw1538 => ?_)
     have hbw1 := hbw1.ext ew1538
     have hbw2 := hbw2.ext ew1538
     have hbw1445 := hbw1445.ext ew1538
     have fw1529_0 := fw1529_0.ext ew1538
     have fw1529_1 := fw1529_1.ext ew1538
     have er := Only.trans er ew1538
     have zw1538 := ew1538.size
     refine ⟨fa8_0 hbw2, ?_⟩
     refine ⟨fa8_1 hbw1, ?_⟩
     refine ⟨?_, trivial⟩
     refine put_step hbw1538 rfl rfl (fun w1551 ow1551 hbw1538q nw1551 => ?_)
     have hbw1445 := hbw1445.only ow1551 (by omega)
     have fw1529_0 := fw1529_0.only ow1551 (fun k h1 h2 => by omega)
     have fw1529_1 := fw1529_1.only ow1551 (fun k h1 h2 => by omega)
     have er := Ext.own er ow1551 (fun k hk => by omega)
     have hbw1538 := hbw1538q
     refine ⟨?_, trivial⟩
     refine put_step hbw1445 rfl rfl (fun w1552 ow1552 hbw1445q nw1552 => ?_)
     have hbw1538 := hbw1538.only ow1552 (by omega)
     have fw1529_0 := fw1529_0.only ow1552 (fun k h1 h2 => by omega)
     have fw1529_1 := fw1529_1.only ow1552 (fun k h1 h2 => by omega)
     have er := Ext.own er ow1552 (fun k hk => by omega)
     have hbw1445 := hbw1445q
     have hbl := hbw1538.lt
     have hbl1 := hbw1445.lt
     exact ⟨_, _, _, _, _, _, _, _, rfl, rfl, by omega, by omega, by omega, by omega, hbl, by omega, by omega, by omega, by omega, hbl1, hbw1538, fw1529_0.fr, hbw1445, fw1529_1.fr, er⟩
    refine ⟨?_, trivial⟩
    refine alloc_step (fun w1503 ew1503 hbw1503 nw1503 => ?_)
    have hbw1 := hbw1.ext ew1503
    have hbw2 := hbw2.ext ew1503
    have hbw1445 := hbw1445.ext ew1503
    have fw1432 := fw1432.ext ew1503
    have fw1494 := fw1494.ext ew1503
    have er := Only.trans er ew1503
    have zw1503 := ew1503.size
    refine ⟨fa8_0 hbw2, ?_⟩
    refine ⟨fa8_1 hbw1, ?_⟩
    refine ⟨?_, trivial⟩
    refine (specIpcStep fw1432.is sz0 fw1494.is sz1).mono ?_
    rintro _ w1517 ⟨yw1517_0, yw1517_1, bsw1517_0, bsw1517_1, rfl, fw1517_0, fw1517_1, djw1517, ew1517⟩
    have hbw1445 := hbw1445.ext ew1517
    have hbw1503 := hbw1503.ext ew1517
    have er := Only.trans er ew1517
    have zw1517 := ew1517.size
    have hiyw1517_0 := fw1517_0.is
    obtain ⟨ryw1517_0_1, ryw1517_0_2, ryw1517_0_3, rfl, _, _, _, _⟩ := cells_Ipc hiyw1517_0
    have hiyw1517_1 := fw1517_1.is
    obtain ⟨ryw1517_1_2, rfl, _, _, _, _⟩ := cells_IpcRes hiyw1517_1
    refine ⟨_, ryw1517_0_1, ryw1517_0_2, ryw1517_0_3, _, _, ryw1517_1_2, _, rfl, ?_⟩
    refine ⟨?_, trivial⟩
    refine put_step hbw1503 rfl rfl (fun w1526 ow1526 hbw1503q nw1526 => ?_)
    have hbw1445 := hbw1445.only ow1526 (by omega)
    have fw1517_0 := fw1517_0.only ow1526 (fun k h1 h2 => by omega)
    have fw1517_1 := fw1517_1.only ow1526 (fun k h1 h2 => by omega)
    have er := Ext.own er ow1526 (fun k hk => by omega)
    have hbw1503 := hbw1503q
    refine ⟨?_, trivial⟩
    refine put_step hbw1445 rfl rfl (fun w1527 ow1527 hbw1445q nw1527 => ?_)
    have hbw1503 := hbw1503.only ow1527 (by omega)
    have fw1517_0 := fw1517_0.only ow1527 (fun k h1 h2 => by omega)
    have fw1517_1 := fw1517_1.only ow1527 (fun k h1 h2 => by omega)
    have er := Ext.own er ow1527 (fun k hk => by omega)
    have hbw1445 := hbw1445q
    have hbl := hbw1503.lt
    have hbl1 := hbw1445.lt
    exact ⟨_, _, _, _, _, _, _, _, rfl, rfl, by omega, by omega, by omega, by omega, hbl, by omega, by omega, by omega, by omega, hbl1, hbw1503, fw1517_0.fr, hbw1445, fw1517_1.fr, er⟩
   refine ⟨?_, trivial⟩
   refine alloc_step (fun w1458 ew1458 hbw1458 nw1458 => ?_)
   have hbw1 := hbw1.ext ew1458
   have hbw2 := hbw2.ext ew1458
   have hbw1445 := hbw1445.ext ew1458
   have fw1432 := fw1432.ext ew1458
   have er := Only.trans er ew1458
   have zw1458 := ew1458.size
   refine ⟨fa8_0 hbw2, ?_⟩
   refine ⟨fa8_1 hbw1, ?_⟩
   refine ⟨?_, trivial⟩
   refine (c39 (DIpcOp.has _) (IsD.ext (Only.trans e er) _ _ h1) (by have := sz1; omega)).mono ?_
   rintro _ w1472 ⟨yw1472, rfl, fw1472, ew1472⟩
   have hbw1445 := hbw1445.ext ew1472
   have hbw1458 := hbw1458.ext ew1472
   have fw1432 := fw1432.ext ew1472
   have er := Only.trans er ew1472
   have zw1472 := ew1472.size
   have hiyw1472 := fw1472.is
   obtain ⟨ryw1472_7, rfl, _, _, _, _, _, _, _, _⟩ := cells_IpcOp hiyw1472
   refine ⟨_, _, _, _, _, _, _, ryw1472_7, rfl, ?_⟩
   refine ⟨?_, trivial⟩
   refine (specIpcStep fw1432.is sz0 fw1472.is sz1).mono ?_
   rintro _ w1482 ⟨yw1482_0, yw1482_1, bsw1482_0, bsw1482_1, rfl, fw1482_0, fw1482_1, djw1482, ew1482⟩
   have hbw1445 := hbw1445.ext ew1482
   have hbw1458 := hbw1458.ext ew1482
   have er := Only.trans er ew1482
   have zw1482 := ew1482.size
   have hiyw1482_0 := fw1482_0.is
   obtain ⟨ryw1482_0_1, ryw1482_0_2, ryw1482_0_3, rfl, _, _, _, _⟩ := cells_Ipc hiyw1482_0
   have hiyw1482_1 := fw1482_1.is
   obtain ⟨ryw1482_1_2, rfl, _, _, _, _⟩ := cells_IpcRes hiyw1482_1
   refine ⟨_, ryw1482_0_1, ryw1482_0_2, ryw1482_0_3, _, _, ryw1482_1_2, _, rfl, ?_⟩
   refine ⟨?_, trivial⟩
   refine put_step hbw1458 rfl rfl (fun w1491 ow1491 hbw1458q nw1491 => ?_)
   have hbw1445 := hbw1445.only ow1491 (by omega)
   have fw1482_0 := fw1482_0.only ow1491 (fun k h1 h2 => by omega)
   have fw1482_1 := fw1482_1.only ow1491 (fun k h1 h2 => by omega)
   have er := Ext.own er ow1491 (fun k hk => by omega)
   have hbw1458 := hbw1458q
   refine ⟨?_, trivial⟩
   refine put_step hbw1445 rfl rfl (fun w1492 ow1492 hbw1445q nw1492 => ?_)
   have hbw1458 := hbw1458.only ow1492 (by omega)
   have fw1482_0 := fw1482_0.only ow1492 (fun k h1 h2 => by omega)
   have fw1482_1 := fw1482_1.only ow1492 (fun k h1 h2 => by omega)
   have er := Ext.own er ow1492 (fun k hk => by omega)
   have hbw1445 := hbw1445q
   have hbl := hbw1458.lt
   have hbl1 := hbw1445.lt
   exact ⟨_, _, _, _, _, _, _, _, rfl, rfl, by omega, by omega, by omega, by omega, hbl, by omega, by omega, by omega, by omega, hbl1, hbw1458, fw1482_0.fr, hbw1445, fw1482_1.fr, er⟩
  refine ⟨?_, ?_⟩
  ·
   refine alloc_step (fun w1260 ew1260 hbw1260 nw1260 => ?_)
   have hbw1 := hbw1.ext ew1260
   have hbw2 := hbw2.ext ew1260
   have er := Only.trans er ew1260
   have zw1260 := ew1260.size
   refine ⟨fa8_0 hbw2, ?_⟩
   refine ⟨fa8_1 hbw1, ?_⟩
   refine ⟨?_, ?_⟩
   ·
    refine (c11 (DIpc.has _) (IsD.ext (Only.trans e er) _ _ h0) (by have := sz0; omega)).mono ?_
    rintro _ w1323 ⟨yw1323, rfl, fw1323, ew1323⟩
    have hbw1 := hbw1.ext ew1323
    have hbw2 := hbw2.ext ew1323
    have hbw1260 := hbw1260.ext ew1323
    have er := Only.trans er ew1323
    have zw1323 := ew1323.size
    have hiyw1323 := fw1323.is
    obtain ⟨ryw1323_1, ryw1323_2, ryw1323_3, rfl, _, _, _, _⟩ := cells_Ipc hiyw1323
    refine ⟨_, ryw1323_1, ryw1323_2, ryw1323_3, rfl, ?_⟩
    refine ⟨fa8_0 hbw2, ?_⟩
    refine ⟨?_, ?_⟩
    ·
     refine (c39 (DIpcOp.has _) (IsD.ext (Only.trans e er) _ _ h1) (by have := sz1; omega)).mono ?_
     rintro _ w1372 ⟨yw1372, rfl, fw1372, ew1372⟩
     have hbw1 := hbw1.ext ew1372
     have hbw2 := hbw2.ext ew1372
     have hbw1260 := hbw1260.ext ew1372
     have fw1323 := fw1323.ext ew1372
     have er := Only.trans er ew1372
     have zw1372 := ew1372.size
     have hiyw1372 := fw1372.is
     obtain ⟨ryw1372_7, rfl, _, _, _, _, _, _, _, _⟩ := cells_IpcOp hiyw1372
     refine ⟨_, _, _, _, _, _, _, ryw1372_7, rfl, ?_⟩
     refine ⟨?_, ?_⟩
     ·
      refine (specIpcStep fw1323.is sz0 fw1372.is sz1).mono ?_
      rintro _ w1407 ⟨yw1407_0, yw1407_1, bsw1407_0, bsw1407_1, rfl, fw1407_0, fw1407_1, djw1407, ew1407⟩
      have hbw1 := hbw1.ext ew1407
      have hbw2 := hbw2.ext ew1407
      have hbw1260 := hbw1260.ext ew1407
      have er := Only.trans er ew1407
      have zw1407 := ew1407.size
      have hiyw1407_0 := fw1407_0.is
      obtain ⟨ryw1407_0_1, ryw1407_0_2, ryw1407_0_3, rfl, _, _, _, _⟩ := cells_Ipc hiyw1407_0
      have hiyw1407_1 := fw1407_1.is
      obtain ⟨ryw1407_1_2, rfl, _, _, _, _⟩ := cells_IpcRes hiyw1407_1
      refine ⟨_, ryw1407_0_1, ryw1407_0_2, ryw1407_0_3, _, _, ryw1407_1_2, _, rfl, ?_⟩
      refine ⟨?_, trivial⟩
      refine alloc_step (fun w1416 ew1416 hbw1416 nw1416 => ?_)
      have hbw1 := hbw1.ext ew1416
      have hbw2 := hbw2.ext ew1416
      have hbw1260 := hbw1260.ext ew1416
      have fw1407_0 := fw1407_0.ext ew1416
      have fw1407_1 := fw1407_1.ext ew1416
      have er := Only.trans er ew1416
      have zw1416 := ew1416.size
      refine ⟨fa8_0 hbw2, ?_⟩
      refine ⟨fa8_1 hbw1, ?_⟩
      refine ⟨?_, trivial⟩
      refine put_step hbw1260 rfl rfl (fun w1429 ow1429 hbw1260q nw1429 => ?_)
      have hbw1416 := hbw1416.only ow1429 (by omega)
      have fw1407_0 := fw1407_0.only ow1429 (fun k h1 h2 => by omega)
      have fw1407_1 := fw1407_1.only ow1429 (fun k h1 h2 => by omega)
      have er := Ext.own er ow1429 (fun k hk => by omega)
      have hbw1260 := hbw1260q
      refine ⟨?_, trivial⟩
      refine put_step hbw1416 rfl rfl (fun w1430 ow1430 hbw1416q nw1430 => ?_)
      have hbw1260 := hbw1260.only ow1430 (by omega)
      have fw1407_0 := fw1407_0.only ow1430 (fun k h1 h2 => by omega)
      have fw1407_1 := fw1407_1.only ow1430 (fun k h1 h2 => by omega)
      have er := Ext.own er ow1430 (fun k hk => by omega)
      have hbw1416 := hbw1416q
      have hbl := hbw1260.lt
      have hbl1 := hbw1416.lt
      exact ⟨_, _, _, _, _, _, _, _, rfl, rfl, by omega, by omega, by omega, by omega, hbl, by omega, by omega, by omega, by omega, hbl1, hbw1260, fw1407_0.fr, hbw1416, fw1407_1.fr, er⟩
     refine ⟨?_, trivial⟩
     refine alloc_step (fun w1381 ew1381 hbw1381 nw1381 => ?_)
     have hbw1 := hbw1.ext ew1381
     have hbw2 := hbw2.ext ew1381
     have hbw1260 := hbw1260.ext ew1381
     have fw1323 := fw1323.ext ew1381
     have fw1372 := fw1372.ext ew1381
     have er := Only.trans er ew1381
     have zw1381 := ew1381.size
     refine ⟨fa8_0 hbw2, ?_⟩
     refine ⟨fa8_1 hbw1, ?_⟩
     refine ⟨?_, trivial⟩
     refine (specIpcStep fw1323.is sz0 fw1372.is sz1).mono ?_
     rintro _ w1395 ⟨yw1395_0, yw1395_1, bsw1395_0, bsw1395_1, rfl, fw1395_0, fw1395_1, djw1395, ew1395⟩
     have hbw1260 := hbw1260.ext ew1395
     have hbw1381 := hbw1381.ext ew1395
     have er := Only.trans er ew1395
     have zw1395 := ew1395.size
     have hiyw1395_0 := fw1395_0.is
     obtain ⟨ryw1395_0_1, ryw1395_0_2, ryw1395_0_3, rfl, _, _, _, _⟩ := cells_Ipc hiyw1395_0
     have hiyw1395_1 := fw1395_1.is
     obtain ⟨ryw1395_1_2, rfl, _, _, _, _⟩ := cells_IpcRes hiyw1395_1
     refine ⟨_, ryw1395_0_1, ryw1395_0_2, ryw1395_0_3, _, _, ryw1395_1_2, _, rfl, ?_⟩
     refine ⟨?_, trivial⟩
     refine put_step hbw1260 rfl rfl (fun w1404 ow1404 hbw1260q nw1404 => ?_)
     have hbw1381 := hbw1381.only ow1404 (by omega)
     have fw1395_0 := fw1395_0.only ow1404 (fun k h1 h2 => by omega)
     have fw1395_1 := fw1395_1.only ow1404 (fun k h1 h2 => by omega)
     have er := Ext.own er ow1404 (fun k hk => by omega)
     have hbw1260 := hbw1260q
     refine ⟨?_, trivial⟩
     refine put_step hbw1381 rfl rfl (fun w1405 ow1405 hbw1381q nw1405 => ?_)
     have hbw1260 := hbw1260.only ow1405 (by omega)
     have fw1395_0 := fw1395_0.only ow1405 (fun k h1 h2 => by omega)
     have fw1395_1 := fw1395_1.only ow1405 (fun k h1 h2 => by omega)
     have er := Ext.own er ow1405 (fun k hk => by omega)
     have hbw1381 := hbw1381q
     have hbl := hbw1260.lt
     have hbl1 := hbw1381.lt
     exact ⟨_, _, _, _, _, _, _, _, rfl, rfl, by omega, by omega, by omega, by omega, hbl, by omega, by omega, by omega, by omega, hbl1, hbw1260, fw1395_0.fr, hbw1381, fw1395_1.fr, er⟩
    refine ⟨?_, trivial⟩
    refine alloc_step (fun w1336 ew1336 hbw1336 nw1336 => ?_)
    have hbw1 := hbw1.ext ew1336
    have hbw2 := hbw2.ext ew1336
    have hbw1260 := hbw1260.ext ew1336
    have fw1323 := fw1323.ext ew1336
    have er := Only.trans er ew1336
    have zw1336 := ew1336.size
    refine ⟨fa8_0 hbw2, ?_⟩
    refine ⟨fa8_1 hbw1, ?_⟩
    refine ⟨?_, trivial⟩
    refine (c39 (DIpcOp.has _) (IsD.ext (Only.trans e er) _ _ h1) (by have := sz1; omega)).mono ?_
    rintro _ w1350 ⟨yw1350, rfl, fw1350, ew1350⟩
    have hbw1260 := hbw1260.ext ew1350
    have hbw1336 := hbw1336.ext ew1350
    have fw1323 := fw1323.ext ew1350
    have er := Only.trans er ew1350
    have zw1350 := ew1350.size
    have hiyw1350 := fw1350.is
    obtain ⟨ryw1350_7, rfl, _, _, _, _, _, _, _, _⟩ := cells_IpcOp hiyw1350
    refine ⟨_, _, _, _, _, _, _, ryw1350_7, rfl, ?_⟩
    refine ⟨?_, trivial⟩
    refine (specIpcStep fw1323.is sz0 fw1350.is sz1).mono ?_
    rintro _ w1360 ⟨yw1360_0, yw1360_1, bsw1360_0, bsw1360_1, rfl, fw1360_0, fw1360_1, djw1360, ew1360⟩
    have hbw1260 := hbw1260.ext ew1360
    have hbw1336 := hbw1336.ext ew1360
    have er := Only.trans er ew1360
    have zw1360 := ew1360.size
    have hiyw1360_0 := fw1360_0.is
    obtain ⟨ryw1360_0_1, ryw1360_0_2, ryw1360_0_3, rfl, _, _, _, _⟩ := cells_Ipc hiyw1360_0
    have hiyw1360_1 := fw1360_1.is
    obtain ⟨ryw1360_1_2, rfl, _, _, _, _⟩ := cells_IpcRes hiyw1360_1
    refine ⟨_, ryw1360_0_1, ryw1360_0_2, ryw1360_0_3, _, _, ryw1360_1_2, _, rfl, ?_⟩
    refine ⟨?_, trivial⟩
    refine put_step hbw1260 rfl rfl (fun w1369 ow1369 hbw1260q nw1369 => ?_)
    have hbw1336 := hbw1336.only ow1369 (by omega)
    have fw1360_0 := fw1360_0.only ow1369 (fun k h1 h2 => by omega)
    have fw1360_1 := fw1360_1.only ow1369 (fun k h1 h2 => by omega)
    have er := Ext.own er ow1369 (fun k hk => by omega)
    have hbw1260 := hbw1260q
    refine ⟨?_, trivial⟩
    refine put_step hbw1336 rfl rfl (fun w1370 ow1370 hbw1336q nw1370 => ?_)
    have hbw1260 := hbw1260.only ow1370 (by omega)
    have fw1360_0 := fw1360_0.only ow1370 (fun k h1 h2 => by omega)
    have fw1360_1 := fw1360_1.only ow1370 (fun k h1 h2 => by omega)
    have er := Ext.own er ow1370 (fun k hk => by omega)
    have hbw1336 := hbw1336q
    have hbl := hbw1260.lt
    have hbl1 := hbw1336.lt
    exact ⟨_, _, _, _, _, _, _, _, rfl, rfl, by omega, by omega, by omega, by omega, hbl, by omega, by omega, by omega, by omega, hbl1, hbw1260, fw1360_0.fr, hbw1336, fw1360_1.fr, er⟩
   refine ⟨?_, trivial⟩
   refine alloc_step (fun w1273 ew1273 hbw1273 nw1273 => ?_)
   have hbw1 := hbw1.ext ew1273
   have hbw2 := hbw2.ext ew1273
   have hbw1260 := hbw1260.ext ew1273
   have er := Only.trans er ew1273
   have zw1273 := ew1273.size
   refine ⟨fa8_0 hbw2, ?_⟩
   refine ⟨fa8_1 hbw1, ?_⟩
   refine ⟨?_, trivial⟩
   refine (c11 (DIpc.has _) (IsD.ext (Only.trans e er) _ _ h0) (by have := sz0; omega)).mono ?_
   rintro _ w1287 ⟨yw1287, rfl, fw1287, ew1287⟩
   have hbw2 := hbw2.ext ew1287
   have hbw1260 := hbw1260.ext ew1287
   have hbw1273 := hbw1273.ext ew1287
   have er := Only.trans er ew1287
   have zw1287 := ew1287.size
   have hiyw1287 := fw1287.is
   obtain ⟨ryw1287_1, ryw1287_2, ryw1287_3, rfl, _, _, _, _⟩ := cells_Ipc hiyw1287
   refine ⟨_, ryw1287_1, ryw1287_2, ryw1287_3, rfl, ?_⟩
   refine ⟨fa8_0 hbw2, ?_⟩
   refine ⟨?_, trivial⟩
   refine (c39 (DIpcOp.has _) (IsD.ext (Only.trans e er) _ _ h1) (by have := sz1; omega)).mono ?_
   rintro _ w1301 ⟨yw1301, rfl, fw1301, ew1301⟩
   have hbw1260 := hbw1260.ext ew1301
   have hbw1273 := hbw1273.ext ew1301
   have fw1287 := fw1287.ext ew1301
   have er := Only.trans er ew1301
   have zw1301 := ew1301.size
   have hiyw1301 := fw1301.is
   obtain ⟨ryw1301_7, rfl, _, _, _, _, _, _, _, _⟩ := cells_IpcOp hiyw1301
   refine ⟨_, _, _, _, _, _, _, ryw1301_7, rfl, ?_⟩
   refine ⟨?_, trivial⟩
   refine (specIpcStep fw1287.is sz0 fw1301.is sz1).mono ?_
   rintro _ w1311 ⟨yw1311_0, yw1311_1, bsw1311_0, bsw1311_1, rfl, fw1311_0, fw1311_1, djw1311, ew1311⟩
   have hbw1260 := hbw1260.ext ew1311
   have hbw1273 := hbw1273.ext ew1311
   have er := Only.trans er ew1311
   have zw1311 := ew1311.size
   have hiyw1311_0 := fw1311_0.is
   obtain ⟨ryw1311_0_1, ryw1311_0_2, ryw1311_0_3, rfl, _, _, _, _⟩ := cells_Ipc hiyw1311_0
   have hiyw1311_1 := fw1311_1.is
   obtain ⟨ryw1311_1_2, rfl, _, _, _, _⟩ := cells_IpcRes hiyw1311_1
   refine ⟨_, ryw1311_0_1, ryw1311_0_2, ryw1311_0_3, _, _, ryw1311_1_2, _, rfl, ?_⟩
   refine ⟨?_, trivial⟩
   refine put_step hbw1260 rfl rfl (fun w1320 ow1320 hbw1260q nw1320 => ?_)
   have hbw1273 := hbw1273.only ow1320 (by omega)
   have fw1311_0 := fw1311_0.only ow1320 (fun k h1 h2 => by omega)
   have fw1311_1 := fw1311_1.only ow1320 (fun k h1 h2 => by omega)
   have er := Ext.own er ow1320 (fun k hk => by omega)
   have hbw1260 := hbw1260q
   refine ⟨?_, trivial⟩
   refine put_step hbw1273 rfl rfl (fun w1321 ow1321 hbw1273q nw1321 => ?_)
   have hbw1260 := hbw1260.only ow1321 (by omega)
   have fw1311_0 := fw1311_0.only ow1321 (fun k h1 h2 => by omega)
   have fw1311_1 := fw1311_1.only ow1321 (fun k h1 h2 => by omega)
   have er := Ext.own er ow1321 (fun k hk => by omega)
   have hbw1273 := hbw1273q
   have hbl := hbw1260.lt
   have hbl1 := hbw1273.lt
   exact ⟨_, _, _, _, _, _, _, _, rfl, rfl, by omega, by omega, by omega, by omega, hbl, by omega, by omega, by omega, by omega, hbl1, hbw1260, fw1311_0.fr, hbw1273, fw1311_1.fr, er⟩
  refine ⟨?_, trivial⟩
  refine alloc_step (fun w1089 ew1089 hbw1089 nw1089 => ?_)
  have hbw1 := hbw1.ext ew1089
  have hbw2 := hbw2.ext ew1089
  have er := Only.trans er ew1089
  have zw1089 := ew1089.size
  refine ⟨fa8_0 hbw2, ?_⟩
  refine ⟨fa8_1 hbw1, ?_⟩
  refine ⟨?_, ?_⟩
  ·
   refine (c11 (DIpc.has _) (IsD.ext (Only.trans e er) _ _ h0) (by have := sz0; omega)).mono ?_
   rintro _ w1152 ⟨yw1152, rfl, fw1152, ew1152⟩
   have hbw1 := hbw1.ext ew1152
   have hbw2 := hbw2.ext ew1152
   have hbw1089 := hbw1089.ext ew1152
   have er := Only.trans er ew1152
   have zw1152 := ew1152.size
   have hiyw1152 := fw1152.is
   obtain ⟨ryw1152_1, ryw1152_2, ryw1152_3, rfl, _, _, _, _⟩ := cells_Ipc hiyw1152
   refine ⟨_, ryw1152_1, ryw1152_2, ryw1152_3, rfl, ?_⟩
   refine ⟨fa8_0 hbw2, ?_⟩
   refine ⟨?_, ?_⟩
   ·
    refine (c39 (DIpcOp.has _) (IsD.ext (Only.trans e er) _ _ h1) (by have := sz1; omega)).mono ?_
    rintro _ w1201 ⟨yw1201, rfl, fw1201, ew1201⟩
    have hbw1 := hbw1.ext ew1201
    have hbw2 := hbw2.ext ew1201
    have hbw1089 := hbw1089.ext ew1201
    have fw1152 := fw1152.ext ew1201
    have er := Only.trans er ew1201
    have zw1201 := ew1201.size
    have hiyw1201 := fw1201.is
    obtain ⟨ryw1201_7, rfl, _, _, _, _, _, _, _, _⟩ := cells_IpcOp hiyw1201
    refine ⟨_, _, _, _, _, _, _, ryw1201_7, rfl, ?_⟩
    refine ⟨?_, ?_⟩
    ·
     refine (specIpcStep fw1152.is sz0 fw1201.is sz1).mono ?_
     rintro _ w1236 ⟨yw1236_0, yw1236_1, bsw1236_0, bsw1236_1, rfl, fw1236_0, fw1236_1, djw1236, ew1236⟩
     have hbw1 := hbw1.ext ew1236
     have hbw2 := hbw2.ext ew1236
     have hbw1089 := hbw1089.ext ew1236
     have er := Only.trans er ew1236
     have zw1236 := ew1236.size
     have hiyw1236_0 := fw1236_0.is
     obtain ⟨ryw1236_0_1, ryw1236_0_2, ryw1236_0_3, rfl, _, _, _, _⟩ := cells_Ipc hiyw1236_0
     have hiyw1236_1 := fw1236_1.is
     obtain ⟨ryw1236_1_2, rfl, _, _, _, _⟩ := cells_IpcRes hiyw1236_1
     refine ⟨_, ryw1236_0_1, ryw1236_0_2, ryw1236_0_3, _, _, ryw1236_1_2, _, rfl, ?_⟩
     refine ⟨?_, trivial⟩
     refine alloc_step (fun w1245 ew1245 hbw1245 nw1245 => ?_)
     have hbw1 := hbw1.ext ew1245
     have hbw2 := hbw2.ext ew1245
     have hbw1089 := hbw1089.ext ew1245
     have fw1236_0 := fw1236_0.ext ew1245
     have fw1236_1 := fw1236_1.ext ew1245
     have er := Only.trans er ew1245
     have zw1245 := ew1245.size
     refine ⟨fa8_0 hbw2, ?_⟩
     refine ⟨fa8_1 hbw1, ?_⟩
     refine ⟨?_, trivial⟩
     refine put_step hbw1245 rfl rfl (fun w1258 ow1258 hbw1245q nw1258 => ?_)
     have hbw1089 := hbw1089.only ow1258 (by omega)
     have fw1236_0 := fw1236_0.only ow1258 (fun k h1 h2 => by omega)
     have fw1236_1 := fw1236_1.only ow1258 (fun k h1 h2 => by omega)
     have er := Ext.own er ow1258 (fun k hk => by omega)
     have hbw1245 := hbw1245q
     refine ⟨?_, trivial⟩
     refine put_step hbw1089 rfl rfl (fun w1259 ow1259 hbw1089q nw1259 => ?_)
     have hbw1245 := hbw1245.only ow1259 (by omega)
     have fw1236_0 := fw1236_0.only ow1259 (fun k h1 h2 => by omega)
     have fw1236_1 := fw1236_1.only ow1259 (fun k h1 h2 => by omega)
     have er := Ext.own er ow1259 (fun k hk => by omega)
     have hbw1089 := hbw1089q
     have hbl := hbw1245.lt
     have hbl1 := hbw1089.lt
     exact ⟨_, _, _, _, _, _, _, _, rfl, rfl, by omega, by omega, by omega, by omega, hbl, by omega, by omega, by omega, by omega, hbl1, hbw1245, fw1236_0.fr, hbw1089, fw1236_1.fr, er⟩
    refine ⟨?_, trivial⟩
    refine alloc_step (fun w1210 ew1210 hbw1210 nw1210 => ?_)
    have hbw1 := hbw1.ext ew1210
    have hbw2 := hbw2.ext ew1210
    have hbw1089 := hbw1089.ext ew1210
    have fw1152 := fw1152.ext ew1210
    have fw1201 := fw1201.ext ew1210
    have er := Only.trans er ew1210
    have zw1210 := ew1210.size
    refine ⟨fa8_0 hbw2, ?_⟩
    refine ⟨fa8_1 hbw1, ?_⟩
    refine ⟨?_, trivial⟩
    refine (specIpcStep fw1152.is sz0 fw1201.is sz1).mono ?_
    rintro _ w1224 ⟨yw1224_0, yw1224_1, bsw1224_0, bsw1224_1, rfl, fw1224_0, fw1224_1, djw1224, ew1224⟩
    have hbw1089 := hbw1089.ext ew1224
    have hbw1210 := hbw1210.ext ew1224
    have er := Only.trans er ew1224
    have zw1224 := ew1224.size
    have hiyw1224_0 := fw1224_0.is
    obtain ⟨ryw1224_0_1, ryw1224_0_2, ryw1224_0_3, rfl, _, _, _, _⟩ := cells_Ipc hiyw1224_0
    have hiyw1224_1 := fw1224_1.is
    obtain ⟨ryw1224_1_2, rfl, _, _, _, _⟩ := cells_IpcRes hiyw1224_1
    refine ⟨_, ryw1224_0_1, ryw1224_0_2, ryw1224_0_3, _, _, ryw1224_1_2, _, rfl, ?_⟩
    refine ⟨?_, trivial⟩
    refine put_step hbw1210 rfl rfl (fun w1233 ow1233 hbw1210q nw1233 => ?_)
    have hbw1089 := hbw1089.only ow1233 (by omega)
    have fw1224_0 := fw1224_0.only ow1233 (fun k h1 h2 => by omega)
    have fw1224_1 := fw1224_1.only ow1233 (fun k h1 h2 => by omega)
    have er := Ext.own er ow1233 (fun k hk => by omega)
    have hbw1210 := hbw1210q
    refine ⟨?_, trivial⟩
    refine put_step hbw1089 rfl rfl (fun w1234 ow1234 hbw1089q nw1234 => ?_)
    have hbw1210 := hbw1210.only ow1234 (by omega)
    have fw1224_0 := fw1224_0.only ow1234 (fun k h1 h2 => by omega)
    have fw1224_1 := fw1224_1.only ow1234 (fun k h1 h2 => by omega)
    have er := Ext.own er ow1234 (fun k hk => by omega)
    have hbw1089 := hbw1089q
    have hbl := hbw1210.lt
    have hbl1 := hbw1089.lt
    exact ⟨_, _, _, _, _, _, _, _, rfl, rfl, by omega, by omega, by omega, by omega, hbl, by omega, by omega, by omega, by omega, hbl1, hbw1210, fw1224_0.fr, hbw1089, fw1224_1.fr, er⟩
   refine ⟨?_, trivial⟩
   refine alloc_step (fun w1165 ew1165 hbw1165 nw1165 => ?_)
   have hbw1 := hbw1.ext ew1165
   have hbw2 := hbw2.ext ew1165
   have hbw1089 := hbw1089.ext ew1165
   have fw1152 := fw1152.ext ew1165
   have er := Only.trans er ew1165
   have zw1165 := ew1165.size
   refine ⟨fa8_0 hbw2, ?_⟩
   refine ⟨fa8_1 hbw1, ?_⟩
   refine ⟨?_, trivial⟩
   refine (c39 (DIpcOp.has _) (IsD.ext (Only.trans e er) _ _ h1) (by have := sz1; omega)).mono ?_
   rintro _ w1179 ⟨yw1179, rfl, fw1179, ew1179⟩
   have hbw1089 := hbw1089.ext ew1179
   have hbw1165 := hbw1165.ext ew1179
   have fw1152 := fw1152.ext ew1179
   have er := Only.trans er ew1179
   have zw1179 := ew1179.size
   have hiyw1179 := fw1179.is
   obtain ⟨ryw1179_7, rfl, _, _, _, _, _, _, _, _⟩ := cells_IpcOp hiyw1179
   refine ⟨_, _, _, _, _, _, _, ryw1179_7, rfl, ?_⟩
   refine ⟨?_, trivial⟩
   refine (specIpcStep fw1152.is sz0 fw1179.is sz1).mono ?_
   rintro _ w1189 ⟨yw1189_0, yw1189_1, bsw1189_0, bsw1189_1, rfl, fw1189_0, fw1189_1, djw1189, ew1189⟩
   have hbw1089 := hbw1089.ext ew1189
   have hbw1165 := hbw1165.ext ew1189
   have er := Only.trans er ew1189
   have zw1189 := ew1189.size
   have hiyw1189_0 := fw1189_0.is
   obtain ⟨ryw1189_0_1, ryw1189_0_2, ryw1189_0_3, rfl, _, _, _, _⟩ := cells_Ipc hiyw1189_0
   have hiyw1189_1 := fw1189_1.is
   obtain ⟨ryw1189_1_2, rfl, _, _, _, _⟩ := cells_IpcRes hiyw1189_1
   refine ⟨_, ryw1189_0_1, ryw1189_0_2, ryw1189_0_3, _, _, ryw1189_1_2, _, rfl, ?_⟩
   refine ⟨?_, trivial⟩
   refine put_step hbw1165 rfl rfl (fun w1198 ow1198 hbw1165q nw1198 => ?_)
   have hbw1089 := hbw1089.only ow1198 (by omega)
   have fw1189_0 := fw1189_0.only ow1198 (fun k h1 h2 => by omega)
   have fw1189_1 := fw1189_1.only ow1198 (fun k h1 h2 => by omega)
   have er := Ext.own er ow1198 (fun k hk => by omega)
   have hbw1165 := hbw1165q
   refine ⟨?_, trivial⟩
   refine put_step hbw1089 rfl rfl (fun w1199 ow1199 hbw1089q nw1199 => ?_)
   have hbw1165 := hbw1165.only ow1199 (by omega)
   have fw1189_0 := fw1189_0.only ow1199 (fun k h1 h2 => by omega)
   have fw1189_1 := fw1189_1.only ow1199 (fun k h1 h2 => by omega)
   have er := Ext.own er ow1199 (fun k hk => by omega)
   have hbw1089 := hbw1089q
   have hbl := hbw1165.lt
   have hbl1 := hbw1089.lt
   exact ⟨_, _, _, _, _, _, _, _, rfl, rfl, by omega, by omega, by omega, by omega, hbl, by omega, by omega, by omega, by omega, hbl1, hbw1165, fw1189_0.fr, hbw1089, fw1189_1.fr, er⟩
  refine ⟨?_, trivial⟩
  refine alloc_step (fun w1102 ew1102 hbw1102 nw1102 => ?_)
  have hbw1 := hbw1.ext ew1102
  have hbw2 := hbw2.ext ew1102
  have hbw1089 := hbw1089.ext ew1102
  have er := Only.trans er ew1102
  have zw1102 := ew1102.size
  refine ⟨fa8_0 hbw2, ?_⟩
  refine ⟨fa8_1 hbw1, ?_⟩
  refine ⟨?_, trivial⟩
  refine (c11 (DIpc.has _) (IsD.ext (Only.trans e er) _ _ h0) (by have := sz0; omega)).mono ?_
  rintro _ w1116 ⟨yw1116, rfl, fw1116, ew1116⟩
  have hbw2 := hbw2.ext ew1116
  have hbw1089 := hbw1089.ext ew1116
  have hbw1102 := hbw1102.ext ew1116
  have er := Only.trans er ew1116
  have zw1116 := ew1116.size
  have hiyw1116 := fw1116.is
  obtain ⟨ryw1116_1, ryw1116_2, ryw1116_3, rfl, _, _, _, _⟩ := cells_Ipc hiyw1116
  refine ⟨_, ryw1116_1, ryw1116_2, ryw1116_3, rfl, ?_⟩
  refine ⟨fa8_0 hbw2, ?_⟩
  refine ⟨?_, trivial⟩
  refine (c39 (DIpcOp.has _) (IsD.ext (Only.trans e er) _ _ h1) (by have := sz1; omega)).mono ?_
  rintro _ w1130 ⟨yw1130, rfl, fw1130, ew1130⟩
  have hbw1089 := hbw1089.ext ew1130
  have hbw1102 := hbw1102.ext ew1130
  have fw1116 := fw1116.ext ew1130
  have er := Only.trans er ew1130
  have zw1130 := ew1130.size
  have hiyw1130 := fw1130.is
  obtain ⟨ryw1130_7, rfl, _, _, _, _, _, _, _, _⟩ := cells_IpcOp hiyw1130
  refine ⟨_, _, _, _, _, _, _, ryw1130_7, rfl, ?_⟩
  refine ⟨?_, trivial⟩
  refine (specIpcStep fw1116.is sz0 fw1130.is sz1).mono ?_
  rintro _ w1140 ⟨yw1140_0, yw1140_1, bsw1140_0, bsw1140_1, rfl, fw1140_0, fw1140_1, djw1140, ew1140⟩
  have hbw1089 := hbw1089.ext ew1140
  have hbw1102 := hbw1102.ext ew1140
  have er := Only.trans er ew1140
  have zw1140 := ew1140.size
  have hiyw1140_0 := fw1140_0.is
  obtain ⟨ryw1140_0_1, ryw1140_0_2, ryw1140_0_3, rfl, _, _, _, _⟩ := cells_Ipc hiyw1140_0
  have hiyw1140_1 := fw1140_1.is
  obtain ⟨ryw1140_1_2, rfl, _, _, _, _⟩ := cells_IpcRes hiyw1140_1
  refine ⟨_, ryw1140_0_1, ryw1140_0_2, ryw1140_0_3, _, _, ryw1140_1_2, _, rfl, ?_⟩
  refine ⟨?_, trivial⟩
  refine put_step hbw1102 rfl rfl (fun w1149 ow1149 hbw1102q nw1149 => ?_)
  have hbw1089 := hbw1089.only ow1149 (by omega)
  have fw1140_0 := fw1140_0.only ow1149 (fun k h1 h2 => by omega)
  have fw1140_1 := fw1140_1.only ow1149 (fun k h1 h2 => by omega)
  have er := Ext.own er ow1149 (fun k hk => by omega)
  have hbw1102 := hbw1102q
  refine ⟨?_, trivial⟩
  refine put_step hbw1089 rfl rfl (fun w1150 ow1150 hbw1089q nw1150 => ?_)
  have hbw1102 := hbw1102.only ow1150 (by omega)
  have fw1140_0 := fw1140_0.only ow1150 (fun k h1 h2 => by omega)
  have fw1140_1 := fw1140_1.only ow1150 (fun k h1 h2 => by omega)
  have er := Ext.own er ow1150 (fun k hk => by omega)
  have hbw1089 := hbw1089q
  have hbl := hbw1102.lt
  have hbl1 := hbw1089.lt
  exact ⟨_, _, _, _, _, _, _, _, rfl, rfl, by omega, by omega, by omega, by omega, hbl, by omega, by omega, by omega, by omega, hbl1, hbw1102, fw1140_0.fr, hbw1089, fw1140_1.fr, er⟩
 rintro (p21 : Option Addr) (p22 : Option Addr) w24 ⟨bw24, low24, hiw24, yw24, b1_w24, lo1_w24, hi1_w24, y1_w24, rfl, rfl, hxw24, hlow24, hhiw24, hdsw24, hblw24, hx1_w24, hlo1_w24, hhi1_w24, hds1_w24, hbl1_w24, hbw24, fw24, hb1_w24, f1_w24, erw24⟩
 have hbw1 := hbw1.ext erw24
 have hbw2 := hbw2.ext erw24
 have e := Only.trans e erw24
 have zw24 := erw24.size
 have hiyw24 := fw24.is
 obtain ⟨ryw24_1, ryw24_2, ryw24_3, rfl, _, _, _, _⟩ := cells_Ipc hiyw24
 have hiy1_w24 := f1_w24.is
 obtain ⟨ry1_w24_2, rfl, _, _, _, _⟩ := cells_IpcRes hiy1_w24
 refine ⟨_, hbw1.cell 0, ?_⟩
 refine ⟨p0_1, hbw1.cell 1, ?_⟩
 refine ⟨p0_2, hbw1.cell 2, ?_⟩
 refine ⟨p0_3, hbw1.cell 3, ?_⟩
 refine (c11 (DIpc.has _) (IsD.ext e _ _ h0) (by have := sz0; omega)).mono ?_
 rintro _ w30 ⟨yw30, rfl, fw30, ew30⟩
 have hbw1 := hbw1.ext ew30
 have hbw2 := hbw2.ext ew30
 have hbw24 := hbw24.ext ew30
 have hb1_w24 := hb1_w24.ext ew30
 have fw24 := fw24.ext ew30
 have f1_w24 := f1_w24.ext ew30
 have e := Only.trans e ew30
 have zw30 := ew30.size
 have hiyw30 := fw30.is
 obtain ⟨ryw30_1, ryw30_2, ryw30_3, rfl, _, _, _, _⟩ := cells_Ipc hiyw30
 refine ⟨_, ryw30_1, ryw30_2, ryw30_3, rfl, ?_⟩
 refine alloc_step (fun w35 ew35 hbw35 nw35 => ?_)
 have hbw1 := hbw1.ext ew35
 have hbw2 := hbw2.ext ew35
 have hbw24 := hbw24.ext ew35
 have hb1_w24 := hb1_w24.ext ew35
 have fw24 := fw24.ext ew35
 have f1_w24 := f1_w24.ext ew35
 have fw30 := fw30.ext ew35
 have e := Only.trans e ew35
 have zw35 := ew35.size
 refine put_step hbw35 rfl rfl (fun w36 ow36 hbw35q nw36 => ?_)
 have hbw1 := hbw1.only ow36 (by omega)
 have hbw2 := hbw2.only ow36 (by omega)
 have hbw24 := hbw24.only ow36 (by omega)
 have hb1_w24 := hb1_w24.only ow36 (by omega)
 have fw24 := fw24.only ow36 (fun k h1 h2 => by omega)
 have f1_w24 := f1_w24.only ow36 (fun k h1 h2 => by omega)
 have fw30 := fw30.only ow36 (fun k h1 h2 => by omega)
 have e := Ext.own e ow36 (fun k hk => by omega)
 have hbw35 := hbw35q
 refine ⟨_, hbw2.cell 0, ?_⟩
 refine ⟨_, hbw2.cell 1, ?_⟩
 refine ⟨_, hbw2.cell 2, ?_⟩
 refine ⟨_, hbw2.cell 3, ?_⟩
 refine ⟨_, hbw2.cell 4, ?_⟩
 refine ⟨_, hbw2.cell 5, ?_⟩
 refine ⟨_, hbw2.cell 6, ?_⟩
 refine ⟨p1_7, hbw2.cell 7, ?_⟩
 refine (c39 (DIpcOp.has _) (IsD.ext e _ _ h1) (by have := sz1; omega)).mono ?_
 rintro _ w46 ⟨yw46, rfl, fw46, ew46⟩
 have hbw1 := hbw1.ext ew46
 have hbw2 := hbw2.ext ew46
 have hbw24 := hbw24.ext ew46
 have hb1_w24 := hb1_w24.ext ew46
 have hbw35 := hbw35.ext ew46
 have fw24 := fw24.ext ew46
 have f1_w24 := f1_w24.ext ew46
 have fw30 := fw30.ext ew46
 have e := Only.trans e ew46
 have zw46 := ew46.size
 have hiyw46 := fw46.is
 obtain ⟨ryw46_7, rfl, _, _, _, _, _, _, _, _⟩ := cells_IpcOp hiyw46
 refine ⟨_, _, _, _, _, _, _, ryw46_7, rfl, ?_⟩
 refine alloc_step (fun w55 ew55 hbw55 nw55 => ?_)
 have hbw1 := hbw1.ext ew55
 have hbw2 := hbw2.ext ew55
 have hbw24 := hbw24.ext ew55
 have hb1_w24 := hb1_w24.ext ew55
 have hbw35 := hbw35.ext ew55
 have fw24 := fw24.ext ew55
 have f1_w24 := f1_w24.ext ew55
 have fw30 := fw30.ext ew55
 have fw46 := fw46.ext ew55
 have e := Only.trans e ew55
 have zw55 := ew55.size
 refine put_step hbw55 rfl rfl (fun w56 ow56 hbw55q nw56 => ?_)
 have hbw1 := hbw1.only ow56 (by omega)
 have hbw2 := hbw2.only ow56 (by omega)
 have hbw24 := hbw24.only ow56 (by omega)
 have hb1_w24 := hb1_w24.only ow56 (by omega)
 have hbw35 := hbw35.only ow56 (by omega)
 have fw24 := fw24.only ow56 (fun k h1 h2 => by omega)
 have f1_w24 := f1_w24.only ow56 (fun k h1 h2 => by omega)
 have fw30 := fw30.only ow56 (fun k h1 h2 => by omega)
 have fw46 := fw46.only ow56 (fun k h1 h2 => by omega)
 have e := Ext.own e ow56 (fun k hk => by omega)
 have hbw55 := hbw55q
 refine ⟨_, hbw35.cell 0, ?_⟩
 refine ⟨ryw30_1, hbw35.cell 1, ?_⟩
 refine ⟨ryw30_2, hbw35.cell 2, ?_⟩
 refine ⟨ryw30_3, hbw35.cell 3, ?_⟩
 refine ⟨_, hbw55.cell 0, ?_⟩
 refine ⟨_, hbw55.cell 1, ?_⟩
 refine ⟨_, hbw55.cell 2, ?_⟩
 refine ⟨_, hbw55.cell 3, ?_⟩
 refine ⟨_, hbw55.cell 4, ?_⟩
 refine ⟨_, hbw55.cell 5, ?_⟩
 refine ⟨_, hbw55.cell 6, ?_⟩
 refine ⟨ryw46_7, hbw55.cell 7, ?_⟩
 refine (implIpcStep fw30.is sz0 fw46.is sz1).mono ?_
 rintro _ w70 ⟨yw70_0, yw70_1, bsw70_0, bsw70_1, rfl, fw70_0, fw70_1, djw70, ew70⟩
 have hbw1 := hbw1.ext ew70
 have hbw2 := hbw2.ext ew70
 have hbw24 := hbw24.ext ew70
 have hb1_w24 := hb1_w24.ext ew70
 have hbw35 := hbw35.ext ew70
 have hbw55 := hbw55.ext ew70
 have fw24 := fw24.ext ew70
 have f1_w24 := f1_w24.ext ew70
 have fw30 := fw30.ext ew70
 have fw46 := fw46.ext ew70
 have e := Only.trans e ew70
 have zw70 := ew70.size
 have hiyw70_0 := fw70_0.is
 obtain ⟨ryw70_0_1, ryw70_0_2, ryw70_0_3, rfl, _, _, _, _⟩ := cells_Ipc hiyw70_0
 have hiyw70_1 := fw70_1.is
 obtain ⟨ryw70_1_2, rfl, _, _, _, _⟩ := cells_IpcRes hiyw70_1
 refine ⟨_, ryw70_0_1, ryw70_0_2, ryw70_0_3, _, _, ryw70_1_2, _, rfl, ?_⟩
 refine alloc_step (fun w79 ew79 hbw79 nw79 => ?_)
 have hbw1 := hbw1.ext ew79
 have hbw2 := hbw2.ext ew79
 have hbw24 := hbw24.ext ew79
 have hb1_w24 := hb1_w24.ext ew79
 have hbw35 := hbw35.ext ew79
 have hbw55 := hbw55.ext ew79
 have fw24 := fw24.ext ew79
 have f1_w24 := f1_w24.ext ew79
 have fw30 := fw30.ext ew79
 have fw46 := fw46.ext ew79
 have fw70_0 := fw70_0.ext ew79
 have fw70_1 := fw70_1.ext ew79
 have e := Only.trans e ew79
 have zw79 := ew79.size
 refine alloc_step (fun w80 ew80 hbw80 nw80 => ?_)
 have hbw1 := hbw1.ext ew80
 have hbw2 := hbw2.ext ew80
 have hbw24 := hbw24.ext ew80
 have hb1_w24 := hb1_w24.ext ew80
 have hbw35 := hbw35.ext ew80
 have hbw55 := hbw55.ext ew80
 have hbw79 := hbw79.ext ew80
 have fw24 := fw24.ext ew80
 have f1_w24 := f1_w24.ext ew80
 have fw30 := fw30.ext ew80
 have fw46 := fw46.ext ew80
 have fw70_0 := fw70_0.ext ew80
 have fw70_1 := fw70_1.ext ew80
 have e := Only.trans e ew80
 have zw80 := ew80.size
 refine put_step hbw79 rfl rfl (fun w81 ow81 hbw79q nw81 => ?_)
 have hbw1 := hbw1.only ow81 (by omega)
 have hbw2 := hbw2.only ow81 (by omega)
 have hbw24 := hbw24.only ow81 (by omega)
 have hb1_w24 := hb1_w24.only ow81 (by omega)
 have hbw35 := hbw35.only ow81 (by omega)
 have hbw55 := hbw55.only ow81 (by omega)
 have hbw80 := hbw80.only ow81 (by omega)
 have fw24 := fw24.only ow81 (fun k h1 h2 => by omega)
 have f1_w24 := f1_w24.only ow81 (fun k h1 h2 => by omega)
 have fw30 := fw30.only ow81 (fun k h1 h2 => by omega)
 have fw46 := fw46.only ow81 (fun k h1 h2 => by omega)
 have fw70_0 := fw70_0.only ow81 (fun k h1 h2 => by omega)
 have fw70_1 := fw70_1.only ow81 (fun k h1 h2 => by omega)
 have e := Ext.own e ow81 (fun k hk => by omega)
 have hbw79 := hbw79q
 refine put_step hbw80 rfl rfl (fun w82 ow82 hbw80q nw82 => ?_)
 have hbw1 := hbw1.only ow82 (by omega)
 have hbw2 := hbw2.only ow82 (by omega)
 have hbw24 := hbw24.only ow82 (by omega)
 have hb1_w24 := hb1_w24.only ow82 (by omega)
 have hbw35 := hbw35.only ow82 (by omega)
 have hbw55 := hbw55.only ow82 (by omega)
 have hbw79 := hbw79.only ow82 (by omega)
 have fw24 := fw24.only ow82 (fun k h1 h2 => by omega)
 have f1_w24 := f1_w24.only ow82 (fun k h1 h2 => by omega)
 have fw30 := fw30.only ow82 (fun k h1 h2 => by omega)
 have fw46 := fw46.only ow82 (fun k h1 h2 => by omega)
 have fw70_0 := fw70_0.only ow82 (fun k h1 h2 => by omega)
 have fw70_1 := fw70_1.only ow82 (fun k h1 h2 => by omega)
 have e := Ext.own e ow82 (fun k hk => by omega)
 have hbw80 := hbw80q
 refine ⟨_, hbw79.cell 0, ?_⟩
 refine ⟨ryw70_0_1, hbw79.cell 1, ?_⟩
 refine ⟨ryw70_0_2, hbw79.cell 2, ?_⟩
 refine ⟨ryw70_0_3, hbw79.cell 3, ?_⟩
 refine addrOf_mk ?_
 refine ⟨_, hbw24.cell 0, ?_⟩
 refine ⟨ryw24_1, hbw24.cell 1, ?_⟩
 refine ⟨ryw24_2, hbw24.cell 2, ?_⟩
 refine ⟨ryw24_3, hbw24.cell 3, ?_⟩
 refine (c13 (DIpc.has _) fw70_0.is fw24.is).mono ?_
 rintro _ w93 ⟨rfl, ew93⟩
 have hbw1 := hbw1.ext ew93
 have hbw2 := hbw2.ext ew93
 have hbw24 := hbw24.ext ew93
 have hb1_w24 := hb1_w24.ext ew93
 have hbw35 := hbw35.ext ew93
 have hbw55 := hbw55.ext ew93
 have hbw79 := hbw79.ext ew93
 have hbw80 := hbw80.ext ew93
 have fw24 := fw24.ext ew93
 have f1_w24 := f1_w24.ext ew93
 have fw30 := fw30.ext ew93
 have fw46 := fw46.ext ew93
 have fw70_0 := fw70_0.ext ew93
 have fw70_1 := fw70_1.ext ew93
 have e := Only.trans e ew93
 have zw93 := ew93.size
 refine ⟨_, rfl, ?_⟩
 refine JoinW.each ?_
 refine BIf.f rfl ?_
 refine ⟨_, hbw80.cell 0, ?_⟩
 refine ⟨_, hbw80.cell 1, ?_⟩
 refine ⟨ryw70_1_2, hbw80.cell 2, ?_⟩
 refine ⟨_, hbw80.cell 3, ?_⟩
 refine addrOf_mk ?_
 refine ⟨_, hb1_w24.cell 0, ?_⟩
 refine ⟨_, hb1_w24.cell 1, ?_⟩
 refine ⟨ry1_w24_2, hb1_w24.cell 2, ?_⟩
 refine ⟨_, hb1_w24.cell 3, ?_⟩
 refine (c40 (DIpcRes.has _) fw70_1.is f1_w24.is).mono ?_
 rintro _ w1075 ⟨rfl, ew1075⟩
 have hbw1 := hbw1.ext ew1075
 have hbw2 := hbw2.ext ew1075
 have hbw24 := hbw24.ext ew1075
 have hb1_w24 := hb1_w24.ext ew1075
 have hbw35 := hbw35.ext ew1075
 have hbw55 := hbw55.ext ew1075
 have hbw79 := hbw79.ext ew1075
 have hbw80 := hbw80.ext ew1075
 have fw24 := fw24.ext ew1075
 have f1_w24 := f1_w24.ext ew1075
 have fw30 := fw30.ext ew1075
 have fw46 := fw46.ext ew1075
 have fw70_0 := fw70_0.ext ew1075
 have fw70_1 := fw70_1.ext ew1075
 have e := Only.trans e ew1075
 have zw1075 := ew1075.size
 refine ⟨_, rfl, ?_⟩
 refine BIf.f (by first | (simp; done) | (simp; omega)) ?_
 have ed := ext_drew w1075
 have hbw1 := hbw1.ext ed
 have hbw2 := hbw2.ext ed
 have hbw24 := hbw24.ext ed
 have hb1_w24 := hb1_w24.ext ed
 have hbw35 := hbw35.ext ed
 have hbw55 := hbw55.ext ed
 have hbw79 := hbw79.ext ed
 have hbw80 := hbw80.ext ed
 have fw24 := fw24.ext ed
 have f1_w24 := f1_w24.ext ed
 have fw30 := fw30.ext ed
 have fw46 := fw46.ext ed
 have fw70_0 := fw70_0.ext ed
 have fw70_1 := fw70_1.ext ed
 have e := Only.trans e ed
 have zw1075_drew := ed.size
 refine ⟨_, hbw35.cell 0, ?_⟩
 refine ⟨ryw30_1, hbw35.cell 1, ?_⟩
 refine ⟨ryw30_2, hbw35.cell 2, ?_⟩
 refine ⟨ryw30_3, hbw35.cell 3, ?_⟩
 refine ⟨_, hbw1.cell 0, ?_⟩
 refine ⟨p0_1, hbw1.cell 1, ?_⟩
 refine ⟨p0_2, hbw1.cell 2, ?_⟩
 refine ⟨p0_3, hbw1.cell 3, ?_⟩
 refine (c11 (DIpc.has _) (IsD.ext e _ _ h0) (by have := sz0; omega)).mono ?_
 rintro _ w107 ⟨yw107, rfl, fw107, ew107⟩
 have hbw1 := hbw1.ext ew107
 have hbw2 := hbw2.ext ew107
 have hbw24 := hbw24.ext ew107
 have hb1_w24 := hb1_w24.ext ew107
 have hbw35 := hbw35.ext ew107
 have hbw55 := hbw55.ext ew107
 have hbw79 := hbw79.ext ew107
 have hbw80 := hbw80.ext ew107
 have fw24 := fw24.ext ew107
 have f1_w24 := f1_w24.ext ew107
 have fw30 := fw30.ext ew107
 have fw46 := fw46.ext ew107
 have fw70_0 := fw70_0.ext ew107
 have fw70_1 := fw70_1.ext ew107
 have e := Only.trans e ew107
 have zw107 := ew107.size
 have hiyw107 := fw107.is
 obtain ⟨ryw107_1, ryw107_2, ryw107_3, rfl, _, _, _, _⟩ := cells_Ipc hiyw107
 refine ⟨_, ryw107_1, ryw107_2, ryw107_3, rfl, ?_⟩
 refine ⟨fa8_1 hbw35, ?_⟩
 refine (c13 (DIpc.has _) fw30.is fw107.is).mono ?_
 rintro _ w117 ⟨rfl, ew117⟩
 have hbw1 := hbw1.ext ew117
 have hbw2 := hbw2.ext ew117
 have hbw24 := hbw24.ext ew117
 have hb1_w24 := hb1_w24.ext ew117
 have hbw35 := hbw35.ext ew117
 have hbw55 := hbw55.ext ew117
 have hbw79 := hbw79.ext ew117
 have hbw80 := hbw80.ext ew117
 have fw24 := fw24.ext ew117
 have f1_w24 := f1_w24.ext ew117
 have fw30 := fw30.ext ew117
 have fw46 := fw46.ext ew117
 have fw70_0 := fw70_0.ext ew117
 have fw70_1 := fw70_1.ext ew117
 have e := Only.trans e ew117
 have zw117 := ew117.size
 refine ⟨_, rfl, ?_⟩
 refine BIf.f rfl ?_
 have ed := ext_drew w117
 have hbw1 := hbw1.ext ed
 have hbw2 := hbw2.ext ed
 have hbw24 := hbw24.ext ed
 have hb1_w24 := hb1_w24.ext ed
 have hbw35 := hbw35.ext ed
 have hbw55 := hbw55.ext ed
 have hbw79 := hbw79.ext ed
 have hbw80 := hbw80.ext ed
 have fw24 := fw24.ext ed
 have f1_w24 := f1_w24.ext ed
 have fw30 := fw30.ext ed
 have fw46 := fw46.ext ed
 have fw70_0 := fw70_0.ext ed
 have fw70_1 := fw70_1.ext ed
 have e := Only.trans e ed
 have zw117_drew := ed.size
 refine ⟨_, hbw55.cell 0, ?_⟩
 refine ⟨_, hbw55.cell 1, ?_⟩
 refine ⟨_, hbw55.cell 2, ?_⟩
 refine ⟨_, hbw55.cell 3, ?_⟩
 refine ⟨_, hbw55.cell 4, ?_⟩
 refine ⟨_, hbw55.cell 5, ?_⟩
 refine ⟨_, hbw55.cell 6, ?_⟩
 refine ⟨ryw46_7, hbw55.cell 7, ?_⟩
 refine ⟨_, hbw2.cell 0, ?_⟩
 refine ⟨_, hbw2.cell 1, ?_⟩
 refine ⟨_, hbw2.cell 2, ?_⟩
 refine ⟨_, hbw2.cell 3, ?_⟩
 refine ⟨_, hbw2.cell 4, ?_⟩
 refine ⟨_, hbw2.cell 5, ?_⟩
 refine ⟨_, hbw2.cell 6, ?_⟩
 refine ⟨p1_7, hbw2.cell 7, ?_⟩
 refine (c39 (DIpcOp.has _) (IsD.ext e _ _ h1) (by have := sz1; omega)).mono ?_
 rintro _ w136 ⟨yw136, rfl, fw136, ew136⟩
 have hbw1 := hbw1.ext ew136
 have hbw2 := hbw2.ext ew136
 have hbw24 := hbw24.ext ew136
 have hb1_w24 := hb1_w24.ext ew136
 have hbw35 := hbw35.ext ew136
 have hbw55 := hbw55.ext ew136
 have hbw79 := hbw79.ext ew136
 have hbw80 := hbw80.ext ew136
 have fw24 := fw24.ext ew136
 have f1_w24 := f1_w24.ext ew136
 have fw30 := fw30.ext ew136
 have fw46 := fw46.ext ew136
 have fw70_0 := fw70_0.ext ew136
 have fw70_1 := fw70_1.ext ew136
 have e := Only.trans e ew136
 have zw136 := ew136.size
 have hiyw136 := fw136.is
 obtain ⟨ryw136_7, rfl, _, _, _, _, _, _, _, _⟩ := cells_IpcOp hiyw136
 refine ⟨_, _, _, _, _, _, _, ryw136_7, rfl, ?_⟩
 refine ⟨fa8_0 hbw55, ?_⟩
 refine (c41 (DIpcOp.has _) fw46.is fw136.is).mono ?_
 rintro _ w154 ⟨rfl, ew154⟩
 have hbw1 := hbw1.ext ew154
 have hbw2 := hbw2.ext ew154
 have hbw24 := hbw24.ext ew154
 have hb1_w24 := hb1_w24.ext ew154
 have hbw35 := hbw35.ext ew154
 have hbw55 := hbw55.ext ew154
 have hbw79 := hbw79.ext ew154
 have hbw80 := hbw80.ext ew154
 have fw24 := fw24.ext ew154
 have f1_w24 := f1_w24.ext ew154
 have fw30 := fw30.ext ew154
 have fw46 := fw46.ext ew154
 have fw70_0 := fw70_0.ext ew154
 have fw70_1 := fw70_1.ext ew154
 have e := Only.trans e ew154
 have zw154 := ew154.size
 refine ⟨_, rfl, ?_⟩
 refine BIf.f rfl ?_
 refine ⟨_, hbw35.cell 0, ?_⟩
 refine ⟨ryw30_1, hbw35.cell 1, ?_⟩
 refine ⟨ryw30_2, hbw35.cell 2, ?_⟩
 refine ⟨ryw30_3, hbw35.cell 3, ?_⟩
 obtain ⟨bsw161, oww161, ndw161, rgw161⟩ := fw30
 refine (c17 (DIpc.has _) oww161 ndw161 (by omega) (by have := sz0; have := ipc_cnt sz0; (try simp only [Dat.cntT, Dat.cntTs] at *); omega)).mono ?_
 rintro _ w161 ⟨rfl, dw161, cnw161, hsw161, mkw161, oww161, ow161⟩
 have hbw1 := hbw1.only ow161 (fun hk => by have := rgw161 _ hk; omega)
 have hbw2 := hbw2.only ow161 (fun hk => by have := rgw161 _ hk; omega)
 have hbw24 := hbw24.only ow161 (fun hk => by have := rgw161 _ hk; omega)
 have hb1_w24 := hb1_w24.only ow161 (fun hk => by have := rgw161 _ hk; omega)
 have hbw35 := hbw35.only ow161 (fun hk => by have := rgw161 _ hk; omega)
 have hbw55 := hbw55.only ow161 (fun hk => by have := rgw161 _ hk; omega)
 have hbw79 := hbw79.only ow161 (fun hk => by have := rgw161 _ hk; omega)
 have hbw80 := hbw80.only ow161 (fun hk => by have := rgw161 _ hk; omega)
 have fw24 := fw24.only ow161 (fun k h1 h2 hk => by have := rgw161 k hk; omega)
 have f1_w24 := f1_w24.only ow161 (fun k h1 h2 hk => by have := rgw161 k hk; omega)
 have fw46 := fw46.only ow161 (fun k h1 h2 hk => by have := rgw161 k hk; omega)
 have fw70_0 := fw70_0.only ow161 (fun k h1 h2 hk => by have := rgw161 k hk; omega)
 have fw70_1 := fw70_1.only ow161 (fun k h1 h2 hk => by have := rgw161 k hk; omega)
 have e := Ext.own e ow161 (fun k hk => by have := rgw161 k hk; omega)
 have zw161 := ow161.size
 have fw161 : Fr _ _ w161 dw161 _ := ⟨bsw161, oww161, ndw161, rgw161⟩
 refine ⟨_, rfl, ?_⟩
 refine ⟨_, hbw55.cell 0, ?_⟩
 refine ⟨_, hbw55.cell 1, ?_⟩
 refine ⟨_, hbw55.cell 2, ?_⟩
 refine ⟨_, hbw55.cell 3, ?_⟩
 refine ⟨_, hbw55.cell 4, ?_⟩
 refine ⟨_, hbw55.cell 5, ?_⟩
 refine ⟨_, hbw55.cell 6, ?_⟩
 refine ⟨ryw46_7, hbw55.cell 7, ?_⟩
 obtain ⟨bsw172, oww172, ndw172, rgw172⟩ := fw46
 refine (c42 (DIpcOp.has _) oww172 ndw172 (by omega) (by have := sz1; have := And.intro (ipc_cnt sz0) (iop_cnt sz1); (try simp only [Dat.cntT, Dat.cntTs] at *); omega)).mono ?_
 rintro _ w172 ⟨rfl, dw172, cnw172, hsw172, mkw172, oww172, ow172⟩
 have hbw1 := hbw1.only ow172 (fun hk => by have := rgw172 _ hk; omega)
 have hbw2 := hbw2.only ow172 (fun hk => by have := rgw172 _ hk; omega)
 have hbw24 := hbw24.only ow172 (fun hk => by have := rgw172 _ hk; omega)
 have hb1_w24 := hb1_w24.only ow172 (fun hk => by have := rgw172 _ hk; omega)
 have hbw35 := hbw35.only ow172 (fun hk => by have := rgw172 _ hk; omega)
 have hbw55 := hbw55.only ow172 (fun hk => by have := rgw172 _ hk; omega)
 have hbw79 := hbw79.only ow172 (fun hk => by have := rgw172 _ hk; omega)
 have hbw80 := hbw80.only ow172 (fun hk => by have := rgw172 _ hk; omega)
 have fw24 := fw24.only ow172 (fun k h1 h2 hk => by have := rgw172 k hk; omega)
 have f1_w24 := f1_w24.only ow172 (fun k h1 h2 hk => by have := rgw172 k hk; omega)
 have fw70_0 := fw70_0.only ow172 (fun k h1 h2 hk => by have := rgw172 k hk; omega)
 have fw70_1 := fw70_1.only ow172 (fun k h1 h2 hk => by have := rgw172 k hk; omega)
 have fw161 := fw161.only ow172 (fun k h1 h2 hk => by have := rgw172 k hk; omega)
 have e := Ext.own e ow172 (fun k hk => by have := rgw172 k hk; omega)
 have zw172 := ow172.size
 have fw172 : Fr _ _ w172 dw172 _ := ⟨bsw172, oww172, ndw172, rgw172⟩
 refine ⟨_, rfl, ?_⟩
 refine JoinW.each ?_
 refine BIf.f (decide_eq_false (by omega)) ?_
 refine ⟨_, hbw79.cell 0, ?_⟩
 refine ⟨ryw70_0_1, hbw79.cell 1, ?_⟩
 refine ⟨ryw70_0_2, hbw79.cell 2, ?_⟩
 refine ⟨ryw70_0_3, hbw79.cell 3, ?_⟩
 refine addrOf_mk ?_
 refine ⟨_, hbw24.cell 0, ?_⟩
 refine ⟨ryw24_1, hbw24.cell 1, ?_⟩
 refine ⟨ryw24_2, hbw24.cell 2, ?_⟩
 refine ⟨ryw24_3, hbw24.cell 3, ?_⟩
 refine (c13 (DIpc.has _) fw70_0.is fw24.is).mono ?_
 rintro _ w1063 ⟨rfl, ew1063⟩
 have hbw1 := hbw1.ext ew1063
 have hbw2 := hbw2.ext ew1063
 have hbw24 := hbw24.ext ew1063
 have hb1_w24 := hb1_w24.ext ew1063
 have hbw79 := hbw79.ext ew1063
 have hbw80 := hbw80.ext ew1063
 have fw24 := fw24.ext ew1063
 have f1_w24 := f1_w24.ext ew1063
 have fw70_0 := fw70_0.ext ew1063
 have fw70_1 := fw70_1.ext ew1063
 have e := Only.trans e ew1063
 have zw1063 := ew1063.size
 refine ⟨_, rfl, ?_⟩
 refine JoinW.each ?_
 refine BIf.f (by first | (simp; done) | (simp; omega)) ?_
 refine ⟨_, hbw80.cell 0, ?_⟩
 refine ⟨_, hbw80.cell 1, ?_⟩
 refine ⟨ryw70_1_2, hbw80.cell 2, ?_⟩
 refine ⟨_, hbw80.cell 3, ?_⟩
 refine addrOf_mk ?_
 refine ⟨_, hb1_w24.cell 0, ?_⟩
 refine ⟨_, hb1_w24.cell 1, ?_⟩
 refine ⟨ry1_w24_2, hb1_w24.cell 2, ?_⟩
 refine ⟨_, hb1_w24.cell 3, ?_⟩
 refine (c40 (DIpcRes.has _) fw70_1.is f1_w24.is).mono ?_
 rintro _ w1051 ⟨rfl, ew1051⟩
 have hbw1 := hbw1.ext ew1051
 have hbw2 := hbw2.ext ew1051
 have hbw24 := hbw24.ext ew1051
 have hb1_w24 := hb1_w24.ext ew1051
 have hbw79 := hbw79.ext ew1051
 have hbw80 := hbw80.ext ew1051
 have fw24 := fw24.ext ew1051
 have f1_w24 := f1_w24.ext ew1051
 have fw70_0 := fw70_0.ext ew1051
 have fw70_1 := fw70_1.ext ew1051
 have e := Only.trans e ew1051
 have zw1051 := ew1051.size
 refine ⟨_, rfl, ?_⟩
 refine BIf.f (by first | (simp; done) | (simp; omega)) ?_
 refine ⟨_, hbw79.cell 0, ?_⟩
 refine ⟨ryw70_0_1, hbw79.cell 1, ?_⟩
 refine ⟨ryw70_0_2, hbw79.cell 2, ?_⟩
 refine ⟨ryw70_0_3, hbw79.cell 3, ?_⟩
 obtain ⟨oww185, ndw185, rgw185⟩ := fw70_0
 refine (c17 (DIpc.has _) oww185 ndw185 (by omega) (by have := istep_cnt h0 sz0 h1 sz1; omega)).mono ?_
 rintro _ w185 ⟨rfl, dw185, cnw185, hsw185, mkw185, oww185, ow185⟩
 have hbw1 := hbw1.only ow185 (fun hk => by have := rgw185 _ hk; omega)
 have hbw2 := hbw2.only ow185 (fun hk => by have := rgw185 _ hk; omega)
 have hbw24 := hbw24.only ow185 (fun hk => by have := rgw185 _ hk; omega)
 have hb1_w24 := hb1_w24.only ow185 (fun hk => by have := rgw185 _ hk; omega)
 have hbw79 := hbw79.only ow185 (fun hk => by have := rgw185 _ hk; omega)
 have hbw80 := hbw80.only ow185 (fun hk => by have := rgw185 _ hk; omega)
 have fw24 := fw24.only ow185 (fun k h1 h2 hk => by have := rgw185 k hk; omega)
 have f1_w24 := f1_w24.only ow185 (fun k h1 h2 hk => by have := rgw185 k hk; omega)
 have fw70_1 := fw70_1.sib ow185 (fun k h1 h2 => djw70 k h2 h1)
 have e := Ext.own e ow185 (fun k hk => by have := rgw185 k hk; omega)
 have zw185 := ow185.size
 have fw185 : FrB bsw70_0 _ _ w185 dw185 _ := ⟨oww185, ndw185, rgw185⟩
 refine ⟨_, rfl, ?_⟩
 refine ⟨_, hbw80.cell 0, ?_⟩
 refine ⟨_, hbw80.cell 1, ?_⟩
 refine ⟨ryw70_1_2, hbw80.cell 2, ?_⟩
 refine ⟨_, hbw80.cell 3, ?_⟩
 obtain ⟨oww192, ndw192, rgw192⟩ := fw70_1
 refine (c43 (DIpcRes.has _) oww192 ndw192 (by omega) (by have := istep_cnt h0 sz0 h1 sz1; omega)).mono ?_
 rintro _ w192 ⟨rfl, dw192, cnw192, hsw192, mkw192, oww192, ow192⟩
 have hbw1 := hbw1.only ow192 (fun hk => by have := rgw192 _ hk; omega)
 have hbw2 := hbw2.only ow192 (fun hk => by have := rgw192 _ hk; omega)
 have hbw24 := hbw24.only ow192 (fun hk => by have := rgw192 _ hk; omega)
 have hb1_w24 := hb1_w24.only ow192 (fun hk => by have := rgw192 _ hk; omega)
 have hbw79 := hbw79.only ow192 (fun hk => by have := rgw192 _ hk; omega)
 have hbw80 := hbw80.only ow192 (fun hk => by have := rgw192 _ hk; omega)
 have fw24 := fw24.only ow192 (fun k h1 h2 hk => by have := rgw192 k hk; omega)
 have f1_w24 := f1_w24.only ow192 (fun k h1 h2 hk => by have := rgw192 k hk; omega)
 have fw185 := fw185.sib ow192 (fun k h1 h2 => djw70 k h1 h2)
 have e := Ext.own e ow192 (fun k hk => by have := rgw192 k hk; omega)
 have zw192 := ow192.size
 have fw192 : FrB bsw70_1 _ _ w192 dw192 _ := ⟨oww192, ndw192, rgw192⟩
 refine ⟨_, rfl, ?_⟩
 refine ⟨_, hbw79.cell 0, ?_⟩
 refine ⟨ryw70_0_1, hbw79.cell 1, ?_⟩
 refine ⟨ryw70_0_2, hbw79.cell 2, ?_⟩
 refine ⟨ryw70_0_3, hbw79.cell 3, ?_⟩
 refine (c44 hsw185 fw185.is mkw185 (by omega) (by have := cnw185; have := istep_cnt h0 sz0 h1 sz1; omega)).mono ?_
 rintro _ w199 ⟨rfl, ew199⟩
 have hbw1 := hbw1.ext ew199
 have hbw2 := hbw2.ext ew199
 have hbw24 := hbw24.ext ew199
 have hb1_w24 := hb1_w24.ext ew199
 have hbw79 := hbw79.ext ew199
 have hbw80 := hbw80.ext ew199
 have fw24 := fw24.ext ew199
 have f1_w24 := f1_w24.ext ew199
 have fw185 := fw185.ext ew199
 have fw192 := fw192.ext ew199
 have e := Only.trans e ew199
 have zw199 := ew199.size
 try rw [cnw185]
 refine ⟨_, rfl, ?_⟩
 refine BIf.f (decide_eq_false (by omega)) ?_
 refine ⟨_, hbw80.cell 0, ?_⟩
 refine ⟨_, hbw80.cell 1, ?_⟩
 refine ⟨ryw70_1_2, hbw80.cell 2, ?_⟩
 refine ⟨_, hbw80.cell 3, ?_⟩
 refine (c45 hsw192 fw192.is mkw192 (by omega) (by have := cnw192; have := istep_cnt h0 sz0 h1 sz1; omega)).mono ?_
 rintro _ w206 ⟨rfl, ew206⟩
 have hbw1 := hbw1.ext ew206
 have hbw2 := hbw2.ext ew206
 have hbw24 := hbw24.ext ew206
 have hb1_w24 := hb1_w24.ext ew206
 have hbw79 := hbw79.ext ew206
 have hbw80 := hbw80.ext ew206
 have fw24 := fw24.ext ew206
 have f1_w24 := f1_w24.ext ew206
 have fw185 := fw185.ext ew206
 have fw192 := fw192.ext ew206
 have e := Only.trans e ew206
 have zw206 := ew206.size
 try rw [cnw192]
 refine ⟨_, rfl, ?_⟩
 refine BIf.f (decide_eq_false (by omega)) ?_
 refine BIf.f (by first | (simp; done) | (simp; omega)) ?_
 refine JoinW.cut2 (fun (p208 : Option Addr) (p209 : Option Addr) w' => ∃ (b lo hi : Nat) (y : List Value) (b1 lo1 hi1 : Nat) (y1 : List Value), p208 = some ⟨b, 0, none⟩ ∧ p209 = some ⟨b1, 0, none⟩ ∧ w206.heap.size ≤ b ∧ w206.heap.size ≤ lo ∧ hi ≤ w'.heap.size ∧ (b < lo ∨ hi ≤ b) ∧ b < w'.heap.size ∧ w206.heap.size ≤ b1 ∧ w206.heap.size ≤ lo1 ∧ hi1 ≤ w'.heap.size ∧ (b1 < lo1 ∨ hi1 ≤ b1) ∧ b1 < w'.heap.size ∧ Blk w' b y ∧ Fr lo hi w' (stepA x op).1.dat y ∧ Blk w' b1 y1 ∧ Fr lo1 hi1 w' (stepA x op).2.dat y1 ∧ Ext w206 w') ?_ ?_
 ·
  have er : Ext w206 w206 := Only.refl _ _
  have zr0 : w206.heap.size ≤ w206.heap.size := Nat.le_refl _
  have zkw_heap_size : w.heap.size < w206.heap.size := by have := hbw1.lt; omega
  have zkw1_heap_size : w1.heap.size < w206.heap.size := by have := hbw2.lt; omega
  have zw0 : w.heap.size ≤ w206.heap.size := by omega
  try clear nw1
  try clear zw1
  try clear nw2
  try clear zw2
  try clear hrw8
  try clear zw8
  try clear hpw8
  try clear hrw19
  try clear zw19
  try clear hpw19
  try clear zw19_drew
  try clear zw1432
  try clear zw1662
  try clear zw1798
  try clear nw1835
  try clear zw1835
  try clear nw1848
  try clear zw1848
  try clear nw1861
  try clear nw1862
  try clear nw1807
  try clear zw1807
  try clear nw1820
  try clear zw1820
  try clear nw1833
  try clear nw1834
  try clear nw1734
  try clear zw1734
  try clear zw1773
  try clear nw1782
  try clear zw1782
  try clear nw1795
  try clear nw1796
  try clear nw1747
  try clear zw1747
  try clear zw1761
  try clear nw1770
  try clear nw1771
  try clear nw1671
  try clear zw1671
  try clear zw1710
  try clear nw1719
  try clear zw1719
  try clear nw1732
  try clear nw1733
  try clear nw1684
  try clear zw1684
  try clear zw1698
  try clear nw1707
  try clear nw1708
  try clear nw1553
  try clear zw1553
  try clear zw1602
  try clear zw1637
  try clear nw1646
  try clear zw1646
  try clear nw1659
  try clear nw1660
  try clear nw1611
  try clear zw1611
  try clear zw1625
  try clear nw1634
  try clear nw1635
  try clear nw1566
  try clear zw1566
  try clear zw1580
  try clear zw1590
  try clear nw1599
  try clear nw1600
  try clear nw1445
  try clear zw1445
  try clear zw1494
  try clear zw1529
  try clear nw1538
  try clear zw1538
  try clear nw1551
  try clear nw1552
  try clear nw1503
  try clear zw1503
  try clear zw1517
  try clear nw1526
  try clear nw1527
  try clear nw1458
  try clear zw1458
  try clear zw1472
  try clear zw1482
  try clear nw1491
  try clear nw1492
  try clear nw1260
  try clear zw1260
  try clear zw1323
  try clear zw1372
  try clear zw1407
  try clear nw1416
  try clear zw1416
  try clear nw1429
  try clear nw1430
  try clear nw1381
  try clear zw1381
  try clear zw1395
  try clear nw1404
  try clear nw1405
  try clear nw1336
  try clear zw1336
  try clear zw1350
  try clear zw1360
  try clear nw1369
  try clear nw1370
  try clear nw1273
  try clear zw1273
  try clear zw1287
  try clear zw1301
  try clear zw1311
  try clear nw1320
  try clear nw1321
  try clear nw1089
  try clear zw1089
  try clear zw1152
  try clear zw1201
  try clear zw1236
  try clear nw1245
  try clear zw1245
  try clear nw1258
  try clear nw1259
  try clear nw1210
  try clear zw1210
  try clear zw1224
  try clear nw1233
  try clear nw1234
  try clear nw1165
  try clear zw1165
  try clear zw1179
  try clear zw1189
  try clear nw1198
  try clear nw1199
  try clear nw1102
  try clear zw1102
  try clear zw1116
  try clear zw1130
  try clear zw1140
  try clear nw1149
  try clear nw1150
  try clear hxw24
  try clear hlow24
  try clear hhiw24
  try clear hdsw24
  try clear hblw24
  try clear hx1_w24
  try clear hlo1_w24
  try clear hhi1_w24
  try clear hds1_w24
  try clear hbl1_w24
  try clear zw24
  try clear zw30
  try clear nw35
  try clear zw35
  try clear nw36
  try clear zw46
  try clear nw55
  try clear zw55
  try clear nw56
  try clear zw70
  try clear nw79
  try clear zw79
  try clear nw80
  try clear zw80
  try clear nw81
  try clear nw82
  try clear zw93
  try clear zw1075
  try clear zw1075_drew
  try clear zw107
  try clear zw117
  try clear zw117_drew
  try clear zw136
  try clear zw154
  try clear ndw161
  try clear cnw161
  try clear zw161
  try clear ndw172
  try clear cnw172
  try clear zw172
  try clear zw1063
  try clear zw1051
  try clear ndw185
  try clear cnw185
  try clear zw185
  try clear ndw192
  try clear cnw192
  try clear zw192
  try clear zw199
  try clear zw206
  have ed := ext_drew w206
  have hbw1 := hbw1.ext ed
  have hbw2 := hbw2.ext ed
  have er := Only.trans er ed
  have zw206_drew := ed.size
  refine ⟨_, hbw1.cell 0, ?_⟩
  refine ⟨p0_1, hbw1.cell 1, ?_⟩
  refine ⟨p0_2, hbw1.cell 2, ?_⟩
  refine ⟨p0_3, hbw1.cell 3, ?_⟩
  refine ⟨_, hbw2.cell 0, ?_⟩
  refine ⟨_, hbw2.cell 1, ?_⟩
  refine ⟨_, hbw2.cell 2, ?_⟩
  refine ⟨_, hbw2.cell 3, ?_⟩
  refine ⟨_, hbw2.cell 4, ?_⟩
  refine ⟨_, hbw2.cell 5, ?_⟩
  refine ⟨_, hbw2.cell 6, ?_⟩
  refine ⟨p1_7, hbw2.cell 7, ?_⟩
  refine ⟨?_, ?_⟩
  ·
   refine (c11 (DIpc.has _) (IsD.ext (Only.trans e er) _ _ h0) (by have := sz0; omega)).mono ?_
   rintro _ w610 ⟨yw610, rfl, fw610, ew610⟩
   have hbw1 := hbw1.ext ew610
   have hbw2 := hbw2.ext ew610
   have er := Only.trans er ew610
   have zw610 := ew610.size
   have hiyw610 := fw610.is
   obtain ⟨ryw610_1, ryw610_2, ryw610_3, rfl, _, _, _, _⟩ := cells_Ipc hiyw610
   refine ⟨_, ryw610_1, ryw610_2, ryw610_3, rfl, ?_⟩
   refine ⟨fa8_0 hbw2, ?_⟩
   refine ⟨?_, ?_⟩
   ·
    refine (c39 (DIpcOp.has _) (IsD.ext (Only.trans e er) _ _ h1) (by have := sz1; omega)).mono ?_
    rintro _ w840 ⟨yw840, rfl, fw840, ew840⟩
    have hbw1 := hbw1.ext ew840
    have hbw2 := hbw2.ext ew840
    have fw610 := fw610.ext ew840
    have er := Only.trans er ew840
    have zw840 := ew840.size
    have hiyw840 := fw840.is
    obtain ⟨ryw840_7, rfl, _, _, _, _, _, _, _, _⟩ := cells_IpcOp hiyw840
    refine ⟨_, _, _, _, _, _, _, ryw840_7, rfl, ?_⟩
    refine ⟨?_, ?_⟩
    ·
     refine (implIpcStep fw610.is sz0 fw840.is sz1).mono ?_
     rintro _ w976 ⟨yw976_0, yw976_1, bsw976_0, bsw976_1, rfl, fw976_0, fw976_1, djw976, ew976⟩
     have hbw1 := hbw1.ext ew976
     have hbw2 := hbw2.ext ew976
     have er := Only.trans er ew976
     have zw976 := ew976.size
     have hiyw976_0 := fw976_0.is
     obtain ⟨ryw976_0_1, ryw976_0_2, ryw976_0_3, rfl, _, _, _, _⟩ := cells_Ipc hiyw976_0
     have hiyw976_1 := fw976_1.is
     obtain ⟨ryw976_1_2, rfl, _, _, _, _⟩ := cells_IpcRes hiyw976_1
     refine ⟨_, ryw976_0_1, ryw976_0_2, ryw976_0_3, _, _, ryw976_1_2, _, rfl, ?_⟩
     refine ⟨?_, ?_⟩
     ·
      refine alloc_step (fun w1013 ew1013 hbw1013 nw1013 => ?_)
      have hbw1 := hbw1.ext ew1013
      have hbw2 := hbw2.ext ew1013
      have fw976_0 := fw976_0.ext ew1013
      have fw976_1 := fw976_1.ext ew1013
      have er := Only.trans er ew1013
      have zw1013 := ew1013.size
      refine ⟨fa8_0 hbw2, ?_⟩
      refine ⟨fa8_1 hbw1, ?_⟩
      refine ⟨?_, trivial⟩
      refine alloc_step (fun w1026 ew1026 hbw1026 nw1026 => ?_)
      have hbw1 := hbw1.ext ew1026
      have hbw2 := hbw2.ext ew1026
      have hbw1013 := hbw1013.ext ew1026
      have fw976_0 := fw976_0.ext ew1026
      have fw976_1 := fw976_1.ext ew1026
      have er := Only.trans er ew1026
      have zw1026 := ew1026.size
      refine ⟨fa8_0 hbw2, ?_⟩
      refine ⟨fa8_1 hbw1, ?_⟩
      refine ⟨?_, trivial⟩
      refine put_step hbw1013 rfl rfl (fun w1039 ow1039 hbw1013q nw1039 => ?_)
      have hbw1026 := hbw1026.only ow1039 (by omega)
      have fw976_0 := fw976_0.only ow1039 (fun k h1 h2 => by omega)
      have fw976_1 := fw976_1.only ow1039 (fun k h1 h2 => by omega)
      have er := Ext.own er ow1039 (fun k hk => by omega)
      have hbw1013 := hbw1013q
      refine ⟨?_, trivial⟩
      refine put_step hbw1026 rfl rfl (fun w1040 ow1040 hbw1026q nw1040 => ?_)
      have hbw1013 := hbw1013.only ow1040 (by omega)
      have fw976_0 := fw976_0.only ow1040 (fun k h1 h2 => by omega)
      have fw976_1 := fw976_1.only ow1040 (fun k h1 h2 => by omega)
      have er := Ext.own er ow1040 (fun k hk => by omega)
      have hbw1026 := hbw1026q
      have hbl := hbw1013.lt
      have hbl1 := hbw1026.lt
      exact ⟨_, _, _, _, _, _, _, _, rfl, rfl, by omega, by omega, by omega, by omega, hbl, by omega, by omega, by omega, by omega, hbl1, hbw1013, fw976_0.fr, hbw1026, fw976_1.fr, er⟩
     refine ⟨?_, trivial⟩
     refine alloc_step (fun w985 ew985 hbw985 nw985 => ?_)
     have hbw1 := hbw1.ext ew985
     have hbw2 := hbw2.ext ew985
     have fw976_0 := fw976_0.ext ew985
     have fw976_1 := fw976_1.ext ew985
     have er := Only.trans er ew985
     have zw985 := ew985.size
     refine ⟨fa8_0 hbw2, ?_⟩
     refine ⟨fa8_1 hbw1, ?_⟩
     refine ⟨?_, trivial⟩
     refine alloc_step (fun w998 ew998 hbw998 nw998 => ?_)
     have hbw1 := hbw1.ext ew998
     have hbw2 := hbw2.ext ew998
     have hbw985 := hbw985.ext ew998
     have fw976_0 := fw976_0.ext ew998
     have fw976_1 := fw976_1.ext ew998
     have er := Only.trans er ew998
     have zw998 := ew998.size
     refine ⟨fa8_0 hbw2, ?_⟩
     refine ⟨fa8_1 hbw1, ?_⟩
     refine ⟨?_, trivial⟩
     refine put_step hbw998 rfl rfl (fun w1011 ow1011 hbw998q nw1011 => ?_)
     have hbw985 := hbw985.only ow1011 (by omega)
     have fw976_0 := fw976_0.only ow1011 (fun k h1 h2 => by omega)
     have fw976_1 := fw976_1.only ow1011 (fun k h1 h2 => by omega)
     have er := Ext.own er ow1011 (fun k hk => by omega)
     have hbw998 := hbw998q
     refine ⟨?_, trivial⟩
     refine put_step hbw985 rfl rfl (fun w1012 ow1012 hbw985q nw1012 => ?_)
     have hbw998 := hbw998.only ow1012 (by omega)
     have fw976_0 := fw976_0.only ow1012 (fun k h1 h2 => by omega)
     have fw976_1 := fw976_1.only ow1012 (fun k h1 h2 => by omega)
     have er := Ext.own er ow1012 (fun k hk => by omega)
     have hbw985 := hbw985q
     have hbl := hbw998.lt
     have hbl1 := hbw985.lt
     exact ⟨_, _, _, _, _, _, _, _, rfl, rfl, by omega, by omega, by omega, by omega, hbl, by omega, by omega, by omega, by omega, hbl1, hbw998, fw976_0.fr, hbw985, fw976_1.fr, er⟩
    refine ⟨?_, ?_⟩
    ·
     refine alloc_step (fun w912 ew912 hbw912 nw912 => ?_)
     have hbw1 := hbw1.ext ew912
     have hbw2 := hbw2.ext ew912
     have fw610 := fw610.ext ew912
     have fw840 := fw840.ext ew912
     have er := Only.trans er ew912
     have zw912 := ew912.size
     refine ⟨fa8_0 hbw2, ?_⟩
     refine ⟨fa8_1 hbw1, ?_⟩
     refine ⟨?_, ?_⟩
     ·
      refine (implIpcStep fw610.is sz0 fw840.is sz1).mono ?_
      rintro _ w951 ⟨yw951_0, yw951_1, bsw951_0, bsw951_1, rfl, fw951_0, fw951_1, djw951, ew951⟩
      have hbw1 := hbw1.ext ew951
      have hbw2 := hbw2.ext ew951
      have hbw912 := hbw912.ext ew951
      have er := Only.trans er ew951
      have zw951 := ew951.size
      have hiyw951_0 := fw951_0.is
      obtain ⟨ryw951_0_1, ryw951_0_2, ryw951_0_3, rfl, _, _, _, _⟩ := cells_Ipc hiyw951_0
      have hiyw951_1 := fw951_1.is
      obtain ⟨ryw951_1_2, rfl, _, _, _, _⟩ := cells_IpcRes hiyw951_1
      refine ⟨_, ryw951_0_1, ryw951_0_2, ryw951_0_3, _, _, ryw951_1_2, _, rfl, ?_⟩
      refine ⟨?_, trivial⟩
      refine alloc_step (fun w960 ew960 hbw960 nw960 => ?_)
      have hbw1 := hbw1.ext ew960
      have hbw2 := hbw2.ext ew960
      have hbw912 := hbw912.ext ew960
      have fw951_0 := fw951_0.ext ew960
      have fw951_1 := fw951_1.ext ew960
      have er := Only.trans er ew960
      have zw960 := ew960.size
      refine ⟨fa8_0 hbw2, ?_⟩
      refine ⟨fa8_1 hbw1, ?_⟩
      refine ⟨?_, trivial⟩
      refine put_step hbw912 rfl rfl (fun w973 ow973 hbw912q nw973 => ?_)
      have hbw960 := hbw960.only ow973 (by omega)
      have fw951_0 := fw951_0.only ow973 (fun k h1 h2 => by omega)
      have fw951_1 := fw951_1.only ow973 (fun k h1 h2 => by omega)
      have er := Ext.own er ow973 (fun k hk => by omega)
      have hbw912 := hbw912q
      refine ⟨?_, trivial⟩
      refine put_step hbw960 rfl rfl (fun w974 ow974 hbw960q nw974 => ?_)
      have hbw912 := hbw912.only ow974 (by omega)
      have fw951_0 := fw951_0.only ow974 (fun k h1 h2 => by omega)
      have fw951_1 := fw951_1.only ow974 (fun k h1 h2 => by omega)
      have er := Ext.own er ow974 (fun k hk => by omega)
      have hbw960 := hbw960q
      have hbl := hbw912.lt
      have hbl1 := hbw960.lt
      exact ⟨_, _, _, _, _, _, _, _, rfl, rfl, by omega, by omega, by omega, by omega, hbl, by omega, by omega, by omega, by omega, hbl1, hbw912, fw951_0.fr, hbw960, fw951_1.fr, er⟩
     refine ⟨?_, trivial⟩
     refine alloc_step (fun w925 ew925 hbw925 nw925 => ?_)
     have hbw1 := hbw1.ext ew925
     have hbw2 := hbw2.ext ew925
     have hbw912 := hbw912.ext ew925
     have fw610 := fw610.ext ew925
     have fw840 := fw840.ext ew925
     have er := Only.trans er ew925
     have zw925 := ew925.size
     refine ⟨fa8_0 hbw2, ?_⟩
     refine ⟨fa8_1 hbw1, ?_⟩
     refine ⟨?_, trivial⟩
     refine (implIpcStep fw610.is sz0 fw840.is sz1).mono ?_
     rintro _ w939 ⟨yw939_0, yw939_1, bsw939_0, bsw939_1, rfl, fw939_0, fw939_1, djw939, ew939⟩
     have hbw912 := hbw912.ext ew939
     have hbw925 := hbw925.ext ew939
     have er := Only.trans er ew939
     have zw939 := ew939.size
     have hiyw939_0 := fw939_0.is
     obtain ⟨ryw939_0_1, ryw939_0_2, ryw939_0_3, rfl, _, _, _, _⟩ := cells_Ipc hiyw939_0
     have hiyw939_1 := fw939_1.is
     obtain ⟨ryw939_1_2, rfl, _, _, _, _⟩ := cells_IpcRes hiyw939_1
     refine ⟨_, ryw939_0_1, ryw939_0_2, ryw939_0_3, _, _, ryw939_1_2, _, rfl, ?_⟩
     refine ⟨?_, trivial⟩
     refine put_step hbw912 rfl rfl (fun w948 ow948 hbw912q nw948 => ?_)
     have hbw925 := hbw925.only ow948 (by omega)
     have fw939_0 := fw939_0.only ow948 (fun k h1 h2 => by omega)
     have fw939_1 := fw939_1.only ow948 (fun k h1 h2 => by omega)
     have er := Ext.own er ow948 (fun k hk => by omega)
     have hbw912 := hbw912q
     refine ⟨?_, trivial⟩
     refine put_step hbw925 rfl rfl (fun w949 ow949 hbw925q nw949 => ?_)
     have hbw912 := hbw912.only ow949 (by omega)
     have fw939_0 := fw939_0.only ow949 (fun k h1 h2 => by omega)
     have fw939_1 := fw939_1.only ow949 (fun k h1 h2 => by omega)
     have er := Ext.own er ow949 (fun k hk => by omega)
     have hbw925 := hbw925q
     have hbl := hbw912.lt
     have hbl1 := hbw925.lt
     exact ⟨_, _, _, _, _, _, _, _, rfl, rfl, by omega, by omega, by omega, by omega, hbl, by omega, by omega, by omega, by omega, hbl1, hbw912, fw939_0.fr, hbw925, fw939_1.fr, er⟩
    refine ⟨?_, trivial⟩
    refine alloc_step (fun w849 ew849 hbw849 nw849 => ?_)
    have hbw1 := hbw1.ext ew849
    have hbw2 := hbw2.ext ew849
    have fw610 := fw610.ext ew849
    have fw840 := fw840.ext ew849
    have er := Only.trans er ew849
    have zw849 := ew849.size
    refine ⟨fa8_0 hbw2, ?_⟩
    refine ⟨fa8_1 hbw1, ?_⟩
    refine ⟨?_, ?_⟩
    ·
     refine (implIpcStep fw610.is sz0 fw840.is sz1).mono ?_
     rintro _ w888 ⟨yw888_0, yw888_1, bsw888_0, bsw888_1, rfl, fw888_0, fw888_1, djw888, ew888⟩
     have hbw1 := hbw1.ext ew888
     have hbw2 := hbw2.ext ew888
     have hbw849 := hbw849.ext ew888
     have er := Only.trans er ew888
     have zw888 := ew888.size
     have hiyw888_0 := fw888_0.is
     obtain ⟨ryw888_0_1, ryw888_0_2, ryw888_0_3, rfl, _, _, _, _⟩ := cells_Ipc hiyw888_0
     have hiyw888_1 := fw888_1.is
     obtain ⟨ryw888_1_2, rfl, _, _, _, _⟩ := cells_IpcRes hiyw888_1
     refine ⟨_, ryw888_0_1, ryw888_0_2, ryw888_0_3, _, _, ryw888_1_2, _, rfl, ?_⟩
     refine ⟨?_, trivial⟩
     refine alloc_step (fun w897 ew897 hbw897 nw897 => ?_)
     have hbw1 := hbw1.ext ew897
     have hbw2 := hbw2.ext ew897
     have hbw849 := hbw849.ext ew897
     have fw888_0 := fw888_0.ext ew897
     have fw888_1 := fw888_1.ext ew897
     have er := Only.trans er ew897
     have zw897 := ew897.size
     refine ⟨fa8_0 hbw2, ?_⟩
     refine ⟨fa8_1 hbw1, ?_⟩
     refine ⟨?_, trivial⟩
     refine put_step hbw897 rfl rfl (fun w910 ow910 hbw897q nw910 => ?_)
     have hbw849 := hbw849.only ow910 (by omega)
     have fw888_0 := fw888_0.only ow910 (fun k h1 h2 => by omega)
     have fw888_1 := fw888_1.only ow910 (fun k h1 h2 => by omega)
     have er := Ext.own er ow910 (fun k hk => by omega)
     have hbw897 := hbw897q
     refine ⟨?_, trivial⟩
     refine put_step hbw849 rfl rfl (fun w911 ow911 hbw849q nw911 => ?_)
     have hbw897 := hbw897.only ow911 (by omega)
     have fw888_0 := fw888_0.only ow911 (fun k h1 h2 => by omega)
     have fw888_1 := fw888_1.only ow911 (fun k h1 h2 => by omega)
     have er := Ext.own er ow911 (fun k hk => by omega)
     have hbw849 := hbw849q
     have hbl := hbw897.lt
     have hbl1 := hbw849.lt
     exact ⟨_, _, _, _, _, _, _, _, rfl, rfl, by omega, by omega, by omega, by omega, hbl, by omega, by omega, by omega, by omega, hbl1, hbw897, fw888_0.fr, hbw849, fw888_1.fr, er⟩
    refine ⟨?_, trivial⟩
    refine alloc_step (fun w862 ew862 hbw862 nw862 => ?_)
    have hbw1 := hbw1.ext ew862
    have hbw2 := hbw2.ext ew862
    have hbw849 := hbw849.ext ew862
    have fw610 := fw610.ext ew862
    have fw840 := fw840.ext ew862
    have er := Only.trans er ew862
    have zw862 := ew862.size
    refine ⟨fa8_0 hbw2, ?_⟩
    refine ⟨fa8_1 hbw1, ?_⟩
    refine ⟨?_, trivial⟩
    refine (implIpcStep fw610.is sz0 fw840.is sz1).mono ?_
    rintro _ w876 ⟨yw876_0, yw876_1, bsw876_0, bsw876_1, rfl, fw876_0, fw876_1, djw876, ew876⟩
    have hbw849 := hbw849.ext ew876
    have hbw862 := hbw862.ext ew876
    have er := Only.trans er ew876
    have zw876 := ew876.size
    have hiyw876_0 := fw876_0.is
    obtain ⟨ryw876_0_1, ryw876_0_2, ryw876_0_3, rfl, _, _, _, _⟩ := cells_Ipc hiyw876_0
    have hiyw876_1 := fw876_1.is
    obtain ⟨ryw876_1_2, rfl, _, _, _, _⟩ := cells_IpcRes hiyw876_1
    refine ⟨_, ryw876_0_1, ryw876_0_2, ryw876_0_3, _, _, ryw876_1_2, _, rfl, ?_⟩
    refine ⟨?_, trivial⟩
    refine put_step hbw862 rfl rfl (fun w885 ow885 hbw862q nw885 => ?_)
    have hbw849 := hbw849.only ow885 (by omega)
    have fw876_0 := fw876_0.only ow885 (fun k h1 h2 => by omega)
    have fw876_1 := fw876_1.only ow885 (fun k h1 h2 => by omega)
    have er := Ext.own er ow885 (fun k hk => by omega)
    have hbw862 := hbw862q
    refine ⟨?_, trivial⟩
    refine put_step hbw849 rfl rfl (fun w886 ow886 hbw849q nw886 => ?_)
    have hbw862 := hbw862.only ow886 (by omega)
    have fw876_0 := fw876_0.only ow886 (fun k h1 h2 => by omega)
    have fw876_1 := fw876_1.only ow886 (fun k h1 h2 => by omega)
    have er := Ext.own er ow886 (fun k hk => by omega)
    have hbw849 := hbw849q
    have hbl := hbw862.lt
    have hbl1 := hbw849.lt
    exact ⟨_, _, _, _, _, _, _, _, rfl, rfl, by omega, by omega, by omega, by omega, hbl, by omega, by omega, by omega, by omega, hbl1, hbw862, fw876_0.fr, hbw849, fw876_1.fr, er⟩
   refine ⟨?_, ?_⟩
   ·
    refine alloc_step (fun w731 ew731 hbw731 nw731 => ?_)
    have hbw1 := hbw1.ext ew731
    have hbw2 := hbw2.ext ew731
    have fw610 := fw610.ext ew731
    have er := Only.trans er ew731
    have zw731 := ew731.size
    refine ⟨fa8_0 hbw2, ?_⟩
    refine ⟨fa8_1 hbw1, ?_⟩
    refine ⟨?_, ?_⟩
    ·
     refine (c39 (DIpcOp.has _) (IsD.ext (Only.trans e er) _ _ h1) (by have := sz1; omega)).mono ?_
     rintro _ w780 ⟨yw780, rfl, fw780, ew780⟩
     have hbw1 := hbw1.ext ew780
     have hbw2 := hbw2.ext ew780
     have hbw731 := hbw731.ext ew780
     have fw610 := fw610.ext ew780
     have er := Only.trans er ew780
     have zw780 := ew780.size
     have hiyw780 := fw780.is
     obtain ⟨ryw780_7, rfl, _, _, _, _, _, _, _, _⟩ := cells_IpcOp hiyw780
     refine ⟨_, _, _, _, _, _, _, ryw780_7, rfl, ?_⟩
     refine ⟨?_, ?_⟩
     ·
      refine (implIpcStep fw610.is sz0 fw780.is sz1).mono ?_
      rintro _ w815 ⟨yw815_0, yw815_1, bsw815_0, bsw815_1, rfl, fw815_0, fw815_1, djw815, ew815⟩
      have hbw1 := hbw1.ext ew815
      have hbw2 := hbw2.ext ew815
      have hbw731 := hbw731.ext ew815
      have er := Only.trans er ew815
      have zw815 := ew815.size
      have hiyw815_0 := fw815_0.is
      obtain ⟨ryw815_0_1, ryw815_0_2, ryw815_0_3, rfl, _, _, _, _⟩ := cells_Ipc hiyw815_0
      have hiyw815_1 := fw815_1.is
      obtain ⟨ryw815_1_2, rfl, _, _, _, _⟩ := cells_IpcRes hiyw815_1
      refine ⟨_, ryw815_0_1, ryw815_0_2, ryw815_0_3, _, _, ryw815_1_2, _, rfl, ?_⟩
      refine ⟨?_, trivial⟩
      refine alloc_step (fun w824 ew824 hbw824 nw824 => ?_)
      have hbw1 := hbw1.ext ew824
      have hbw2 := hbw2.ext ew824
      have hbw731 := hbw731.ext ew824
      have fw815_0 := fw815_0.ext ew824
      have fw815_1 := fw815_1.ext ew824
      have er := Only.trans er ew824
      have zw824 := ew824.size
      refine ⟨fa8_0 hbw2, ?_⟩
      refine ⟨fa8_1 hbw1, ?_⟩
      refine ⟨?_, trivial⟩
      refine put_step hbw731 rfl rfl (fun w837 ow837 hbw731q nw837 => ?_)
      have hbw824 := hbw824.only ow837 (by omega)
      have fw815_0 := fw815_0.only ow837 (fun k h1 h2 => by omega)
      have fw815_1 := fw815_1.only ow837 (fun k h1 h2 => by omega)
      have er := Ext.own er ow837 (fun k hk => by omega)
      have hbw731 := hbw731q
      refine ⟨?_, trivial⟩
      refine put_step hbw824 rfl rfl (fun w838 ow838 hbw824q nw838 => ?_)
      have hbw731 := hbw731.only ow838 (by omega)
      have fw815_0 := fw815_0.only ow838 (fun k h1 h2 => by omega)
      have fw815_1 := fw815_1.only ow838 (fun k h1 h2 => by omega)
      have er := Ext.own er ow838 (fun k hk => by omega)
      have hbw824 := hbw824q
      have hbl := hbw731.lt
      have hbl1 := hbw824.lt
      exact ⟨_, _, _, _, _, _, _, _, rfl, rfl, by omega, by omega, by omega, by omega, hbl, by omega, by omega, by omega, by omega, hbl1, hbw731, fw815_0.fr, hbw824, fw815_1.fr, er⟩
     refine ⟨?_, trivial⟩
     refine alloc_step (fun w789 ew789 hbw789 nw789 => ?_)
     have hbw1 := hbw1.ext ew789
     have hbw2 := hbw2.ext ew789
     have hbw731 := hbw731.ext ew789
     have fw610 := fw610.ext ew789
     have fw780 := fw780.ext ew789
     have er := Only.trans er ew789
     have zw789 := ew789.size
     refine ⟨fa8_0 hbw2, ?_⟩
     refine ⟨fa8_1 hbw1, ?_⟩
     refine ⟨?_, trivial⟩
     refine (implIpcStep fw610.is sz0 fw780.is sz1).mono ?_
     rintro _ w803 ⟨yw803_0, yw803_1, bsw803_0, bsw803_1, rfl, fw803_0, fw803_1, djw803, ew803⟩
     have hbw731 := hbw731.ext ew803
     have hbw789 := hbw789.ext ew803
     have er := Only.trans er ew803
     have zw803 := ew803.size
     have hiyw803_0 := fw803_0.is
     obtain ⟨ryw803_0_1, ryw803_0_2, ryw803_0_3, rfl, _, _, _, _⟩ := cells_Ipc hiyw803_0
     have hiyw803_1 := fw803_1.is
     obtain ⟨ryw803_1_2, rfl, _, _, _, _⟩ := cells_IpcRes hiyw803_1
     refine ⟨_, ryw803_0_1, ryw803_0_2, ryw803_0_3, _, _, ryw803_1_2, _, rfl, ?_⟩
     refine ⟨?_, trivial⟩
     refine put_step hbw731 rfl rfl (fun w812 ow812 hbw731q nw812 => ?_)
     have hbw789 := hbw789.only ow812 (by omega)
     have fw803_0 := fw803_0.only ow812 (fun k h1 h2 => by omega)
     have fw803_1 := fw803_1.only ow812 (fun k h1 h2 => by omega)
     have er := Ext.own er ow812 (fun k hk => by omega)
     have hbw731 := hbw731q
     refine ⟨?_, trivial⟩
     refine put_step hbw789 rfl rfl (fun w813 ow813 hbw789q nw813 => ?_)
     have hbw731 := hbw731.only ow813 (by omega)
     have fw803_0 := fw803_0.only ow813 (fun k h1 h2 => by omega)
     have fw803_1 := fw803_1.only ow813 (fun k h1 h2 => by omega)
     have er := Ext.own er ow813 (fun k hk => by omega)
     have hbw789 := hbw789q
     have hbl := hbw731.lt
     have hbl1 := hbw789.lt
     exact ⟨_, _, _, _, _, _, _, _, rfl, rfl, by omega, by omega, by omega, by omega, hbl, by omega, by omega, by omega, by omega, hbl1, hbw731, fw803_0.fr, hbw789, fw803_1.fr, er⟩
    refine ⟨?_, trivial⟩
    refine alloc_step (fun w744 ew744 hbw744 nw744 => ?_)
    have hbw1 := hbw1.ext ew744
    have hbw2 := hbw2.ext ew744
    have hbw731 := hbw731.ext ew744
    have fw610 := fw610.ext ew744
    have er := Only.trans er ew744
    have zw744 := ew744.size
    refine ⟨fa8_0 hbw2, ?_⟩
    refine ⟨fa8_1 hbw1, ?_⟩
    refine ⟨?_, trivial⟩
    refine (c39 (DIpcOp.has _) (IsD.ext (Only.trans e er) _ _ h1) (by have := sz1; omega)).mono ?_
    rintro _ w758 ⟨yw758, rfl, fw758, ew758⟩
    have hbw731 := hbw731.ext ew758
    have hbw744 := hbw744.ext ew758
    have fw610 := fw610.ext ew758
    have er := Only.trans er ew758
    have zw758 := ew758.size
    have hiyw758 := fw758.is
    obtain ⟨ryw758_7, rfl, _, _, _, _, _, _, _, _⟩ := cells_IpcOp hiyw758
    refine ⟨_, _, _, _, _, _, _, ryw758_7, rfl, ?_⟩
    refine ⟨?_, trivial⟩
    refine (implIpcStep fw610.is sz0 fw758.is sz1).mono ?_
    rintro _ w768 ⟨yw768_0, yw768_1, bsw768_0, bsw768_1, rfl, fw768_0, fw768_1, djw768, ew768⟩
    have hbw731 := hbw731.ext ew768
    have hbw744 := hbw744.ext ew768
    have er := Only.trans er ew768
    have zw768 := ew768.size
    have hiyw768_0 := fw768_0.is
    obtain ⟨ryw768_0_1, ryw768_0_2, ryw768_0_3, rfl, _, _, _, _⟩ := cells_Ipc hiyw768_0
    have hiyw768_1 := fw768_1.is
    obtain ⟨ryw768_1_2, rfl, _, _, _, _⟩ := cells_IpcRes hiyw768_1
    refine ⟨_, ryw768_0_1, ryw768_0_2, ryw768_0_3, _, _, ryw768_1_2, _, rfl, ?_⟩
    refine ⟨?_, trivial⟩
    refine put_step hbw731 rfl rfl (fun w777 ow777 hbw731q nw777 => ?_)
    have hbw744 := hbw744.only ow777 (by omega)
    have fw768_0 := fw768_0.only ow777 (fun k h1 h2 => by omega)
    have fw768_1 := fw768_1.only ow777 (fun k h1 h2 => by omega)
    have er := Ext.own er ow777 (fun k hk => by omega)
    have hbw731 := hbw731q
    refine ⟨?_, trivial⟩
    refine put_step hbw744 rfl rfl (fun w778 ow778 hbw744q nw778 => ?_)
    have hbw731 := hbw731.only ow778 (by omega)
    have fw768_0 := fw768_0.only ow778 (fun k h1 h2 => by omega)
    have fw768_1 := fw768_1.only ow778 (fun k h1 h2 => by omega)
    have er := Ext.own er ow778 (fun k hk => by omega)
    have hbw744 := hbw744q
    have hbl := hbw731.lt
    have hbl1 := hbw744.lt
    exact ⟨_, _, _, _, _, _, _, _, rfl, rfl, by omega, by omega, by omega, by omega, hbl, by omega, by omega, by omega, by omega, hbl1, hbw731, fw768_0.fr, hbw744, fw768_1.fr, er⟩
   refine ⟨?_, trivial⟩
   refine alloc_step (fun w623 ew623 hbw623 nw623 => ?_)
   have hbw1 := hbw1.ext ew623
   have hbw2 := hbw2.ext ew623
   have fw610 := fw610.ext ew623
   have er := Only.trans er ew623
   have zw623 := ew623.size
   refine ⟨fa8_0 hbw2, ?_⟩
   refine ⟨fa8_1 hbw1, ?_⟩
   refine ⟨?_, ?_⟩
   ·
    refine (c39 (DIpcOp.has _) (IsD.ext (Only.trans e er) _ _ h1) (by have := sz1; omega)).mono ?_
    rintro _ w672 ⟨yw672, rfl, fw672, ew672⟩
    have hbw1 := hbw1.ext ew672
    have hbw2 := hbw2.ext ew672
    have hbw623 := hbw623.ext ew672
    have fw610 := fw610.ext ew672
    have er := Only.trans er ew672
    have zw672 := ew672.size
    have hiyw672 := fw672.is
    obtain ⟨ryw672_7, rfl, _, _, _, _, _, _, _, _⟩ := cells_IpcOp hiyw672
    refine ⟨_, _, _, _, _, _, _, ryw672_7, rfl, ?_⟩
    refine ⟨?_, ?_⟩
    ·
     refine (implIpcStep fw610.is sz0 fw672.is sz1).mono ?_
     rintro _ w707 ⟨yw707_0, yw707_1, bsw707_0, bsw707_1, rfl, fw707_0, fw707_1, djw707, ew707⟩
     have hbw1 := hbw1.ext ew707
     have hbw2 := hbw2.ext ew707
     have hbw623 := hbw623.ext ew707
     have er := Only.trans er ew707
     have zw707 := ew707.size
     have hiyw707_0 := fw707_0.is
     obtain ⟨ryw707_0_1, ryw707_0_2, ryw707_0_3, rfl, _, _, _, _⟩ := cells_Ipc hiyw707_0
     have hiyw707_1 := fw707_1.is
     obtain ⟨ryw707_1_2, rfl, _, _, _, _⟩ := cells_IpcRes hiyw707_1
     refine ⟨_, ryw707_0_1, ryw707_0_2, ryw707_0_3, _, _, ryw707_1_2, _, rfl, ?_⟩
     refine ⟨?_, trivial⟩
     refine alloc_step (fun w716 ew716 hbw716 nw716 => ?_)
     have hbw1 := hbw1.ext ew716
     have hbw2 := hbw2.ext ew716
     have hbw623 := hbw623.ext ew716
     have fw707_0 := fw707_0.ext ew716
     have fw707_1 := fw707_1.ext ew716
     have er := Only.trans er ew716
     have zw716 := ew716.size
     refine ⟨fa8_0 hbw2, ?_⟩
     refine ⟨fa8_1 hbw1, ?_⟩
     refine ⟨?_, trivial⟩
     refine put_step hbw716 rfl rfl (fun w729 ow729 hbw716q nw729 => ?_)
     have hbw623 := hbw623.only ow729 (by omega)
     have fw707_0 := fw707_0.only ow729 (fun k h1 h2 => by omega)
     have fw707_1 := fw707_1.only ow729 (fun k h1 h2 => by omega)
     have er := Ext.own er ow729 (fun k hk => by omega)
     have hbw716 := hbw716q
     refine ⟨?_, trivial⟩
     refine put_step hbw623 rfl rfl (fun w730 ow730 hbw623q nw730 => ?_)
     have hbw716 := hbw716.only ow730 (by omega)
     have fw707_0 := fw707_0.only ow730 (fun k h1 h2 => by omega)
     have fw707_1 := fw707_1.only ow730 (fun k h1 h2 => by omega)
     have er := Ext.own er ow730 (fun k hk => by omega)
     have hbw623 := hbw623q
     have hbl := hbw716.lt
     have hbl1 := hbw623.lt
     exact ⟨_, _, _, _, _, _, _, _, rfl, rfl, by omega, by omega, by omega, by omega, hbl, by omega, by omega, by omega, by omega, hbl1, hbw716, fw707_0.fr, hbw623, fw707_1.fr, er⟩
    refine ⟨?_, trivial⟩
    refine alloc_step (fun w681 ew681 hbw681 nw681 => ?_)
    have hbw1 := hbw1.ext ew681
    have hbw2 := hbw2.ext ew681
    have hbw623 := hbw623.ext ew681
    have fw610 := fw610.ext ew681
    have fw672 := fw672.ext ew681
    have er := Only.trans er ew681
    have zw681 := ew681.size
    refine ⟨fa8_0 hbw2, ?_⟩
    refine ⟨fa8_1 hbw1, ?_⟩
    refine ⟨?_, trivial⟩
    refine (implIpcStep fw610.is sz0 fw672.is sz1).mono ?_
    rintro _ w695 ⟨yw695_0, yw695_1, bsw695_0, bsw695_1, rfl, fw695_0, fw695_1, djw695, ew695⟩
    have hbw623 := hbw623.ext ew695
    have hbw681 := hbw681.ext ew695
    have er := Only.trans er ew695
    have zw695 := ew695.size
    have hiyw695_0 := fw695_0.is
    obtain ⟨ryw695_0_1, ryw695_0_2, ryw695_0_3, rfl, _, _, _, _⟩ := cells_Ipc hiyw695_0
    have hiyw695_1 := fw695_1.is
    obtain ⟨ryw695_1_2, rfl, _, _, _, _⟩ := cells_IpcRes hiyw695_1
    refine ⟨_, ryw695_0_1, ryw695_0_2, ryw695_0_3, _, _, ryw695_1_2, _, rfl, ?_⟩
    refine ⟨?_, trivial⟩
    refine put_step hbw681 rfl rfl (fun w704 ow704 hbw681q nw704 => ?_)
    have hbw623 := hbw623.only ow704 (by omega)
    have fw695_0 := fw695_0.only ow704 (fun k h1 h2 => by omega)
    have fw695_1 := fw695_1.only ow704 (fun k h1 h2 => by omega)
    have er := Ext.own er ow704 (fun k hk => by omega)
    have hbw681 := hbw681q
    refine ⟨?_, trivial⟩
    refine put_step hbw623 rfl rfl (fun w705 ow705 hbw623q nw705 => ?_)
    have hbw681 := hbw681.only ow705 (by omega)
    have fw695_0 := fw695_0.only ow705 (fun k h1 h2 => by omega)
    have fw695_1 := fw695_1.only ow705 (fun k h1 h2 => by omega)
    have er := Ext.own er ow705 (fun k hk => by omega)
    have hbw623 := hbw623q
    have hbl := hbw681.lt
    have hbl1 := hbw623.lt
    exact ⟨_, _, _, _, _, _, _, _, rfl, rfl, by omega, by omega, by omega, by omega, hbl, by omega, by omega, by omega, by omega, hbl1, hbw681, fw695_0.fr, hbw623, fw695_1.fr, er⟩
   refine ⟨?_, trivial⟩
   refine alloc_step (fun w636 ew636 hbw636 nw636 => ?_)
   have hbw1 := hbw1.ext ew636
   have hbw2 := hbw2.ext ew636
   have hbw623 := hbw623.ext ew636
   have fw610 := fw610.ext ew636
   have er := Only.trans er ew636
   have zw636 := ew636.size
   refine ⟨fa8_0 hbw2, ?_⟩
   refine ⟨fa8_1 hbw1, ?_⟩
   refine ⟨?_, trivial⟩
   refine (c39 (DIpcOp.has _) (IsD.ext (Only.trans e er) _ _ h1) (by have := sz1; omega)).mono ?_
   rintro _ w650 ⟨yw650, rfl, fw650, ew650⟩
   have hbw623 := hbw623.ext ew650
   have hbw636 := hbw636.ext ew650
   have fw610 := fw610.ext ew650
   have er := Only.trans er ew650
   have zw650 := ew650.size
   have hiyw650 := fw650.is
   obtain ⟨ryw650_7, rfl, _, _, _, _, _, _, _, _⟩ := cells_IpcOp hiyw650
   refine ⟨_, _, _, _, _, _, _, ryw650_7, rfl, ?_⟩
   refine ⟨?_, trivial⟩
   refine (implIpcStep fw610.is sz0 fw650.is sz1).mono ?_
   rintro _ w660 ⟨yw660_0, yw660_1, bsw660_0, bsw660_1, rfl, fw660_0, fw660_1, djw660, ew660⟩
   have hbw623 := hbw623.ext ew660
   have hbw636 := hbw636.ext ew660
   have er := Only.trans er ew660
   have zw660 := ew660.size
   have hiyw660_0 := fw660_0.is
   obtain ⟨ryw660_0_1, ryw660_0_2, ryw660_0_3, rfl, _, _, _, _⟩ := cells_Ipc hiyw660_0
   have hiyw660_1 := fw660_1.is
   obtain ⟨ryw660_1_2, rfl, _, _, _, _⟩ := cells_IpcRes hiyw660_1
   refine ⟨_, ryw660_0_1, ryw660_0_2, ryw660_0_3, _, _, ryw660_1_2, _, rfl, ?_⟩
   refine ⟨?_, trivial⟩
   refine put_step hbw636 rfl rfl (fun w669 ow669 hbw636q nw669 => ?_)
   have hbw623 := hbw623.only ow669 (by omega)
   have fw660_0 := fw660_0.only ow669 (fun k h1 h2 => by omega)
   have fw660_1 := fw660_1.only ow669 (fun k h1 h2 => by omega)
   have er := Ext.own er ow669 (fun k hk => by omega)
   have hbw636 := hbw636q
   refine ⟨?_, trivial⟩
   refine put_step hbw623 rfl rfl (fun w670 ow670 hbw623q nw670 => ?_)
   have hbw636 := hbw636.only ow670 (by omega)
   have fw660_0 := fw660_0.only ow670 (fun k h1 h2 => by omega)
   have fw660_1 := fw660_1.only ow670 (fun k h1 h2 => by omega)
   have er := Ext.own er ow670 (fun k hk => by omega)
   have hbw623 := hbw623q
   have hbl := hbw636.lt
   have hbl1 := hbw623.lt
   exact ⟨_, _, _, _, _, _, _, _, rfl, rfl, by omega, by omega, by omega, by omega, hbl, by omega, by omega, by omega, by omega, hbl1, hbw636, fw660_0.fr, hbw623, fw660_1.fr, er⟩
  refine ⟨?_, ?_⟩
  ·
   refine alloc_step (fun w438 ew438 hbw438 nw438 => ?_)
   have hbw1 := hbw1.ext ew438
   have hbw2 := hbw2.ext ew438
   have er := Only.trans er ew438
   have zw438 := ew438.size
   refine ⟨fa8_0 hbw2, ?_⟩
   refine ⟨fa8_1 hbw1, ?_⟩
   refine ⟨?_, ?_⟩
   ·
    refine (c11 (DIpc.has _) (IsD.ext (Only.trans e er) _ _ h0) (by have := sz0; omega)).mono ?_
    rintro _ w501 ⟨yw501, rfl, fw501, ew501⟩
    have hbw1 := hbw1.ext ew501
    have hbw2 := hbw2.ext ew501
    have hbw438 := hbw438.ext ew501
    have er := Only.trans er ew501
    have zw501 := ew501.size
    have hiyw501 := fw501.is
    obtain ⟨ryw501_1, ryw501_2, ryw501_3, rfl, _, _, _, _⟩ := cells_Ipc hiyw501
    refine ⟨_, ryw501_1, ryw501_2, ryw501_3, rfl, ?_⟩
    refine ⟨fa8_0 hbw2, ?_⟩
    refine ⟨?_, ?_⟩
    ·
     refine (c39 (DIpcOp.has _) (IsD.ext (Only.trans e er) _ _ h1) (by have := sz1; omega)).mono ?_
     rintro _ w550 ⟨yw550, rfl, fw550, ew550⟩
     have hbw1 := hbw1.ext ew550
     have hbw2 := hbw2.ext ew550
     have hbw438 := hbw438.ext ew550
     have fw501 := fw501.ext ew550
     have er := Only.trans er ew550
     have zw550 := ew550.size
     have hiyw550 := fw550.is
     obtain ⟨ryw550_7, rfl, _, _, _, _, _, _, _, _⟩ := cells_IpcOp hiyw550
     refine ⟨_, _, _, _, _, _, _, ryw550_7, rfl, ?_⟩
     refine ⟨?_, ?_⟩
     ·
      refine (implIpcStep fw501.is sz0 fw550.is sz1).mono ?_
      rintro _ w585 ⟨yw585_0, yw585_1, bsw585_0, bsw585_1, rfl, fw585_0, fw585_1, djw585, ew585⟩
      have hbw1 := hbw1.ext ew585
      have hbw2 := hbw2.ext ew585
      have hbw438 := hbw438.ext ew585
      have er := Only.trans er ew585
      have zw585 := ew585.size
      have hiyw585_0 := fw585_0.is
      obtain ⟨ryw585_0_1, ryw585_0_2, ryw585_0_3, rfl, _, _, _, _⟩ := cells_Ipc hiyw585_0
      have hiyw585_1 := fw585_1.is
      obtain ⟨ryw585_1_2, rfl, _, _, _, _⟩ := cells_IpcRes hiyw585_1
      refine ⟨_, ryw585_0_1, ryw585_0_2, ryw585_0_3, _, _, ryw585_1_2, _, rfl, ?_⟩
      refine ⟨?_, trivial⟩
      refine alloc_step (fun w594 ew594 hbw594 nw594 => ?_)
      have hbw1 := hbw1.ext ew594
      have hbw2 := hbw2.ext ew594
      have hbw438 := hbw438.ext ew594
      have fw585_0 := fw585_0.ext ew594
      have fw585_1 := fw585_1.ext ew594
      have er := Only.trans er ew594
      have zw594 := ew594.size
      refine ⟨fa8_0 hbw2, ?_⟩
      refine ⟨fa8_1 hbw1, ?_⟩
      refine ⟨?_, trivial⟩
      refine put_step hbw438 rfl rfl (fun w607 ow607 hbw438q nw607 => ?_)
      have hbw594 := hbw594.only ow607 (by omega)
      have fw585_0 := fw585_0.only ow607 (fun k h1 h2 => by omega)
      have fw585_1 := fw585_1.only ow607 (fun k h1 h2 => by omega)
      have er := Ext.own er ow607 (fun k hk => by omega)
      have hbw438 := hbw438q
      refine ⟨?_, trivial⟩
      refine put_step hbw594 rfl rfl (fun w608 ow608 hbw594q nw608 => ?_)
      have hbw438 := hbw438.only ow608 (by omega)
      have fw585_0 := fw585_0.only ow608 (fun k h1 h2 => by omega)
      have fw585_1 := fw585_1.only ow608 (fun k h1 h2 => by omega)
      have er := Ext.own er ow608 (fun k hk => by omega)
      have hbw594 := hbw594q
      have hbl := hbw438.lt
      have hbl1 := hbw594.lt
      exact ⟨_, _, _, _, _, _, _, _, rfl, rfl, by omega, by omega, by omega, by omega, hbl, by omega, by omega, by omega, by omega, hbl1, hbw438, fw585_0.fr, hbw594, fw585_1.fr, er⟩
     refine ⟨?_, trivial⟩
     refine alloc_step (fun w559 ew559 hbw559 nw559 => ?_)
     have hbw1 := hbw1.ext ew559
     have hbw2 := hbw2.ext ew559
     have hbw438 := hbw438.ext ew559
     have fw501 := fw501.ext ew559
     have fw550 := fw550.ext ew559
     have er := Only.trans er ew559
     have zw559 := ew559.size
     refine ⟨fa8_0 hbw2, ?_⟩
     refine ⟨fa8_1 hbw1, ?_⟩
     refine ⟨?_, trivial⟩
     refine (implIpcStep fw501.is sz0 fw550.is sz1).mono ?_
     rintro _ w573 ⟨yw573_0, yw573_1, bsw573_0, bsw573_1, rfl, fw573_0, fw573_1, djw573, ew573⟩
     have hbw438 := hbw438.ext ew573
     have hbw559 := hbw559.ext ew573
     have er := Only.trans er ew573
     have zw573 := ew573.size
     have hiyw573_0 := fw573_0.is
     obtain ⟨ryw573_0_1, ryw573_0_2, ryw573_0_3, rfl, _, _, _, _⟩ := cells_Ipc hiyw573_0
     have hiyw573_1 := fw573_1.is
     obtain ⟨ryw573_1_2, rfl, _, _, _, _⟩ := cells_IpcRes hiyw573_1
     refine ⟨_, ryw573_0_1, ryw573_0_2, ryw573_0_3, _, _, ryw573_1_2, _, rfl, ?_⟩
     refine ⟨?_, trivial⟩
     refine put_step hbw438 rfl rfl (fun w582 ow582 hbw438q nw582 => ?_)
     have hbw559 := hbw559.only ow582 (by omega)
     have fw573_0 := fw573_0.only ow582 (fun k h1 h2 => by omega)
     have fw573_1 := fw573_1.only ow582 (fun k h1 h2 => by omega)
     have er := Ext.own er ow582 (fun k hk => by omega)
     have hbw438 := hbw438q
     refine ⟨?_, trivial⟩
     refine put_step hbw559 rfl rfl (fun w583 ow583 hbw559q nw583 => ?_)
     have hbw438 := hbw438.only ow583 (by omega)
     have fw573_0 := fw573_0.only ow583 (fun k h1 h2 => by omega)
     have fw573_1 := fw573_1.only ow583 (fun k h1 h2 => by omega)
     have er := Ext.own er ow583 (fun k hk => by omega)
     have hbw559 := hbw559q
     have hbl := hbw438.lt
     have hbl1 := hbw559.lt
     exact ⟨_, _, _, _, _, _, _, _, rfl, rfl, by omega, by omega, by omega, by omega, hbl, by omega, by omega, by omega, by omega, hbl1, hbw438, fw573_0.fr, hbw559, fw573_1.fr, er⟩
    refine ⟨?_, trivial⟩
    refine alloc_step (fun w514 ew514 hbw514 nw514 => ?_)
    have hbw1 := hbw1.ext ew514
    have hbw2 := hbw2.ext ew514
    have hbw438 := hbw438.ext ew514
    have fw501 := fw501.ext ew514
    have er := Only.trans er ew514
    have zw514 := ew514.size
    refine ⟨fa8_0 hbw2, ?_⟩
    refine ⟨fa8_1 hbw1, ?_⟩
    refine ⟨?_, trivial⟩
    refine (c39 (DIpcOp.has _) (IsD.ext (Only.trans e er) _ _ h1) (by have := sz1; omega)).mono ?_
    rintro _ w528 ⟨yw528, rfl, fw528, ew528⟩
    have hbw438 := hbw438.ext ew528
    have hbw514 := hbw514.ext ew528
    have fw501 := fw501.ext ew528
    have er := Only.trans er ew528
    have zw528 := ew528.size
    have hiyw528 := fw528.is
    obtain ⟨ryw528_7, rfl, _, _, _, _, _, _, _, _⟩ := cells_IpcOp hiyw528
    refine ⟨_, _, _, _, _, _, _, ryw528_7, rfl, ?_⟩
    refine ⟨?_, trivial⟩
    refine (implIpcStep fw501.is sz0 fw528.is sz1).mono ?_
    rintro _ w538 ⟨yw538_0, yw538_1, bsw538_0, bsw538_1, rfl, fw538_0, fw538_1, djw538, ew538⟩
    have hbw438 := hbw438.ext ew538
    have hbw514 := hbw514.ext ew538
    have er := Only.trans er ew538
    have zw538 := ew538.size
    have hiyw538_0 := fw538_0.is
    obtain ⟨ryw538_0_1, ryw538_0_2, ryw538_0_3, rfl, _, _, _, _⟩ := cells_Ipc hiyw538_0
    have hiyw538_1 := fw538_1.is
    obtain ⟨ryw538_1_2, rfl, _, _, _, _⟩ := cells_IpcRes hiyw538_1
    refine ⟨_, ryw538_0_1, ryw538_0_2, ryw538_0_3, _, _, ryw538_1_2, _, rfl, ?_⟩
    refine ⟨?_, trivial⟩
    refine put_step hbw438 rfl rfl (fun w547 ow547 hbw438q nw547 => ?_)
    have hbw514 := hbw514.only ow547 (by omega)
    have fw538_0 := fw538_0.only ow547 (fun k h1 h2 => by omega)
    have fw538_1 := fw538_1.only ow547 (fun k h1 h2 => by omega)
    have er := Ext.own er ow547 (fun k hk => by omega)
    have hbw438 := hbw438q
    refine ⟨?_, trivial⟩
    refine put_step hbw514 rfl rfl (fun w548 ow548 hbw514q nw548 => ?_)
    have hbw438 := hbw438.only ow548 (by omega)
    have fw538_0 := fw538_0.only ow548 (fun k h1 h2 => by omega)
    have fw538_1 := fw538_1.only ow548 (fun k h1 h2 => by omega)
    have er := Ext.own er ow548 (fun k hk => by omega)
    have hbw514 := hbw514q
    have hbl := hbw438.lt
    have hbl1 := hbw514.lt
    exact ⟨_, _, _, _, _, _, _, _, rfl, rfl, by omega, by omega, by omega, by omega, hbl, by omega, by omega, by omega, by omega, hbl1, hbw438, fw538_0.fr, hbw514, fw538_1.fr, er⟩
   refine ⟨?_, trivial⟩
   refine alloc_step (fun w451 ew451 hbw451 nw451 => ?_)
   have hbw1 := hbw1.ext ew451
   have hbw2 := hbw2.ext ew451
   have hbw438 := hbw438.ext ew451
   have er := Only.trans er ew451
   have zw451 := ew451.size
   refine ⟨fa8_0 hbw2, ?_⟩
   refine ⟨fa8_1 hbw1, ?_⟩
   refine ⟨?_, trivial⟩
   refine (c11 (DIpc.has _) (IsD.ext (Only.trans e er) _ _ h0) (by have := sz0; omega)).mono ?_
   rintro _ w465 ⟨yw465, rfl, fw465, ew465⟩
   have hbw2 := hbw2.ext ew465
   have hbw438 := hbw438.ext ew465
   have hbw451 := hbw451.ext ew465
   have er := Only.trans er ew465
   have zw465 := ew465.size
   have hiyw465 := fw465.is
   obtain ⟨ryw465_1, ryw465_2, ryw465_3, rfl, _, _, _, _⟩ := cells_Ipc hiyw465
   refine ⟨_, ryw465_1, ryw465_2, ryw465_3, rfl, ?_⟩
   refine ⟨fa8_0 hbw2, ?_⟩
   refine ⟨?_, trivial⟩
   refine (c39 (DIpcOp.has _) (IsD.ext (Only.trans e er) _ _ h1) (by have := sz1; omega)).mono ?_
   rintro _ w479 ⟨yw479, rfl, fw479, ew479⟩
   have hbw438 := hbw438.ext ew479
   have hbw451 := hbw451.ext ew479
   have fw465 := fw465.ext ew479
   have er := Only.trans er ew479
   have zw479 := ew479.size
   have hiyw479 := fw479.is
   obtain ⟨ryw479_7, rfl, _, _, _, _, _, _, _, _⟩ := cells_IpcOp hiyw479
   refine ⟨_, _, _, _, _, _, _, ryw479_7, rfl, ?_⟩
   refine ⟨?_, trivial⟩
   refine (implIpcStep fw465.is sz0 fw479.is sz1).mono ?_
   rintro _ w489 ⟨yw489_0, yw489_1, bsw489_0, bsw489_1, rfl, fw489_0, fw489_1, djw489, ew489⟩
   have hbw438 := hbw438.ext ew489
   have hbw451 := hbw451.ext ew489
   have er := Only.trans er ew489
   have zw489 := ew489.size
   have hiyw489_0 := fw489_0.is
   obtain ⟨ryw489_0_1, ryw489_0_2, ryw489_0_3, rfl, _, _, _, _⟩ := cells_Ipc hiyw489_0
   have hiyw489_1 := fw489_1.is
   obtain ⟨ryw489_1_2, rfl, _, _, _, _⟩ := cells_IpcRes hiyw489_1
   refine ⟨_, ryw489_0_1, ryw489_0_2, ryw489_0_3, _, _, ryw489_1_2, _, rfl, ?_⟩
   refine ⟨?_, trivial⟩
   refine put_step hbw438 rfl rfl (fun w498 ow498 hbw438q nw498 => ?_)
   have hbw451 := hbw451.only ow498 (by omega)
   have fw489_0 := fw489_0.only ow498 (fun k h1 h2 => by omega)
   have fw489_1 := fw489_1.only ow498 (fun k h1 h2 => by omega)
   have er := Ext.own er ow498 (fun k hk => by omega)
   have hbw438 := hbw438q
   refine ⟨?_, trivial⟩
   refine put_step hbw451 rfl rfl (fun w499 ow499 hbw451q nw499 => ?_)
   have hbw438 := hbw438.only ow499 (by omega)
   have fw489_0 := fw489_0.only ow499 (fun k h1 h2 => by omega)
   have fw489_1 := fw489_1.only ow499 (fun k h1 h2 => by omega)
   have er := Ext.own er ow499 (fun k hk => by omega)
   have hbw451 := hbw451q
   have hbl := hbw438.lt
   have hbl1 := hbw451.lt
   exact ⟨_, _, _, _, _, _, _, _, rfl, rfl, by omega, by omega, by omega, by omega, hbl, by omega, by omega, by omega, by omega, hbl1, hbw438, fw489_0.fr, hbw451, fw489_1.fr, er⟩
  refine ⟨?_, trivial⟩
  refine alloc_step (fun w267 ew267 hbw267 nw267 => ?_)
  have hbw1 := hbw1.ext ew267
  have hbw2 := hbw2.ext ew267
  have er := Only.trans er ew267
  have zw267 := ew267.size
  refine ⟨fa8_0 hbw2, ?_⟩
  refine ⟨fa8_1 hbw1, ?_⟩
  refine ⟨?_, ?_⟩
  ·
   refine (c11 (DIpc.has _) (IsD.ext (Only.trans e er) _ _ h0) (by have := sz0; omega)).mono ?_
   rintro _ w330 ⟨yw330, rfl, fw330, ew330⟩
   have hbw1 := hbw1.ext ew330
   have hbw2 := hbw2.ext ew330
   have hbw267 := hbw267.ext ew330
   have er := Only.trans er ew330
   have zw330 := ew330.size
   have hiyw330 := fw330.is
   obtain ⟨ryw330_1, ryw330_2, ryw330_3, rfl, _, _, _, _⟩ := cells_Ipc hiyw330
   refine ⟨_, ryw330_1, ryw330_2, ryw330_3, rfl, ?_⟩
   refine ⟨fa8_0 hbw2, ?_⟩
   refine ⟨?_, ?_⟩
   ·
    refine (c39 (DIpcOp.has _) (IsD.ext (Only.trans e er) _ _ h1) (by have := sz1; omega)).mono ?_
    rintro _ w379 ⟨yw379, rfl, fw379, ew379⟩
    have hbw1 := hbw1.ext ew379
    have hbw2 := hbw2.ext ew379
    have hbw267 := hbw267.ext ew379
    have fw330 := fw330.ext ew379
    have er := Only.trans er ew379
    have zw379 := ew379.size
    have hiyw379 := fw379.is
    obtain ⟨ryw379_7, rfl, _, _, _, _, _, _, _, _⟩ := cells_IpcOp hiyw379
    refine ⟨_, _, _, _, _, _, _, ryw379_7, rfl, ?_⟩
    refine ⟨?_, ?_⟩
    ·
     refine (implIpcStep fw330.is sz0 fw379.is sz1).mono ?_
     rintro _ w414 ⟨yw414_0, yw414_1, bsw414_0, bsw414_1, rfl, fw414_0, fw414_1, djw414, ew414⟩
     have hbw1 := hbw1.ext ew414
     have hbw2 := hbw2.ext ew414
     have hbw267 := hbw267.ext ew414
     have er := Only.trans er ew414
     have zw414 := ew414.size
     have hiyw414_0 := fw414_0.is
     obtain ⟨ryw414_0_1, ryw414_0_2, ryw414_0_3, rfl, _, _, _, _⟩ := cells_Ipc hiyw414_0
     have hiyw414_1 := fw414_1.is
     obtain ⟨ryw414_1_2, rfl, _, _, _, _⟩ := cells_IpcRes hiyw414_1
     refine ⟨_, ryw414_0_1, ryw414_0_2, ryw414_0_3, _, _, ryw414_1_2, _, rfl, ?_⟩
     refine ⟨?_, trivial⟩
     refine alloc_step (fun w423 ew423 hbw423 nw423 => ?_)
     have hbw1 := hbw1.ext ew423
     have hbw2 := hbw2.ext ew423
     have hbw267 := hbw267.ext ew423
     have fw414_0 := fw414_0.ext ew423
     have fw414_1 := fw414_1.ext ew423
     have er := Only.trans er ew423
     have zw423 := ew423.size
     refine ⟨fa8_0 hbw2, ?_⟩
     refine ⟨fa8_1 hbw1, ?_⟩
     refine ⟨?_, trivial⟩
     refine put_step hbw423 rfl rfl (fun w436 ow436 hbw423q nw436 => ?_)
     have hbw267 := hbw267.only ow436 (by omega)
     have fw414_0 := fw414_0.only ow436 (fun k h1 h2 => by omega)
     have fw414_1 := fw414_1.only ow436 (fun k h1 h2 => by omega)
     have er := Ext.own er ow436 (fun k hk => by omega)
     have hbw423 := hbw423q
     refine ⟨?_, trivial⟩
     refine put_step hbw267 rfl rfl (fun w437 ow437 hbw267q nw437 => ?_)
     have hbw423 := hbw423.only ow437 (by omega)
     have fw414_0 := fw414_0.only ow437 (fun k h1 h2 => by omega)
     have fw414_1 := fw414_1.only ow437 (fun k h1 h2 => by omega)
     have er := Ext.own er ow437 (fun k hk => by omega)
     have hbw267 := hbw267q
     have hbl := hbw423.lt
     have hbl1 := hbw267.lt
     exact ⟨_, _, _, _, _, _, _, _, rfl, rfl, by omega, by omega, by omega, by omega, hbl, by omega, by omega, by omega, by omega, hbl1, hbw423, fw414_0.fr, hbw267, fw414_1.fr, er⟩
    refine ⟨?_, trivial⟩
    refine alloc_step (fun w388 ew388 hbw388 nw388 => ?_)
    have hbw1 := hbw1.ext ew388
    have hbw2 := hbw2.ext ew388
    have hbw267 := hbw267.ext ew388
    have fw330 := fw330.ext ew388
    have fw379 := fw379.ext ew388
    have er := Only.trans er ew388
    have zw388 := ew388.size
    refine ⟨fa8_0 hbw2, ?_⟩
    refine ⟨fa8_1 hbw1, ?_⟩
    refine ⟨?_, trivial⟩
    refine (implIpcStep fw330.is sz0 fw379.is sz1).mono ?_
    rintro _ w402 ⟨yw402_0, yw402_1, bsw402_0, bsw402_1, rfl, fw402_0, fw402_1, djw402, ew402⟩
    have hbw267 := hbw267.ext ew402
    have hbw388 := hbw388.ext ew402
    have er := Only.trans er ew402
    have zw402 := ew402.size
    have hiyw402_0 := fw402_0.is
    obtain ⟨ryw402_0_1, ryw402_0_2, ryw402_0_3, rfl, _, _, _, _⟩ := cells_Ipc hiyw402_0
    have hiyw402_1 := fw402_1.is
    obtain ⟨ryw402_1_2, rfl, _, _, _, _⟩ := cells_IpcRes hiyw402_1
    refine ⟨_, ryw402_0_1, ryw402_0_2, ryw402_0_3, _, _, ryw402_1_2, _, rfl, ?_⟩
    refine ⟨?_, trivial⟩
    refine put_step hbw388 rfl rfl (fun w411 ow411 hbw388q nw411 => ?_)
    have hbw267 := hbw267.only ow411 (by omega)
    have fw402_0 := fw402_0.only ow411 (fun k h1 h2 => by omega)
    have fw402_1 := fw402_1.only ow411 (fun k h1 h2 => by omega)
    have er := Ext.own er ow411 (fun k hk => by omega)
    have hbw388 := hbw388q
    refine ⟨?_, trivial⟩
    refine put_step hbw267 rfl rfl (fun w412 ow412 hbw267q nw412 => ?_)
    have hbw388 := hbw388.only ow412 (by omega)
    have fw402_0 := fw402_0.only ow412 (fun k h1 h2 => by omega)
    have fw402_1 := fw402_1.only ow412 (fun k h1 h2 => by omega)
    have er := Ext.own er ow412 (fun k hk => by omega)
    have hbw267 := hbw267q
    have hbl := hbw388.lt
    have hbl1 := hbw267.lt
    exact ⟨_, _, _, _, _, _, _, _, rfl, rfl, by omega, by omega, by omega, by omega, hbl, by omega, by omega, by omega, by omega, hbl1, hbw388, fw402_0.fr, hbw267, fw402_1.fr, er⟩
   refine ⟨?_, trivial⟩
   refine alloc_step (fun w343 ew343 hbw343 nw343 => ?_)
   have hbw1 := hbw1.ext ew343
   have hbw2 := hbw2.ext ew343
   have hbw267 := hbw267.ext ew343
   have fw330 := fw330.ext ew343
   have er := Only.trans er ew343
   have zw343 := ew343.size
   refine ⟨fa8_0 hbw2, ?_⟩
   refine ⟨fa8_1 hbw1, ?_⟩
   refine ⟨?_, trivial⟩
   refine (c39 (DIpcOp.has _) (IsD.ext (Only.trans e er) _ _ h1) (by have := sz1; omega)).mono ?_
   rintro _ w357 ⟨yw357, rfl, fw357, ew357⟩
   have hbw267 := hbw267.ext ew357
   have hbw343 := hbw343.ext ew357
   have fw330 := fw330.ext ew357
   have er := Only.trans er ew357
   have zw357 := ew357.size
   have hiyw357 := fw357.is
   obtain ⟨ryw357_7, rfl, _, _, _, _, _, _, _, _⟩ := cells_IpcOp hiyw357
   refine ⟨_, _, _, _, _, _, _, ryw357_7, rfl, ?_⟩
   refine ⟨?_, trivial⟩
   refine (implIpcStep fw330.is sz0 fw357.is sz1).mono ?_
   rintro _ w367 ⟨yw367_0, yw367_1, bsw367_0, bsw367_1, rfl, fw367_0, fw367_1, djw367, ew367⟩
   have hbw267 := hbw267.ext ew367
   have hbw343 := hbw343.ext ew367
   have er := Only.trans er ew367
   have zw367 := ew367.size
   have hiyw367_0 := fw367_0.is
   obtain ⟨ryw367_0_1, ryw367_0_2, ryw367_0_3, rfl, _, _, _, _⟩ := cells_Ipc hiyw367_0
   have hiyw367_1 := fw367_1.is
   obtain ⟨ryw367_1_2, rfl, _, _, _, _⟩ := cells_IpcRes hiyw367_1
   refine ⟨_, ryw367_0_1, ryw367_0_2, ryw367_0_3, _, _, ryw367_1_2, _, rfl, ?_⟩
   refine ⟨?_, trivial⟩
   refine put_step hbw343 rfl rfl (fun w376 ow376 hbw343q nw376 => ?_)
   have hbw267 := hbw267.only ow376 (by omega)
   have fw367_0 := fw367_0.only ow376 (fun k h1 h2 => by omega)
   have fw367_1 := fw367_1.only ow376 (fun k h1 h2 => by omega)
   have er := Ext.own er ow376 (fun k hk => by omega)
   have hbw343 := hbw343q
   refine ⟨?_, trivial⟩
   refine put_step hbw267 rfl rfl (fun w377 ow377 hbw267q nw377 => ?_)
   have hbw343 := hbw343.only ow377 (by omega)
   have fw367_0 := fw367_0.only ow377 (fun k h1 h2 => by omega)
   have fw367_1 := fw367_1.only ow377 (fun k h1 h2 => by omega)
   have er := Ext.own er ow377 (fun k hk => by omega)
   have hbw267 := hbw267q
   have hbl := hbw343.lt
   have hbl1 := hbw267.lt
   exact ⟨_, _, _, _, _, _, _, _, rfl, rfl, by omega, by omega, by omega, by omega, hbl, by omega, by omega, by omega, by omega, hbl1, hbw343, fw367_0.fr, hbw267, fw367_1.fr, er⟩
  refine ⟨?_, trivial⟩
  refine alloc_step (fun w280 ew280 hbw280 nw280 => ?_)
  have hbw1 := hbw1.ext ew280
  have hbw2 := hbw2.ext ew280
  have hbw267 := hbw267.ext ew280
  have er := Only.trans er ew280
  have zw280 := ew280.size
  refine ⟨fa8_0 hbw2, ?_⟩
  refine ⟨fa8_1 hbw1, ?_⟩
  refine ⟨?_, trivial⟩
  refine (c11 (DIpc.has _) (IsD.ext (Only.trans e er) _ _ h0) (by have := sz0; omega)).mono ?_
  rintro _ w294 ⟨yw294, rfl, fw294, ew294⟩
  have hbw2 := hbw2.ext ew294
  have hbw267 := hbw267.ext ew294
  have hbw280 := hbw280.ext ew294
  have er := Only.trans er ew294
  have zw294 := ew294.size
  have hiyw294 := fw294.is
  obtain ⟨ryw294_1, ryw294_2, ryw294_3, rfl, _, _, _, _⟩ := cells_Ipc hiyw294
  refine ⟨_, ryw294_1, ryw294_2, ryw294_3, rfl, ?_⟩
  refine ⟨fa8_0 hbw2, ?_⟩
  refine ⟨?_, trivial⟩
  refine (c39 (DIpcOp.has _) (IsD.ext (Only.trans e er) _ _ h1) (by have := sz1; omega)).mono ?_
  rintro _ w308 ⟨yw308, rfl, fw308, ew308⟩
  have hbw267 := hbw267.ext ew308
  have hbw280 := hbw280.ext ew308
  have fw294 := fw294.ext ew308
  have er := Only.trans er ew308
  have zw308 := ew308.size
  have hiyw308 := fw308.is
  obtain ⟨ryw308_7, rfl, _, _, _, _, _, _, _, _⟩ := cells_IpcOp hiyw308
  refine ⟨_, _, _, _, _, _, _, ryw308_7, rfl, ?_⟩
  refine ⟨?_, trivial⟩
  refine (implIpcStep fw294.is sz0 fw308.is sz1).mono ?_
  rintro _ w318 ⟨yw318_0, yw318_1, bsw318_0, bsw318_1, rfl, fw318_0, fw318_1, djw318, ew318⟩
  have hbw267 := hbw267.ext ew318
  have hbw280 := hbw280.ext ew318
  have er := Only.trans er ew318
  have zw318 := ew318.size
  have hiyw318_0 := fw318_0.is
  obtain ⟨ryw318_0_1, ryw318_0_2, ryw318_0_3, rfl, _, _, _, _⟩ := cells_Ipc hiyw318_0
  have hiyw318_1 := fw318_1.is
  obtain ⟨ryw318_1_2, rfl, _, _, _, _⟩ := cells_IpcRes hiyw318_1
  refine ⟨_, ryw318_0_1, ryw318_0_2, ryw318_0_3, _, _, ryw318_1_2, _, rfl, ?_⟩
  refine ⟨?_, trivial⟩
  refine put_step hbw280 rfl rfl (fun w327 ow327 hbw280q nw327 => ?_)
  have hbw267 := hbw267.only ow327 (by omega)
  have fw318_0 := fw318_0.only ow327 (fun k h1 h2 => by omega)
  have fw318_1 := fw318_1.only ow327 (fun k h1 h2 => by omega)
  have er := Ext.own er ow327 (fun k hk => by omega)
  have hbw280 := hbw280q
  refine ⟨?_, trivial⟩
  refine put_step hbw267 rfl rfl (fun w328 ow328 hbw267q nw328 => ?_)
  have hbw280 := hbw280.only ow328 (by omega)
  have fw318_0 := fw318_0.only ow328 (fun k h1 h2 => by omega)
  have fw318_1 := fw318_1.only ow328 (fun k h1 h2 => by omega)
  have er := Ext.own er ow328 (fun k hk => by omega)
  have hbw267 := hbw267q
  have hbl := hbw280.lt
  have hbl1 := hbw267.lt
  exact ⟨_, _, _, _, _, _, _, _, rfl, rfl, by omega, by omega, by omega, by omega, hbl, by omega, by omega, by omega, by omega, hbl1, hbw280, fw318_0.fr, hbw267, fw318_1.fr, er⟩
 rintro (p208 : Option Addr) (p209 : Option Addr) w211 ⟨bw211, low211, hiw211, yw211, b1_w211, lo1_w211, hi1_w211, y1_w211, rfl, rfl, hxw211, hlow211, hhiw211, hdsw211, hblw211, hx1_w211, hlo1_w211, hhi1_w211, hds1_w211, hbl1_w211, hbw211, fw211, hb1_w211, f1_w211, erw211⟩
 have hbw24 := hbw24.ext erw211
 have hb1_w24 := hb1_w24.ext erw211
 have hbw79 := hbw79.ext erw211
 have hbw80 := hbw80.ext erw211
 have fw24 := fw24.ext erw211
 have f1_w24 := f1_w24.ext erw211
 have fw185 := fw185.ext erw211
 have fw192 := fw192.ext erw211
 have e := Only.trans e erw211
 have zw211 := erw211.size
 have hiyw211 := fw211.is
 obtain ⟨ryw211_1, ryw211_2, ryw211_3, rfl, _, _, _, _⟩ := cells_Ipc hiyw211
 have hiy1_w211 := f1_w211.is
 obtain ⟨ry1_w211_2, rfl, _, _, _, _⟩ := cells_IpcRes hiy1_w211
 refine addrOf_mk ?_
 refine ⟨_, hbw211.cell 0, ?_⟩
 refine ⟨ryw211_1, hbw211.cell 1, ?_⟩
 refine ⟨ryw211_2, hbw211.cell 2, ?_⟩
 refine ⟨ryw211_3, hbw211.cell 3, ?_⟩
 refine addrOf_mk ?_
 refine ⟨_, hbw24.cell 0, ?_⟩
 refine ⟨ryw24_1, hbw24.cell 1, ?_⟩
 refine ⟨ryw24_2, hbw24.cell 2, ?_⟩
 refine ⟨ryw24_3, hbw24.cell 3, ?_⟩
 refine (c13 (DIpc.has _) fw211.is fw24.is).mono ?_
 rintro _ w223 ⟨rfl, ew223⟩
 have hb1_w24 := hb1_w24.ext ew223
 have hbw79 := hbw79.ext ew223
 have hbw80 := hbw80.ext ew223
 have hb1_w211 := hb1_w211.ext ew223
 have f1_w24 := f1_w24.ext ew223
 have fw185 := fw185.ext ew223
 have fw192 := fw192.ext ew223
 have f1_w211 := f1_w211.ext ew223
 have e := Only.trans e ew223
 have zw223 := ew223.size
 refine ⟨_, rfl, ?_⟩
 refine JoinW.each ?_
 refine BIf.f rfl ?_
 refine addrOf_mk ?_
 refine ⟨_, hb1_w211.cell 0, ?_⟩
 refine ⟨_, hb1_w211.cell 1, ?_⟩
 refine ⟨ry1_w211_2, hb1_w211.cell 2, ?_⟩
 refine ⟨_, hb1_w211.cell 3, ?_⟩
 refine addrOf_mk ?_
 refine ⟨_, hb1_w24.cell 0, ?_⟩
 refine ⟨_, hb1_w24.cell 1, ?_⟩
 refine ⟨ry1_w24_2, hb1_w24.cell 2, ?_⟩
 refine ⟨_, hb1_w24.cell 3, ?_⟩
 refine (c40 (DIpcRes.has _) f1_w211.is f1_w24.is).mono ?_
 rintro _ w253 ⟨rfl, ew253⟩
 have hbw79 := hbw79.ext ew253
 have hbw80 := hbw80.ext ew253
 have fw185 := fw185.ext ew253
 have fw192 := fw192.ext ew253
 have e := Only.trans e ew253
 have zw253 := ew253.size
 refine ⟨_, rfl, ?_⟩
 refine BIf.f (by first | (simp; done) | (simp; omega)) ?_
 refine ⟨_, hbw79.cell 0, ?_⟩
 refine ⟨ryw70_0_1, hbw79.cell 1, ?_⟩
 refine ⟨ryw70_0_2, hbw79.cell 2, ?_⟩
 refine ⟨ryw70_0_3, hbw79.cell 3, ?_⟩
 refine (c44 hsw185 fw185.is mkw185 (by omega) (by have := cnw185; have := istep_cnt h0 sz0 h1 sz1; omega)).mono ?_
 rintro _ w233 ⟨rfl, ew233⟩
 have hbw80 := hbw80.ext ew233
 have fw192 := fw192.ext ew233
 have e := Only.trans e ew233
 have zw233 := ew233.size
 try rw [cnw185]
 refine ⟨_, rfl, ?_⟩
 refine BIf.f (decide_eq_false (by omega)) ?_
 refine ⟨_, hbw80.cell 0, ?_⟩
 refine ⟨_, hbw80.cell 1, ?_⟩
 refine ⟨ryw70_1_2, hbw80.cell 2, ?_⟩
 refine ⟨_, hbw80.cell 3, ?_⟩
 refine (c45 hsw192 fw192.is mkw192 (by omega) (by have := cnw192; have := istep_cnt h0 sz0 h1 sz1; omega)).mono ?_
 rintro _ w240 ⟨rfl, ew240⟩
 have e := Only.trans e ew240
 have zw240 := ew240.size
 try rw [cnw192]
 refine ⟨_, rfl, ?_⟩
 refine BIf.f (decide_eq_false (by omega)) ?_
 refine BIf.f (by first | (simp; done) | (simp; omega)) ?_
 exact ⟨by trivial, e⟩
open Go.RowKit in
theorem law_calls8 {w : World} {c0 : Array Value} {x : DIpc} (h0 : cDIpc.is w c0.toList x) {c1 : Array Value} {op : DIpcOp} (h1 : cDIpcOp.is w c1.toList op) : Calls Try.prog 8 #[.agg c0, .agg c1] w (fun e w' => e = .returned (.bool true) ∧ Below w.heap.size w w') :=
 (walk8 (cDIpc_dat h0) (cDIpcOp_dat h1)).mono (by rintro e w' ⟨v, rfl, rfl, he⟩; exact ⟨rfl, he.below⟩)
end Go.Proofs.Ytbimoajgofcmbaa

namespace Go.Proofs.Ytbimoajgofcmbaa.fnExactIpcStep
open Go.ChangeShapes Go.WideShapes Go.ChangeAt Go.RowKit
open Go.ChangeMaps (open_string shut_string)
theorem own : ownKnob Try.prog.godebug = none := by kernel_rfl
theorem laidOut : laidOutB Try.prog = true := by kernel_rfl
set_option maxRecDepth 100000 in
theorem lifted (os : Os) (started : os.Started) (H : Type) (enc : TypeId × Value → H) :
    ReturnsInHanded {} Try.checked os 8 .any (Rows.fnExactIpcStepSpec.pre6 enc Try.prog Try.f8 Rows.fnExactIpcStepRow.domain false) (Rows.fnExactIpcStepSpec.post enc Try.prog Try.f8 false true false false) := by
  refine returnsInHanded_of_change_sized (C := Try.checked) own started (by kernel_rfl) Try.func8
    (ChangeSpec.witness6 (enc := enc) (C := Try.checked) false ⟨#[], #[.agg #[.int .i64 0, .slice none 0 0, .slice none 0 0, .slice none 0 0], .agg #[.int .i64 0, .int .i64 0, .int .i64 0, .int .i64 0, .int .i64 0, .int .i64 0, .int .i64 0, .slice none 0 0]], []⟩ 8 (by kernel_rfl) (by kernel_rfl) (by kernel_rfl) (by kernel_rfl)) ?_
  intro W base args ds gs before hval0 hW hcnd hsz0 _
  have hsz : (DataW.weightsEach Try.prog (Try.f8.params.toList ++ Rows.fnExactIpcStepSpec.plain.varTypes Try.prog) (ds ++ gs)).all (· ≤ reachBytes) = true := hsz0
  have hval : ∀ (j : Nat) t v, Try.f8.params[j]? = some t → args[j]? = some v → Value.okWide Try.prog W .any base t v := hval0
  have hW' := hW
  obtain ⟨p, q, hA0, hV, rfl, hfz, hnd⟩ := hW
  have hA : DataW.TrodAll enc Try.prog W 0 (fun _ => true) true Try.f8.params.toList args.toList ds p := hA0
  rw [Try.params8] at hA hval hsz
  obtain ⟨v0, vs0, d0, ds0, p0, q0, hargs, rfl, rfl, h0, r0⟩ := trodAll_cons hA
  obtain ⟨v1, vs1, d1, ds1, p1, q1, rfl, rfl, rfl, h1, r1⟩ := trodAll_cons r0
  obtain ⟨rfl, rfl, rfl⟩ := trodAll_nil r1
  obtain rfl : args = #[v0, v1] := by cases args; simp_all
  obtain ⟨rfl, rfl⟩ := trodVars_none hV
  have k0 := h0
  have lt0 : ∀ x ∈ p0, x.block < W.heap.size := by obtain ⟨m, hm⟩ := k0; exact DataW.trod_lt m _ _ _ hm
  obtain ⟨c0, rfl⟩ : ∃ cs, v0 = .agg cs := by have hv := (hval 0 26 v0 rfl rfl); unfold Value.okWide at hv; rw [Try.underlying26] at hv; exact ⟨hv.choose, hv.choose_spec.1⟩
  obtain ⟨x0, w0⟩ : ∃ x, (cDIpc).is W c0.toList x := by obtain ⟨fuel, hf⟩ := h0; exact ((o26).at_ enc W fuel _ _ hf).2
  have k1 := h1
  have lt1 : ∀ x ∈ p1, x.block < W.heap.size := by obtain ⟨m, hm⟩ := k1; exact DataW.trod_lt m _ _ _ hm
  obtain ⟨c1, rfl⟩ : ∃ cs, v1 = .agg cs := by have hv := (hval 1 68 v1 rfl rfl); unfold Value.okWide at hv; rw [Try.underlying68] at hv; exact ⟨hv.choose, hv.choose_spec.1⟩
  obtain ⟨x1, w1⟩ : ∃ x, (cDIpcOp).is W c1.toList x := by obtain ⟨fuel, hf⟩ := h1; exact ((o68).at_ enc W fuel _ _ hf).2
  clear hA0 hval0 hsz0 hsz
  refine (law_calls8 w0 w1).mono fun e W' ⟨he, bel⟩ => ?_
  subst he
  exact ⟨_, rfl, _, _, _, [], _, [], hW', trodAll_mk1 (shut_bool Try.underlying4 _), (trodAll_cons_mk (Below.trod laidOut (by kernel_rfl) (of_decide_eq_true (by kernel_rfl)) k0 bel lt0) (trodAll_cons_mk (Below.trod laidOut (by kernel_rfl) (of_decide_eq_true (by kernel_rfl)) k1 bel lt1) trodAll_mk0)), rfl, bel.frame _, fun h => by cases h⟩
theorem over : Rows.fnExactIpcStepRow.holds Try.pinned (OpenSpec.ofChange Rows.fnExactIpcStepSpec) :=
  OpenClaim.holds_of_wide 8 Try.f8 rfl rfl rfl rfl rfl rfl rfl ⟨rfl, rfl, rfl, rfl, rfl⟩ rfl rfl rfl rfl rfl (by kernel_rfl) Try.func8 (by kernel_rfl)
    (of_decide_eq_true (by kernel_rfl)) (by unfold Func.isWrapper; first | (rw [if_pos (by decide +kernel)]; kernel_rfl) | (rw [if_neg (by decide +kernel)]; exact ⟨rfl, rfl⟩))
    (fun os started H enc _ => lifted os started H enc)
theorem proved : Rows.FnExactIpcStepSaid := over
#print axioms proved
end Go.Proofs.Ytbimoajgofcmbaa.fnExactIpcStep
namespace Go.Proofs.Ytbimoajgofcmbaa
theorem fnExactIpcStep_holds : Rows.FnExactIpcStepSaid := fnExactIpcStep.proved
end Go.Proofs.Ytbimoajgofcmbaa
