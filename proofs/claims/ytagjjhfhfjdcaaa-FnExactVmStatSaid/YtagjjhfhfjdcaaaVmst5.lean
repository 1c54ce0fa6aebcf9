/- Part 5 of 5: plain readings of code, rules for them, and a proof over them, joined by a program. Conditions: none. -/
import Derived.Test.YtagjjhfhfjdcaaaVmst4
import Derived.Test.YtagjjhfhfjdcaaaRows
import Derived.WalkKit
import Derived.ProofKit
import Derived.OpenShut
import Derived.ShutString
import Derived.ChangeOld
import Derived.Below
import Derived.Carry
import Derived.SizedLaws
/- Pages, spaces, objects: VmStat, both sides. Conditions: none. -/
set_option linter.unusedVariables false
set_option linter.unusedSimpArgs false
namespace Go.Proofs.Ytagjjhfhfjdcaaa
open Go Go.Den
def inN (l : List DVPage) : Nat := l.countP (fun p => decide (p.Frame ≥ 0))
theorem inN_le (l : List DVPage) : inN l ≤ l.length := List.countP_le_length
theorem inN_snoc {l : List DVPage} {k : Nat} {x : DVPage} (h : l[k]? = some x) : inN (l.take (k + 1)) = inN (l.take k) + (if x.Frame ≥ 0 then 1 else 0) := by
  unfold inN
  rw [take_snoc h, List.countP_append]
  by_cases hx : x.Frame ≥ 0 <;> simp [hx]
open Classical in
noncomputable def statF (d : DVm) : DVmCount := if VOk d then ⟨(inN d.Pages : Nat), (d.Pages.length : Int) - (inN d.Pages : Nat), (placesOf d).length, d.Frames + d.Slots - (d.Pages.length : Int)⟩ else ⟨0, 0, 0, 0⟩
def statV (c : DVmCount) : Value := .agg #[.int .i64 c.In, .int .i64 c.Out, .int .i64 c.Places, .int .i64 c.Free]
theorem statF_t {d : DVm} (h : VOk d) : statF d = ⟨(inN d.Pages : Nat), (d.Pages.length : Int) - (inN d.Pages : Nat), (placesOf d).length, d.Frames + d.Slots - (d.Pages.length : Int)⟩ := if_pos h
theorem statF_f {d : DVm} (h : ¬ VOk d) : statF d = ⟨0, 0, 0, 0⟩ := if_neg h
theorem c10 {sp ss so : Sl} {d : DVm} {w : World} (hd : VmAt w sp ss so d) : CallW Try.prog 10 #[.agg ⟨vmV d sp ss so⟩] w (fun v w' => v = statV (statF d) ∧ Ext w w') := by
  refine go10 ?_
  unfold W10
  have h := SH.start w
  have hl := hd.pages.len
  refine h.alloc (fun w1 h ew1 nw1 => ?_)
  refine h.alloc (fun w2 h ew2 nw2 => ?_)
  refine ⟨_, h.cell 1 rfl rfl, _, h.cell 1 rfl rfl, _, h.cell 1 rfl rfl, _, h.cell 1 rfl rfl, _, h.cell 1 rfl rfl, _, h.cell 1 rfl rfl, _, h.cell 1 rfl rfl, sp, h.cell 1 rfl rfl, ss, h.cell 1 rfl rfl, so, h.cell 1 rfl rfl, (c6 (hd.ext h.ext)).mono ?_⟩
  rintro _ w14 ⟨b, rfl, hb, e⟩
  have h := h.to e
  generalize w1.heap.size = rb at *
  refine ⟨_, rfl, BIf.of (fun hb0 => ?_) (fun hb0 => ?_)⟩
  · refine h.put 0 rfl rfl rfl (fun w16 h nw16 => ?_)
    refine ⟨_, h.cell 0 rfl rfl, _, h.cell 0 rfl rfl, _, h.cell 0 rfl rfl, _, h.cell 0 rfl rfl, ?_, h.ext⟩
    rw [statF_f (fun hv => by rw [hb.2 hv] at hb0; cases hb0)]; rfl
  have hv := hb.1 (by simpa using hb0)
  have hf := hv.few
  have hF := hv.hd.frames
  have hS := hv.hd.slots
  refine ⟨_, h.cell 1 rfl rfl, _, h.cell 1 rfl rfl, _, h.cell 1 rfl rfl, _, h.cell 1 rfl rfl, _, h.cell 1 rfl rfl, _, h.cell 1 rfl rfl, _, h.cell 1 rfl rfl, sp, h.cell 1 rfl rfl, ss, h.cell 1 rfl rfl, so, h.cell 1 rfl rfl, (c34 (hd.ext h.ext)).mono ?_⟩
  rintro _ w32 ⟨t, rfl, g⟩
  have h := h.seq g
  have htl : t.len = (placesOf d).length := by rw [h.len 0 rfl, nums_len]
  refine ⟨t, rfl, ?_⟩
  have h := h.drop
  refine h.alloc (fun w34 h ew34 nw34 => ?_)
  refine h.put 0 rfl rfl rfl (fun w35 h nw35 => ?_)
  generalize w32.heap.size = cb at *
  rw [htl] at h
  refine LoopW.m1 (fun (i : Int) w' => ∃ k : Nat, i = k ∧ k ≤ d.Pages.length ∧ SH w w' [aB cb ([Value.int .i64 (inN (d.Pages.take k) : Nat), .int .i64 ((k : Int) - (inN (d.Pages.take k) : Nat)), .int .i64 ((placesOf d).length : Nat), .int .i64 0].map Ce.v), aB rb ([Value.int .i64 0, .int .i64 0, .int .i64 0, .int .i64 0].map Ce.v), aB w.heap.size ((vmV d sp ss so).map Ce.v)]) (fun (i : Int) _ => ((d.Pages.length : Int) - i).toNat) ⟨0, rfl, by omega, h⟩ ?_
  rintro (i : Int) w38 ⟨k, rfl, hk, h⟩ J hJ
  refine ⟨sp, h.cell 2 rfl rfl, ?_⟩
  rw [hl]
  refine BIf.dec (fun hlt => ?_) (fun hge => ?_)
  · obtain ⟨x, hx⟩ : ∃ x, d.Pages[k]? = some x := ⟨_, List.getElem?_eq_getElem (by omega)⟩
    obtain ⟨q, hq, td, p0, p1, p2, p3, p4, hby⟩ := (hd.ext h.ext).pages.get k x hx
    refine ⟨sp, h.cell 2 rfl rfl, by omega, by rw [hl]; omega, q, hq, _, p1, ?_⟩
    have hin := inN_snoc hx
    have hle := inN_le (d.Pages.take k)
    rw [List.length_take] at hle
    have hk1 : IntKind.wrap .i64 ((k : Int) + 1) = (k : Int) + 1 := Go.Den.w64 (by omega) (by omega)
    refine BIf.dec (fun hp => ?_) (fun hp => ?_)
    · rw [if_pos hp] at hin
      refine ⟨_, h.cell 0 rfl rfl, h.setV 0 rfl rfl (fun w44 h nw44 => ?_)⟩
      rw [hk1]
      refine hJ _ _ ⟨k + 1, by omega, by omega, ?_⟩ (by omega)
      rw [Go.Den.w64 (by omega) (by omega)] at h
      rw [hin, show ((k + 1 : Nat) : Int) - ((inN (d.Pages.take k) + 1 : Nat) : Int) = (k : Int) - (inN (d.Pages.take k) : Nat) by omega, show ((inN (d.Pages.take k) + 1 : Nat) : Int) = ((inN (d.Pages.take k) : Nat) : Int) + 1 by omega]
      exact h
    · rw [if_neg hp] at hin
      refine ⟨_, h.cell 0 rfl rfl, h.setV 0 rfl rfl (fun w44 h nw44 => ?_)⟩
      rw [hk1]
      refine hJ _ _ ⟨k + 1, by omega, by omega, ?_⟩ (by omega)
      rw [Go.Den.w64 (by omega) (by omega)] at h
      rw [hin, show ((k + 1 : Nat) : Int) - ((inN (d.Pages.take k) + 0 : Nat) : Int) = (k : Int) - (inN (d.Pages.take k) : Nat) + 1 by omega]
      exact h
  · have hkt : d.Pages.take k = d.Pages := List.take_of_length_le (by omega)
    have hkl : k = d.Pages.length := by omega
    subst hkl
    rw [hkt] at h
    have hle := inN_le d.Pages
    refine ⟨_, h.cell 2 rfl rfl, _, h.cell 2 rfl rfl, _, h.cell 0 rfl rfl, _, h.cell 0 rfl rfl, h.setV 0 rfl rfl (fun w51 h nw51 => ?_)⟩
    refine ⟨_, h.cell 0 rfl rfl, _, h.cell 0 rfl rfl, _, h.cell 0 rfl rfl, _, h.cell 0 rfl rfl, ?_⟩
    refine h.put 1 rfl rfl rfl (fun w56 h nw56 => ?_)
    refine ⟨_, h.cell 1 rfl rfl, _, h.cell 1 rfl rfl, _, h.cell 1 rfl rfl, _, h.cell 1 rfl rfl, ?_, h.ext⟩
    rw [statF_t hv, Go.Den.w64 (n := d.Frames + d.Slots) (by omega) (by omega), Go.Den.w64 (n := d.Frames + d.Slots - _) (by omega) (by omega), Go.Den.w64 (by omega) (by omega)]
    unfold statV
    rw [show d.Frames + d.Slots - ((inN d.Pages : Nat) : Int) - ((d.Pages.length : Int) - ((inN d.Pages : Nat) : Int)) = d.Frames + d.Slots - (d.Pages.length : Int) by omega]
theorem c11 {sp ss so : Sl} {d : DVm} {w : World} (hd : VmAt w sp ss so d) : CallW Try.prog 11 #[.agg ⟨vmV d sp ss so⟩] w (fun v w' => v = statV (statF d) ∧ Ext w w') := by
  refine go11 ?_
  unfold W11
  have h := SH.start w
  have hl := hd.pages.len
  refine h.alloc (fun w1 h ew1 nw1 => ?_)
  refine h.alloc (fun w2 h ew2 nw2 => ?_)
  refine ⟨_, h.cell 1 rfl rfl, _, h.cell 1 rfl rfl, _, h.cell 1 rfl rfl, _, h.cell 1 rfl rfl, _, h.cell 1 rfl rfl, _, h.cell 1 rfl rfl, _, h.cell 1 rfl rfl, sp, h.cell 1 rfl rfl, ss, h.cell 1 rfl rfl, so, h.cell 1 rfl rfl, (c8 (hd.ext h.ext)).mono ?_⟩
  rintro _ w14 ⟨b, rfl, hb, e⟩
  have h := h.to e
  generalize w1.heap.size = rb at *
  refine ⟨_, rfl, BIf.of (fun hb0 => ?_) (fun hb0 => ?_)⟩
  · refine h.put 0 rfl rfl rfl (fun w16 h nw16 => ?_)
    refine ⟨_, h.cell 0 rfl rfl, _, h.cell 0 rfl rfl, _, h.cell 0 rfl rfl, _, h.cell 0 rfl rfl, ?_, h.ext⟩
    rw [statF_f (fun hv => by rw [hb.2 hv] at hb0; cases hb0)]; rfl
  have hv := hb.1 (by simpa using hb0)
  have hf := hv.few
  have hF := hv.hd.frames
  have hS := hv.hd.slots
  have hflat := held_flat hv.sps
  have hfree : IntKind.wrap .i64 (IntKind.wrap .i64 (d.Frames + d.Slots) - ((sp.len : Nat) : Int)) = d.Frames + d.Slots - (d.Pages.length : Int) := by
    rw [hl, Go.Den.w64 (n := d.Frames + d.Slots) (by omega) (by omega), Go.Den.w64 (by omega) (by omega)]
  have h := h.drew
  generalize w14.drew = w15 at *
  refine JoinW.cut1 (fun (p : Option Addr) w' => ∃ cb, p = some ⟨cb, 0, none⟩ ∧ SH w w' [aB cb ([Value.int .i64 0, .int .i64 0, .int .i64 ((placesOf d).length : Nat), .int .i64 (d.Frames + d.Slots - (d.Pages.length : Int))].map Ce.v), aB rb ([Value.int .i64 0, .int .i64 0, .int .i64 0, .int .i64 0].map Ce.v), aB w.heap.size ((vmV d sp ss so).map Ce.v)]) ?_ ?_
  · refine ⟨_, h.cell 1 rfl rfl, _, h.cell 1 rfl rfl, sp, h.cell 1 rfl rfl, ?_, ?_, trivial⟩
    · refine (c30 (SH.vmP h 1 rfl (hd.ext h.ext))).mono ?_
      rintro _ w70 ⟨rfl, e⟩
      have h := h.to e
      refine ⟨_, rfl, rfl, ⟨sp, h.cell 1 rfl rfl, rfl⟩, ⟨_, h.cell 1 rfl rfl, rfl⟩, ⟨_, h.cell 1 rfl rfl, rfl⟩, ?_, trivial⟩
      refine h.alloc (fun w75 h ew75 nw75 => ?_)
      refine ⟨rfl, ⟨sp, h.cell 2 rfl rfl, rfl⟩, ⟨_, h.cell 2 rfl rfl, rfl⟩, ⟨_, h.cell 2 rfl rfl, rfl⟩, ?_, trivial⟩
      refine h.put 0 rfl rfl rfl (fun w79 h nw79 => ?_)
      rw [hfree, hflat] at h
      exact ⟨_, rfl, h⟩
    · refine h.alloc (fun w75 h ew75 nw75 => ?_)
      refine ⟨rfl, ⟨sp, h.cell 2 rfl rfl, rfl⟩, ⟨_, h.cell 2 rfl rfl, rfl⟩, ⟨_, h.cell 2 rfl rfl, rfl⟩, ?_, trivial⟩
      refine (c30 (SH.vmP h 2 rfl (hd.ext h.ext))).mono ?_
      rintro _ w70 ⟨rfl, e⟩
      have h := h.to e
      refine ⟨_, rfl, rfl, ⟨sp, h.cell 2 rfl rfl, rfl⟩, ⟨_, h.cell 2 rfl rfl, rfl⟩, ⟨_, h.cell 2 rfl rfl, rfl⟩, ?_, trivial⟩
      refine h.put 0 rfl rfl rfl (fun w79 h nw79 => ?_)
      rw [hfree, hflat] at h
      exact ⟨_, rfl, h⟩
  rintro (p : Option Addr) w23 ⟨cb, rfl, h⟩
  refine ⟨sp, h.cell 2 rfl rfl, ?_⟩
  rw [hl]
  simp only [addrOf, add_mk, Nat.zero_add]
  refine LoopW.m1 (fun (i : Int) w' => ∃ k : Nat, i = k ∧ k ≤ d.Pages.length ∧ SH w w' [aB cb ([Value.int .i64 (inN (d.Pages.take k) : Nat), .int .i64 ((k : Int) - (inN (d.Pages.take k) : Nat)), .int .i64 ((placesOf d).length : Nat), .int .i64 (d.Frames + d.Slots - (d.Pages.length : Int))].map Ce.v), aB rb ([Value.int .i64 0, .int .i64 0, .int .i64 0, .int .i64 0].map Ce.v), aB w.heap.size ((vmV d sp ss so).map Ce.v)]) (fun (i : Int) _ => ((d.Pages.length : Int) - i).toNat) ⟨0, rfl, by omega, h⟩ ?_
  rintro (i : Int) w27 ⟨k, rfl, hk, h⟩ J hJ
  refine BIf.dec (fun hlt => ?_) (fun hge => ?_)
  · obtain ⟨x, hx⟩ : ∃ x, d.Pages[k]? = some x := ⟨_, List.getElem?_eq_getElem (by omega)⟩
    obtain ⟨q, hq, td, p0, p1, p2, p3, p4, hby⟩ := (hd.ext h.ext).pages.get k x hx
    refine ⟨by omega, by omega, q, hq, _, p0, _, p1, _, p2, _, p3, td, p4, ?_⟩
    refine h.alloc (fun w34 h ew34 nw34 => ?_)
    refine h.put 0 rfl rfl rfl (fun w35 h nw35 => ?_)
    refine ⟨_, h.cell 0 rfl rfl, ?_⟩
    have hin := inN_snoc hx
    have hle := inN_le (d.Pages.take k)
    rw [List.length_take] at hle
    have hk1 : IntKind.wrap .i64 ((k : Int) + 1) = (k : Int) + 1 := Go.Den.w64 (by omega) (by omega)
    have h := h.drop
    refine BIf.dec (fun hp => ?_) (fun hp => ?_)
    · rw [if_pos hp] at hin
      refine ⟨_, h.cell 0 rfl rfl, h.setV 0 rfl rfl (fun w44 h nw44 => ?_)⟩
      rw [hk1]
      refine hJ _ _ ⟨k + 1, by omega, by omega, ?_⟩ (by omega)
      rw [Go.Den.w64 (by omega) (by omega)] at h
      rw [hin, show ((k + 1 : Nat) : Int) - ((inN (d.Pages.take k) + 1 : Nat) : Int) = (k : Int) - (inN (d.Pages.take k) : Nat) by omega, show ((inN (d.Pages.take k) + 1 : Nat) : Int) = ((inN (d.Pages.take k) : Nat) : Int) + 1 by omega]
      exact h
    · rw [if_neg hp] at hin
      refine ⟨_, h.cell 0 rfl rfl, h.setV 0 rfl rfl (fun w44 h nw44 => ?_)⟩
      rw [hk1]
      refine hJ _ _ ⟨k + 1, by omega, by omega, ?_⟩ (by omega)
      rw [Go.Den.w64 (by omega) (by omega)] at h
      rw [hin, show ((k + 1 : Nat) : Int) - ((inN (d.Pages.take k) + 0 : Nat) : Int) = (k : Int) - (inN (d.Pages.take k) : Nat) + 1 by omega]
      exact h
  · have hkt : d.Pages.take k = d.Pages := List.take_of_length_le (by omega)
    have hkl : k = d.Pages.length := by omega
    subst hkl
    rw [hkt] at h
    refine ⟨_, h.cell 0 rfl rfl, _, h.cell 0 rfl rfl, _, h.cell 0 rfl rfl, _, h.cell 0 rfl rfl, ?_⟩
    refine h.put 1 rfl rfl rfl (fun w56 h nw56 => ?_)
    refine ⟨_, h.cell 1 rfl rfl, _, h.cell 1 rfl rfl, _, h.cell 1 rfl rfl, _, h.cell 1 rfl rfl, ?_, h.ext⟩
    rw [statF_t hv]; rfl
theorem statF_bd (d : DVm) : (-1000 ≤ (statF d).In ∧ (statF d).In ≤ 1000) ∧ (-1000 ≤ (statF d).Out ∧ (statF d).Out ≤ 1000) ∧ (-1000 ≤ (statF d).Places ∧ (statF d).Places ≤ 1000) ∧ (-1000 ≤ (statF d).Free ∧ (statF d).Free ≤ 1000) := by
  by_cases hv : VOk d
  · rw [statF_t hv]
    have := hv.few
    have := hv.hd.frames
    have := hv.hd.slots
    have := hv.pgs.room
    have := inN_le d.Pages
    dsimp only
    omega
  · rw [statF_f hv]
    dsimp only
    omega
theorem statF_is (d : DVm) : ∀ w, IsD w (statF d).dat [.int .i64 (statF d).In, .int .i64 (statF d).Out, .int .i64 (statF d).Places, .int .i64 (statF d).Free] := fun w => by
  obtain ⟨h1, h2, h3, h4⟩ := statF_bd d
  exact isD_mkSt (isF_mk (isD_mkInt ⟨rfl, wf_i64 (by omega) (by omega)⟩) (isF_mk (isD_mkInt ⟨rfl, wf_i64 (by omega) (by omega)⟩) (isF_mk (isD_mkInt ⟨rfl, wf_i64 (by omega) (by omega)⟩) (isF_mk (isD_mkInt ⟨rfl, wf_i64 (by omega) (by omega)⟩) (isF_mk0 rfl)))))
theorem specVmStat {x : DVm} {w : World} {cs : List Value} (h : IsD w x.dat cs) (hs : x.dat.sz ≤ 1048576) : CallW Try.prog 10 #[.agg ⟨cs⟩] w (fun v w' => v = .agg #[.int .i64 (statF x).In, .int .i64 (statF x).Out, .int .i64 (statF x).Places, .int .i64 (statF x).Free] ∧ Ext w w') := by
  obtain ⟨sp, ss, so, rfl, hd⟩ := vm_of h hs
  exact c10 hd
theorem implVmStat {x : DVm} {w : World} {cs : List Value} (h : IsD w x.dat cs) (hs : x.dat.sz ≤ 1048576) : CallW Try.prog 11 #[.agg ⟨cs⟩] w (fun v w' => v = .agg #[.int .i64 (statF x).In, .int .i64 (statF x).Out, .int .i64 (statF x).Places, .int .i64 (statF x).Free] ∧ Ext w w') := by
  obtain ⟨sp, ss, so, rfl, hd⟩ := vm_of h hs
  exact c11 hd
end Go.Proofs.Ytagjjhfhfjdcaaa

/- The walk of a law: copies, both sides, comparisons; printed by a program. Conditions: none. -/
set_option linter.unusedVariables false
set_option linter.unusedSimpArgs false
set_option maxRecDepth 4000
namespace Go.Proofs.Ytagjjhfhfjdcaaa
open Go Go.Den
theorem goc4 {a0_0 : Int} {a0_1 : Int} {a0_2 : Int} {a0_3 : Int} {a0_4 : Int} {a0_5 : Int} {a0_6 : Int} {a0_7 : Sl} {a0_8 : Sl} {a0_9 : Sl} {w : World} {K : Value → World → Prop} (h : W4 a0_0 a0_1 a0_2 a0_3 a0_4 a0_5 a0_6 a0_7 a0_8 a0_9 w K) : Calls Try.prog 4 #[.agg #[.int .i64 a0_0, .int .i64 a0_1, .int .i64 a0_2, .int .i64 a0_3, .int .i64 a0_4, .int .i64 a0_5, .int .i64 a0_6, .slice a0_7.a a0_7.len a0_7.cap, .slice a0_8.a a0_8.len a0_8.cap, .slice a0_9.a a0_9.len a0_9.cap]] w (fun e w' => ∃ v, e = .returned v ∧ K v w') :=
 denFn_sound tt_ok mix Try.func4 (by kernel_rfl) (eq4 a0_0 a0_1 a0_2 a0_3 a0_4 a0_5 a0_6 a0_7 a0_8 a0_9 w K ▸ h)
set_option maxHeartbeats 8000000 in
theorem walk4 {w : World} {x : DVm} {cs0 : List Value} (h0 : IsD w (x.dat) cs0) : Calls Try.prog 4 #[.agg ⟨cs0⟩] w (fun e w' => ∃ v, e = .returned v ∧ (v = .bool true ∧ Ext w w')) := by
 obtain ⟨p0_7, p0_8, p0_9, rfl, _, _, _, _, _, _, _, _, _, _⟩ := cells_Vm h0
 refine goc4 ?_
 unfold W4
 refine alloc_step (fun w1 ew1 hbw1 nw1 => ?_)
 have e := ew1
 have zw1 := ew1.size
 refine ⟨_, hbw1.cell 0, ?_⟩
 refine ⟨_, hbw1.cell 1, ?_⟩
 refine ⟨_, hbw1.cell 2, ?_⟩
 refine ⟨_, hbw1.cell 3, ?_⟩
 refine ⟨_, hbw1.cell 4, ?_⟩
 refine ⟨_, hbw1.cell 5, ?_⟩
 refine ⟨_, hbw1.cell 6, ?_⟩
 refine ⟨p0_7, hbw1.cell 7, ?_⟩
 refine ⟨p0_8, hbw1.cell 8, ?_⟩
 refine ⟨p0_9, hbw1.cell 9, ?_⟩
 refine (c5 (DVm.has _) (IsD.ext e _ _ h0) (by omega) (by omega)).mono ?_
 rintro _ w13 ⟨⟨rw13, rfl, hrw13⟩, ew13⟩
 have hbw1 := hbw1.ext ew13
 have e := Only.trans e ew13
 have zw13 := ew13.size
 refine ⟨_, rfl, ?_⟩
 refine BIf.dec (fun hn => ⟨rfl, e⟩) (fun hpw13 => ?_)
 have sz0 : (x.dat).sz ≤ 1048576 := by omega
 refine ⟨_, hbw1.cell 0, ?_⟩
 refine ⟨_, hbw1.cell 1, ?_⟩
 refine ⟨_, hbw1.cell 2, ?_⟩
 refine ⟨_, hbw1.cell 3, ?_⟩
 refine ⟨_, hbw1.cell 4, ?_⟩
 refine ⟨_, hbw1.cell 5, ?_⟩
 refine ⟨_, hbw1.cell 6, ?_⟩
 refine ⟨p0_7, hbw1.cell 7, ?_⟩
 refine ⟨p0_8, hbw1.cell 8, ?_⟩
 refine ⟨p0_9, hbw1.cell 9, ?_⟩
 refine (c7 (DVm.has _) (IsD.ext e _ _ h0) (by have := sz0; omega)).mono ?_
 rintro _ w26 ⟨yw26, rfl, fw26, ew26⟩
 have hbw1 := hbw1.ext ew26
 have e := Only.trans e ew26
 have zw26 := ew26.size
 have hiyw26 := fw26.is
 obtain ⟨ryw26_7, ryw26_8, ryw26_9, rfl, _, _, _, _, _, _, _, _, _, _⟩ := cells_Vm hiyw26
 refine ⟨_, _, _, _, _, _, _, ryw26_7, ryw26_8, ryw26_9, rfl, ?_⟩
 refine (specVmStat fw26.is sz0).mono ?_
 rintro _ w38 ⟨rfl, ew38⟩
 have hbw1 := hbw1.ext ew38
 have fw26 := fw26.ext ew38
 have e := Only.trans e ew38
 have zw38 := ew38.size
 refine ⟨_, _, _, _, rfl, ?_⟩
 refine alloc_step (fun w43 ew43 hbw43 nw43 => ?_)
 have hbw1 := hbw1.ext ew43
 have fw26 := fw26.ext ew43
 have e := Only.trans e ew43
 have zw43 := ew43.size
 refine put_step hbw43 rfl rfl (fun w44 ow44 hbw43q nw44 => ?_)
 have hbw1 := hbw1.only ow44 (by omega)
 have fw26 := fw26.only ow44 (fun k h1 h2 => by omega)
 have e := Ext.own e ow44 (fun k hk => by omega)
 have hbw43 := hbw43q
 refine ⟨_, hbw1.cell 0, ?_⟩
 refine ⟨_, hbw1.cell 1, ?_⟩
 refine ⟨_, hbw1.cell 2, ?_⟩
 refine ⟨_, hbw1.cell 3, ?_⟩
 refine ⟨_, hbw1.cell 4, ?_⟩
 refine ⟨_, hbw1.cell 5, ?_⟩
 refine ⟨_, hbw1.cell 6, ?_⟩
 refine ⟨p0_7, hbw1.cell 7, ?_⟩
 refine ⟨p0_8, hbw1.cell 8, ?_⟩
 refine ⟨p0_9, hbw1.cell 9, ?_⟩
 refine (c7 (DVm.has _) (IsD.ext e _ _ h0) (by have := sz0; omega)).mono ?_
 rintro _ w56 ⟨yw56, rfl, fw56, ew56⟩
 have hbw1 := hbw1.ext ew56
 have hbw43 := hbw43.ext ew56
 have fw26 := fw26.ext ew56
 have e := Only.trans e ew56
 have zw56 := ew56.size
 have hiyw56 := fw56.is
 obtain ⟨ryw56_7, ryw56_8, ryw56_9, rfl, _, _, _, _, _, _, _, _, _, _⟩ := cells_Vm hiyw56
 refine ⟨_, _, _, _, _, _, _, ryw56_7, ryw56_8, ryw56_9, rfl, ?_⟩
 refine alloc_step (fun w67 ew67 hbw67 nw67 => ?_)
 have hbw1 := hbw1.ext ew67
 have hbw43 := hbw43.ext ew67
 have fw26 := fw26.ext ew67
 have fw56 := fw56.ext ew67
 have e := Only.trans e ew67
 have zw67 := ew67.size
 refine put_step hbw67 rfl rfl (fun w68 ow68 hbw67q nw68 => ?_)
 have hbw1 := hbw1.only ow68 (by omega)
 have hbw43 := hbw43.only ow68 (by omega)
 have fw26 := fw26.only ow68 (fun k h1 h2 => by omega)
 have fw56 := fw56.only ow68 (fun k h1 h2 => by omega)
 have e := Ext.own e ow68 (fun k hk => by omega)
 have hbw67 := hbw67q
 refine ⟨_, hbw67.cell 0, ?_⟩
 refine ⟨_, hbw67.cell 1, ?_⟩
 refine ⟨_, hbw67.cell 2, ?_⟩
 refine ⟨_, hbw67.cell 3, ?_⟩
 refine ⟨_, hbw67.cell 4, ?_⟩
 refine ⟨_, hbw67.cell 5, ?_⟩
 refine ⟨_, hbw67.cell 6, ?_⟩
 refine ⟨ryw56_7, hbw67.cell 7, ?_⟩
 refine ⟨ryw56_8, hbw67.cell 8, ?_⟩
 refine ⟨ryw56_9, hbw67.cell 9, ?_⟩
 refine (implVmStat fw56.is sz0).mono ?_
 rintro _ w80 ⟨rfl, ew80⟩
 have hbw1 := hbw1.ext ew80
 have hbw43 := hbw43.ext ew80
 have hbw67 := hbw67.ext ew80
 have fw26 := fw26.ext ew80
 have fw56 := fw56.ext ew80
 have e := Only.trans e ew80
 have zw80 := ew80.size
 refine ⟨_, _, _, _, rfl, ?_⟩
 refine alloc_step (fun w85 ew85 hbw85 nw85 => ?_)
 have hbw1 := hbw1.ext ew85
 have hbw43 := hbw43.ext ew85
 have hbw67 := hbw67.ext ew85
 have fw26 := fw26.ext ew85
 have fw56 := fw56.ext ew85
 have e := Only.trans e ew85
 have zw85 := ew85.size
 refine put_step hbw85 rfl rfl (fun w86 ow86 hbw85q nw86 => ?_)
 have hbw1 := hbw1.only ow86 (by omega)
 have hbw43 := hbw43.only ow86 (by omega)
 have hbw67 := hbw67.only ow86 (by omega)
 have fw26 := fw26.only ow86 (fun k h1 h2 => by omega)
 have fw56 := fw56.only ow86 (fun k h1 h2 => by omega)
 have e := Ext.own e ow86 (fun k hk => by omega)
 have hbw85 := hbw85q
 refine ⟨_, hbw85.cell 0, ?_⟩
 refine ⟨_, hbw85.cell 1, ?_⟩
 refine ⟨_, hbw85.cell 2, ?_⟩
 refine ⟨_, hbw85.cell 3, ?_⟩
 refine ⟨_, hbw43.cell 0, ?_⟩
 refine ⟨_, hbw43.cell 1, ?_⟩
 refine ⟨_, hbw43.cell 2, ?_⟩
 refine ⟨_, hbw43.cell 3, ?_⟩
 refine (c12 (DVmCount.has _) ((statF_is x) _) ((statF_is x) _)).mono ?_
 rintro _ w96 ⟨rfl, ew96⟩
 have hbw1 := hbw1.ext ew96
 have hbw43 := hbw43.ext ew96
 have hbw67 := hbw67.ext ew96
 have hbw85 := hbw85.ext ew96
 have fw26 := fw26.ext ew96
 have fw56 := fw56.ext ew96
 have e := Only.trans e ew96
 have zw96 := ew96.size
 refine ⟨_, rfl, ?_⟩
 refine BIf.f rfl ?_
 have ed := ext_drew w96
 have hbw1 := hbw1.ext ed
 have hbw43 := hbw43.ext ed
 have hbw67 := hbw67.ext ed
 have hbw85 := hbw85.ext ed
 have fw26 := fw26.ext ed
 have fw56 := fw56.ext ed
 have e := Only.trans e ed
 have zw96_drew := ed.size
 refine ⟨_, hbw67.cell 0, ?_⟩
 refine ⟨_, hbw67.cell 1, ?_⟩
 refine ⟨_, hbw67.cell 2, ?_⟩
 refine ⟨_, hbw67.cell 3, ?_⟩
 refine ⟨_, hbw67.cell 4, ?_⟩
 refine ⟨_, hbw67.cell 5, ?_⟩
 refine ⟨_, hbw67.cell 6, ?_⟩
 refine ⟨ryw56_7, hbw67.cell 7, ?_⟩
 refine ⟨ryw56_8, hbw67.cell 8, ?_⟩
 refine ⟨ryw56_9, hbw67.cell 9, ?_⟩
 refine ⟨_, hbw1.cell 0, ?_⟩
 refine ⟨_, hbw1.cell 1, ?_⟩
 refine ⟨_, hbw1.cell 2, ?_⟩
 refine ⟨_, hbw1.cell 3, ?_⟩
 refine ⟨_, hbw1.cell 4, ?_⟩
 refine ⟨_, hbw1.cell 5, ?_⟩
 refine ⟨_, hbw1.cell 6, ?_⟩
 refine ⟨p0_7, hbw1.cell 7, ?_⟩
 refine ⟨p0_8, hbw1.cell 8, ?_⟩
 refine ⟨p0_9, hbw1.cell 9, ?_⟩
 refine (c7 (DVm.has _) (IsD.ext e _ _ h0) (by have := sz0; omega)).mono ?_
 rintro _ w119 ⟨yw119, rfl, fw119, ew119⟩
 have hbw1 := hbw1.ext ew119
 have hbw43 := hbw43.ext ew119
 have hbw67 := hbw67.ext ew119
 have hbw85 := hbw85.ext ew119
 have fw26 := fw26.ext ew119
 have fw56 := fw56.ext ew119
 have e := Only.trans e ew119
 have zw119 := ew119.size
 have hiyw119 := fw119.is
 obtain ⟨ryw119_7, ryw119_8, ryw119_9, rfl, _, _, _, _, _, _, _, _, _, _⟩ := cells_Vm hiyw119
 refine ⟨_, _, _, _, _, _, _, ryw119_7, ryw119_8, ryw119_9, rfl, ?_⟩
 refine ⟨⟨_, hbw67.cell 0, _, hbw67.cell 1, _, hbw67.cell 2, _, hbw67.cell 3, _, hbw67.cell 4, _, hbw67.cell 5, _, hbw67.cell 6, ryw56_7, hbw67.cell 7, ryw56_8, hbw67.cell 8, ryw56_9, hbw67.cell 9, rfl⟩, ?_⟩
 refine (c9 (DVm.has _) fw56.is fw119.is).mono ?_
 rintro _ w141 ⟨rfl, ew141⟩
 have hbw1 := hbw1.ext ew141
 have hbw43 := hbw43.ext ew141
 have hbw67 := hbw67.ext ew141
 have hbw85 := hbw85.ext ew141
 have fw26 := fw26.ext ew141
 have fw56 := fw56.ext ew141
 have fw119 := fw119.ext ew141
 have e := Only.trans e ew141
 have zw141 := ew141.size
 refine ⟨_, rfl, ?_⟩
 refine BIf.f rfl ?_
 exact ⟨by trivial, e⟩
open Go.RowKit in
theorem law_calls4 {w : World} {c0 : Array Value} {x : DVm} (h0 : cDVm.is w c0.toList x) : Calls Try.prog 4 #[.agg c0] w (fun e w' => e = .returned (.bool true) ∧ Below w.heap.size w w') :=
 (walk4 (cDVm_dat h0)).mono (by rintro e w' ⟨v, rfl, rfl, he⟩; exact ⟨rfl, he.below⟩)
end Go.Proofs.Ytagjjhfhfjdcaaa

/- The row of the law FnExactVmStat: what its walk shows is what the statement says. Conditions: none. -/
namespace Go.Proofs.Ytagjjhfhfjdcaaa.fnExactVmStat
open Go.ChangeShapes Go.WideShapes Go.ChangeAt Go.RowKit
open Go.ChangeMaps (open_string shut_string)
set_option linter.unusedVariables false
theorem own : ownKnob Try.prog.godebug = none := by kernel_rfl
theorem laidOut : laidOutB Try.prog = true := by kernel_rfl
set_option maxRecDepth 100000 in
theorem lifted (os : Os) (started : os.Started) (H : Type) (enc : TypeId × Value → H) :
    ReturnsInHanded {} Try.checked os 4 .any (Rows.fnExactVmStatSpec.pre6 enc Try.prog Try.f4 Rows.fnExactVmStatRow.domain false) (Rows.fnExactVmStatSpec.post enc Try.prog Try.f4 false true false false) := by
  refine returnsInHanded_of_change_sized (C := Try.checked) own started (by kernel_rfl) Try.func4
    (ChangeSpec.witness6 (enc := enc) (C := Try.checked) false ⟨#[], #[.agg #[.int .i64 0, .int .i64 0, .int .i64 0, .int .i64 0, .int .i64 0, .int .i64 0, .int .i64 0, .slice none 0 0, .slice none 0 0, .slice none 0 0]], []⟩ 8 (by kernel_rfl) (by kernel_rfl) (by kernel_rfl) (by kernel_rfl)) ?_
  intro W base args ds gs before hval0 hW hcnd hsz0 _
  have hsz : (DataW.weightsEach Try.prog (Try.f4.params.toList ++ Rows.fnExactVmStatSpec.plain.varTypes Try.prog) (ds ++ gs)).all (· ≤ reachBytes) = true := hsz0
  have hval : ∀ (j : Nat) t v, Try.f4.params[j]? = some t → args[j]? = some v → Value.okWide Try.prog W .any base t v := hval0
  have hW' := hW
  obtain ⟨p, q, hA0, hV, rfl, hfz, hnd⟩ := hW
  have hA : DataW.TrodAll enc Try.prog W 0 (fun _ => true) true Try.f4.params.toList args.toList ds p := hA0
  rw [Try.params4] at hA hval hsz
  obtain ⟨v0, vs0, d0, ds0, p0, q0, hargs, rfl, rfl, h0, r0⟩ := trodAll_cons hA
  obtain ⟨rfl, rfl, rfl⟩ := trodAll_nil r0
  obtain rfl : args = #[v0] := by cases args; simp_all
  obtain ⟨rfl, rfl⟩ := trodVars_none hV
  have k0 := h0
  have lt0 : ∀ x ∈ p0, x.block < W.heap.size := by obtain ⟨m, hm⟩ := k0; exact DataW.trod_lt m _ _ _ hm
  obtain ⟨c0, rfl⟩ : ∃ cs, v0 = .agg cs := by have hv := (hval 0 26 v0 rfl rfl); unfold Value.okWide at hv; rw [Try.underlying26] at hv; exact ⟨hv.choose, hv.choose_spec.1⟩
  obtain ⟨x0, w0⟩ : ∃ x, (cDVm).is W c0.toList x := by obtain ⟨fuel, hf⟩ := h0; exact ((o26).at_ enc W fuel _ _ hf).2
  clear hA0 hval0 hsz0 hsz
  refine (law_calls4 w0).mono fun e W' ⟨he, bel⟩ => ?_
  subst he
  exact ⟨_, rfl, _, _, _, [], _, [], hW', trodAll_mk1 (shut_bool Try.underlying4 _), (trodAll_cons_mk (Below.trod laidOut (by kernel_rfl) (of_decide_eq_true (by kernel_rfl)) k0 bel lt0) trodAll_mk0), rfl, bel.frame _, fun h => by cases h⟩
theorem over : Rows.fnExactVmStatRow.holds Try.pinned (OpenSpec.ofChange Rows.fnExactVmStatSpec) :=
  OpenClaim.holds_of_wide 4 Try.f4 rfl rfl rfl rfl rfl rfl rfl ⟨rfl, rfl, rfl, rfl, rfl⟩ rfl rfl rfl rfl rfl (by kernel_rfl) Try.func4 (by kernel_rfl)
    (of_decide_eq_true (by kernel_rfl)) (by unfold Func.isWrapper; first | (rw [if_pos (by decide +kernel)]; kernel_rfl) | (rw [if_neg (by decide +kernel)]; exact ⟨rfl, rfl⟩))
    (fun os started H enc _ => lifted os started H enc)
theorem proved : Rows.FnExactVmStatSaid := over
#print axioms proved
end Go.Proofs.Ytagjjhfhfjdcaaa.fnExactVmStat
namespace Go.Proofs.Ytagjjhfhfjdcaaa
/-- The row, under a short name, for the claim. -/
theorem fnExactVmStat_holds : Rows.FnExactVmStatSaid := fnExactVmStat.proved
end Go.Proofs.Ytagjjhfhfjdcaaa
