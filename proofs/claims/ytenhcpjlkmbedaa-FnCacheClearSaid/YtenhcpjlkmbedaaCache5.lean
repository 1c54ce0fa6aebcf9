/- Part 5 of 5: plain readings of code, rules for them, and a proof over them, joined by a program. Conditions: none. -/
import Derived.Test.YtenhcpjlkmbedaaCache4
import Derived.Test.YtenhcpjlkmbedaaRows
import Derived.WalkKit
import Derived.ProofKit
import Derived.OpenShut
import Derived.ShutString
import Derived.ChangeOld
import Derived.Below
import Derived.Carry
import Derived.SizedLaws
/- A cache in memory: the reference's step. Conditions: none. -/
set_option linter.unusedVariables false
set_option linter.unusedSimpArgs false
namespace Go.Proofs.Ytenhcpjlkmbedaa
open Go Go.Den Go.Cc
theorem line_no {c : Cache} {s : Int} (h : ixOf c.Lines s = none) : lineOf c s = none := by unfold lineOf; rw [h]
theorem line_is {c : Cache} {s : Int} {i : Nat} {l : Line} (h : ixOf c.Lines s = some i) (hl : c.Lines[i]? = some l) : lineOf c s = some (i, l) := by unfold lineOf; rw [h]; simp only [hl]
set_option maxRecDepth 8000 in
set_option maxHeartbeats 8000000 in
theorem s103 {w0 w : World} {F : List Asr} {n : Nat} {cap clock : Int} {td tl to : Sl} {disk : List Int} {ls : List RLine} {o : COp}
    (h : SH w0 w (KC td tl disk ls F)) (hok : Cc.Safe n (aC_ cap clock disk ls)) (hcap : cap ≤ 64) (hn : n ≤ 1024) (hck : clock ≤ 1000000) (hb : LentB w0 F to o.Data) :
    CallW Try.prog 103 #[cV cap clock td tl, .agg ⟨opV o to⟩] w (StepQ w0 F cap td (stepS n (aC_ cap clock disk ls) o)) := by
  refine go103 (a0_0 := cap) (a0_1 := clock) (a0_2 := td) (a0_3 := tl) (a1_0 := o.Kind) (a1_1 := o.Sector) (a1_2 := o.At) (a1_3 := o.N) (a1_4 := to) ?_
  unfold W103
  have hdl : disk.length = 128 * n := hok.disk
  have hfew : ((ls.map RLine.abs).length : Int) ≤ cap := hok.few
  rw [List.length_map] at hfew
  have hck0 : 0 ≤ clock := hok.clock
  have htd := h.len 0 rfl
  rw [nums_len] at htd
  refine h.alloc (fun w1 h e1 n1 => ?_)
  refine h.alloc (fun w2 h e2 n2 => ?_)
  refine h.alloc (fun w3 h e3 n3 => ?_)
  refine h.alloc (fun w4 h e4 n4 => ?_)
  generalize w.heap.size = cb at *
  generalize w1.heap.size = pb at *
  generalize w2.heap.size = ob at *
  generalize w3.heap.size = rb at *
  have h : SH w0 w4 (BR rb 0 N0 N0 :: BK ob 0 0 N0 N0 :: BO pb o to :: BK cb cap clock td tl :: rD td disk :: rL tl ls :: bL ls :: F) := h
  have h : SH w0 w4 (KC td tl disk ls (BR rb 0 N0 N0 :: BK ob 0 0 N0 N0 :: BO pb o to :: BK cb cap clock td tl :: F)) := (((h.front (n := 6) rfl).front (n := 6) rfl).front (n := 6) rfl)
  refine ⟨_, h.cell 5 rfl rfl, BIf.eq (fun k7 => ?_) (fun k7 => ?_)⟩
  · have hst : stepS n (aC_ cap clock disk ls) o = ((flK (aC_ cap clock disk ls) ls.length).1, ⟨0, [], (flK (aC_ cap clock disk ls) ls.length).2⟩) := by
      unfold stepS; rw [if_pos k7]
      unfold flushC flK aC_
      simp only [List.length_map]
    rw [hst]
    refine h.alloc (fun w6 h e6 n6 => ?_)
    have h := (SH.bagNil wrA h.drop).nil (some ⟨w4.heap.size, 0, none⟩) 2
    have hsf := safe_flush hok
    have hsf : ∀ k, Cc.Safe n (flK (aC_ cap clock disk ls) k).1 ∧ (flK (aC_ cap clock disk ls) k).1.Clock = clock := hsf
    refine LoopW.m2 (fun (l : Sl) (i : Int) w' => ∃ (k : Nat) (disk2 : List Int) (ls2 : List RLine) (ws : List RWr), i = k ∧ k ≤ ls.length ∧ ls2.length = ls.length ∧ aC_ cap clock disk2 ls2 = (flK (aC_ cap clock disk ls) k).1 ∧ ws.map RWr.abs = (flK (aC_ cap clock disk ls) k).2 ∧ ws.length ≤ k ∧ SH w0 w' (rW l ws :: bW ws :: KC td tl disk2 ls2 (BR rb 0 N0 N0 :: BK ob 0 0 N0 N0 :: BO pb o to :: BK cb cap clock td tl :: F))) (fun _ (i : Int) _ => (ls.length - i).toNat) ⟨0, disk, ls, [], rfl, by omega, rfl, rfl, rfl, by simp, h⟩ ?_
    clear h
    rintro (l : Sl) (i : Int) w10 ⟨k, disk2, ls2, ws, rfl, hk, hl2, e1, e2, hwl, h⟩ J hJ
    have hs2 := (hsf k).1
    rw [← e1] at hs2
    have hd2 : disk2.length = 128 * n := hs2.disk
    have htl := h.len 3 rfl
    rw [recs_len] at htl
    refine ⟨tl, h.cell 8 rfl rfl, BIf.dec (fun hlt => ?_) (fun hge => ?_)⟩
    · have hx : ls2[k]? = some ls2[k] := List.getElem?_eq_getElem (by omega)
      generalize ls2[k] = x at hx
      have hxo := hs2.ls _ (List.mem_of_getElem? (abs_at hx))
      have x0 : 0 ≤ x.Sector := hxo.s0
      have xn : x.Sector < n := hxo.sn
      have hsucc := flK_succ (aC_ cap clock disk ls) k
      have hget : (flK (aC_ cap clock disk ls) k).1.Lines[k]? = some x.abs := by rw [← e1]; exact abs_at hx
      unfold flush1 at hsucc
      rw [hget] at hsucc
      simp only at hsucc
      rw [← e1, ← e2] at hsucc
      rw [w64 (n := (k : Int) + 1) (by omega) (by omega)]
      refine ⟨_, h.cell 8 rfl rfl, _, h.cell 8 rfl rfl, td, h.cell 8 rfl rfl, tl, h.cell 8 rfl rfl, ?_⟩
      have h : SH w0 w10 (KC td tl disk2 ls2 (rW l ws :: bW ws :: BR rb 0 N0 N0 :: BK ob 0 0 N0 N0 :: BO pb o to :: BK cb cap clock td tl :: F)) := (((h.front (n := 4) rfl).front (n := 4) rfl).front (n := 4) rfl)
      refine (s150 h hx x0 (by omega) (by omega) hxo.len (by omega)).mono ?_
      generalize wrL (aC_ cap clock disk2 ls2) k x.abs = r at *
      rintro _ w17 ⟨t, wn, disk3, ls3, rfl, ht1, ew, ec, hl3, h⟩
      have htn := h.len 0 rfl
      rw [recs_len] at htn
      refine ⟨t, rfl, ?_⟩
      have h : SH w0 w17 (rW l ws :: rW t wn :: bW ws :: bW wn :: KC td tl disk3 ls3 (BR rb 0 N0 N0 :: BK ob 0 0 N0 N0 :: BO pb o to :: BK cb cap clock td tl :: F)) := (((h.front (n := 6) rfl).front (n := 1) rfl).front (n := 6) rfl)
      refine SH.appendR (f := RWr.cells) (us := wn) h (h.rowR 1 rfl) htn.symm (fun _ => rfl) rfl rfl (by decide) (by show (_ + _) * 32 ≤ _; omega) plain_wr (fun l19 w20 h hl19 _ => ?_)
      have h := SH.bagApp ((((h.dropAt 1).front (n := 2) rfl).front (n := 2) rfl))
      refine hJ _ _ _ ⟨k + 1, disk3, ls3, ws ++ wn, by omega, by omega, by omega, by rw [hsucc]; exact ec, by rw [hsucc, List.map_append, ew], by rw [List.length_append]; omega, h.p1⟩ (by omega)
    · have hke : k = ls.length := by omega
      subst hke
      refine ⟨_, h.cell 8 rfl rfl, _, h.cell 8 rfl rfl, td, h.cell 8 rfl rfl, tl, h.cell 8 rfl rfl, ?_⟩
      refine h.put 6 rfl rfl rfl (fun wp1 h np1 => ?_)
      refine h.put 5 rfl rfl rfl (fun wp2 h np2 => ?_)
      refine ⟨_, h.cell 6 rfl rfl, _, h.cell 6 rfl rfl, td, h.cell 6 rfl rfl, tl, h.cell 6 rfl rfl, _, h.cell 5 rfl rfl, N0, h.cell 5 rfl rfl, l, h.cell 5 rfl rfl, ?_⟩
      have h : SH w0 wp2 (rW l ws :: bW ws :: KC td tl disk2 ls2 (BR rb 0 N0 l :: BK ob cap clock td tl :: BO pb o to :: BK cb cap clock td tl :: F)) := h
      exact stq (r := (_, ⟨0, [], _⟩)) (tt := N0) e1 e2 (SH.nil (((((h.dropAt 8).dropAt 7).dropAt 6).dropAt 5)) none 1)
  refine ⟨_, h.cell 5 rfl rfl, ?_⟩
  refine JoinW.cut1 (fun (x : Bool) w' => x = decide (o.Kind < 1 ∨ 7 < o.Kind) ∧ w' = w4) (BIf.dec (fun h1 => ⟨(decide_eq_true (by omega)).symm, rfl⟩) (fun h1 => ⟨_, h.cell 5 rfl rfl, by rw [Bool.eq_iff_iff, decide_eq_true_iff, decide_eq_true_iff]; omega, rfl⟩)) ?_
  rintro (x : Bool) w37 ⟨rfl, rfl⟩
  refine JoinW.cut1 (fun (x : Bool) w' => (x = true ↔ (o.Kind < 1 ∨ 7 < o.Kind ∨ o.Sector < 0 ∨ (n : Int) ≤ o.Sector)) ∧ w' = w37) (BIf.dec (fun h1 => ⟨⟨(fun _ => by omega), (fun _ => rfl)⟩, rfl⟩) (fun h1 => ⟨td, h.cell 6 rfl rfl, _, h.cell 5 rfl rfl, (c87 htd (by omega)).mono ?_⟩)) ?_
  · rintro _ w9 ⟨rfl, rfl⟩
    refine ⟨_, rfl, ?_, by trivial⟩
    rw [hdl, show ((128 * n : Nat) : Int) / 128 = n by omega, Bool.not_eq_true', Bool.and_eq_false_iff, decide_eq_false_iff_not, decide_eq_false_iff_not]
    omega
  rintro (x : Bool) w40 ⟨hx, rfl⟩
  refine BIf.of (fun ht => ?_) (fun hf => ?_)
  · have hbad := hx.1 ht
    have hst : stepS n (aC_ cap clock disk ls) o = (aC_ cap clock disk ls, ⟨1, [], []⟩) := by unfold stepS; rw [if_neg k7, if_pos hbad]
    refine ⟨_, h.cell 6 rfl rfl, _, h.cell 6 rfl rfl, td, h.cell 6 rfl rfl, tl, h.cell 6 rfl rfl, (s151 h).mono ?_⟩
    rintro _ w18 ⟨rfl, h⟩
    refine ⟨_, _, td, tl, _, N0, N0, rfl, ?_⟩
    refine h.put 4 rfl rfl rfl (fun wp1 h np1 => ?_)
    refine h.put 3 rfl rfl rfl (fun wp2 h np2 => ?_)
    refine ⟨_, h.cell 4 rfl rfl, _, h.cell 4 rfl rfl, td, h.cell 4 rfl rfl, tl, h.cell 4 rfl rfl, _, h.cell 3 rfl rfl, N0, h.cell 3 rfl rfl, N0, h.cell 3 rfl rfl, ?_⟩
    exact stq0 hst (((((h.dropAt 6).dropAt 5).dropAt 4).dropAt 3))
  have hnb : ¬ (o.Kind < 1 ∨ 7 < o.Kind ∨ o.Sector < 0 ∨ (n : Int) ≤ o.Sector) := fun e => by rw [hx.2 e] at hf; cases hf
  refine ⟨_, h.cell 6 rfl rfl, _, h.cell 6 rfl rfl, td, h.cell 6 rfl rfl, tl, h.cell 6 rfl rfl, _, h.cell 5 rfl rfl, (s152 h 1 rfl (by omega)).mono ?_⟩
  rintro _ w69 ⟨rfl, h⟩
  refine ⟨_, rfl, _, h.cell 5 rfl rfl, ?_⟩
  have htl := h.len 1 rfl
  rw [recs_len] at htl
  have hcs : (ixOf (ls.map RLine.abs) o.Sector = none ∧ ixI (ls.map RLine.abs) o.Sector = -1) ∨ ∃ (i : Nat) (x : RLine), ixOf (ls.map RLine.abs) o.Sector = some i ∧ ixI (ls.map RLine.abs) o.Sector = i ∧ ls[i]? = some x := by
    cases hix : ixOf (ls.map RLine.abs) o.Sector with
    | none => exact .inl ⟨rfl, by unfold ixI; rw [hix]⟩
    | some i =>
      have hix2 : (ls.map RLine.abs).findIdx? (fun l => l.Sector == o.Sector) = some i := hix
      obtain ⟨hi, _, _⟩ := List.findIdx?_eq_some_iff_getElem.1 hix2
      rw [List.length_map] at hi
      exact .inr ⟨i, ls[i], rfl, by unfold ixI; rw [hix], List.getElem?_eq_getElem hi⟩
  refine BIf.eq (fun k4 => ?_) (fun k4 => BIf.eq (fun k5 => ?_) (fun k5 => BIf.eq (fun k6 => ?_) (fun k6 => ?_)))
  · have hs4 : stepS n (aC_ cap clock disk ls) o = (match lineOf (aC_ cap clock disk ls) o.Sector with
        | none => (aC_ cap clock disk ls, ⟨3, [], []⟩)
        | some (i, l) => if l.Pins = 0 then (aC_ cap clock disk ls, ⟨3, [], []⟩) else (pinL (aC_ cap clock disk ls) i l (l.Pins - 1), ⟨0, [], []⟩)) := by
      unfold stepS; rw [if_neg k7, if_neg hnb, if_pos k4] <;> rfl
    rcases hcs with ⟨hix, hixI⟩ | ⟨i, x, hix, hixI, hx⟩
    · rw [line_no hix] at hs4
      rw [hixI]
      refine JoinW.cut1 (fun (x : Bool) w' => x = true ∧ w' = w69) (BIf.t (by decide) ⟨rfl, rfl⟩) ?_
      rintro (x : Bool) w74 ⟨rfl, rfl⟩
      refine BIf.t rfl ⟨_, h.cell 6 rfl rfl, _, h.cell 6 rfl rfl, td, h.cell 6 rfl rfl, tl, h.cell 6 rfl rfl, (s151 h).mono ?_⟩
      rintro _ w18 ⟨rfl, h⟩
      refine ⟨_, _, td, tl, _, N0, N0, rfl, ?_⟩
      refine h.put 4 rfl rfl rfl (fun wp1 h np1 => ?_)
      refine h.put 3 rfl rfl rfl (fun wp2 h np2 => ?_)
      refine ⟨_, h.cell 4 rfl rfl, _, h.cell 4 rfl rfl, td, h.cell 4 rfl rfl, tl, h.cell 4 rfl rfl, _, h.cell 3 rfl rfl, N0, h.cell 3 rfl rfl, N0, h.cell 3 rfl rfl, ?_⟩
      exact stq0 hs4 (((((h.dropAt 6).dropAt 5).dropAt 4).dropAt 3))
    · rw [line_is (c := aC_ cap clock disk ls) hix (abs_at hx)] at hs4
      simp only at hs4
      rw [hixI]
      simp only [Int.toNat_natCast]
      have hi := (List.getElem?_eq_some_iff.1 hx).1
      obtain ⟨q, hq⟩ := h.rowQ 1 rfl hx
      refine JoinW.cut1 (fun (b : Bool) w' => b = (x.Pins == 0) ∧ w' = w69) (BIf.f (decide_eq_false (by omega)) ⟨tl, h.cell 6 rfl rfl, by omega, by omega, q, hq, _, h.rdR 1 rfl hq hx rfl, rfl, rfl⟩) ?_
      rintro (b : Bool) w74 ⟨rfl, rfl⟩
      refine BIf.eq (fun hp => ?_) (fun hp => ?_)
      · rw [if_pos (show x.abs.Pins = 0 from hp)] at hs4
        refine ⟨_, h.cell 6 rfl rfl, _, h.cell 6 rfl rfl, td, h.cell 6 rfl rfl, tl, h.cell 6 rfl rfl, (s151 h).mono ?_⟩
        rintro _ w18 ⟨rfl, h⟩
        refine ⟨_, _, td, tl, _, N0, N0, rfl, ?_⟩
        refine h.put 4 rfl rfl rfl (fun wp1 h np1 => ?_)
        refine h.put 3 rfl rfl rfl (fun wp2 h np2 => ?_)
        refine ⟨_, h.cell 4 rfl rfl, _, h.cell 4 rfl rfl, td, h.cell 4 rfl rfl, tl, h.cell 4 rfl rfl, _, h.cell 3 rfl rfl, N0, h.cell 3 rfl rfl, N0, h.cell 3 rfl rfl, ?_⟩
        exact stq0 hs4 (((((h.dropAt 6).dropAt 5).dropAt 4).dropAt 3))
      · rw [if_neg (show ¬ x.abs.Pins = 0 from hp)] at hs4
        have hxo := hok.ls _ (List.mem_of_getElem? (abs_at hx))
        have xp0 : 0 ≤ x.Pins := hxo.p0
        have xp8 : x.Pins ≤ clock := hxo.p8
        have h : SH w0 w74.drew (rD td disk :: rL tl (ls.set i x) :: bL ls :: BR rb 0 N0 N0 :: BK ob 0 0 N0 N0 :: BO pb o to :: BK cb cap clock td tl :: F) := by rw [set_id hx]; exact h.drew
        have hx2 : (ls.set i x)[i]? = some x := List.getElem?_set_self hi
        refine ⟨tl, h.cell 6 rfl rfl, tl, h.cell 6 rfl rfl, by omega, by omega, q, hq, _, h.rdR 1 rfl hq hx2 rfl, by omega, by omega, q, hq, ?_⟩
        rw [w64 (n := x.Pins - 1) (by omega) (by omega)]
        refine h.setR 1 (k := i) (x := x) (x.pinned (x.Pins - 1)) rfl hq hi (by show 3 < 5; decide) rfl (fun w102 h n102 => ?_)
        refine ⟨_, h.cell 6 rfl rfl, _, h.cell 6 rfl rfl, td, h.cell 6 rfl rfl, tl, h.cell 6 rfl rfl, ?_⟩
        refine h.put 4 rfl rfl rfl (fun wp1 h np1 => ?_)
        refine h.put 3 rfl rfl rfl (fun wp2 h np2 => ?_)
        refine ⟨_, h.cell 4 rfl rfl, _, h.cell 4 rfl rfl, td, h.cell 4 rfl rfl, tl, h.cell 4 rfl rfl, _, h.cell 3 rfl rfl, N0, h.cell 3 rfl rfl, N0, h.cell 3 rfl rfl, ?_⟩
        have h : SH w0 wp2 (rD td disk :: rL tl (ls.set i (x.pinned (x.Pins - 1))) :: bL ls :: BR rb 0 N0 N0 :: BK ob cap clock td tl :: BO pb o to :: BK cb cap clock td tl :: F) := h
        have h := SH.bagOut ((((((h.dropAt 6).dropAt 5).dropAt 4).dropAt 3).front (n := 2) rfl)) hx
        have h := SH.bagIn (f := lineA) (x := x) (y := x.pinned (x.Pins - 1)) hx h
        have e : pinL (aC_ cap clock disk ls) i x.abs (x.abs.Pins - 1) = aC_ cap clock disk (ls.set i (x.pinned (x.Pins - 1))) := by
          unfold pinL aC_
          simp only [List.map_set]; rfl
        rw [e] at hs4
        exact stq0 hs4 (((h.front (n := 2) rfl).front (n := 2) rfl))
  · have hs5 : stepS n (aC_ cap clock disk ls) o = (match lineOf (aC_ cap clock disk ls) o.Sector with
        | none => (aC_ cap clock disk ls, ⟨0, [], []⟩)
        | some (i, l) => ((wrL (aC_ cap clock disk ls) i l).1, ⟨0, [], (wrL (aC_ cap clock disk ls) i l).2⟩)) := by
      unfold stepS; rw [if_neg k7, if_neg hnb, if_neg k4, if_pos k5] <;> rfl
    rcases hcs with ⟨hix, hixI⟩ | ⟨i, x, hix, hixI, hx⟩
    · rw [line_no hix] at hs5
      rw [hixI]
      refine BIf.t (by decide) ⟨_, h.cell 6 rfl rfl, _, h.cell 6 rfl rfl, td, h.cell 6 rfl rfl, tl, h.cell 6 rfl rfl, ?_⟩
      refine h.put 4 rfl rfl rfl (fun wp1 h np1 => ?_)
      refine h.put 3 rfl rfl rfl (fun wp2 h np2 => ?_)
      refine ⟨_, h.cell 4 rfl rfl, _, h.cell 4 rfl rfl, td, h.cell 4 rfl rfl, tl, h.cell 4 rfl rfl, _, h.cell 3 rfl rfl, N0, h.cell 3 rfl rfl, N0, h.cell 3 rfl rfl, ?_⟩
      exact stq0 hs5 (((((h.dropAt 6).dropAt 5).dropAt 4).dropAt 3))
    · rw [line_is (c := aC_ cap clock disk ls) hix (abs_at hx)] at hs5
      simp only at hs5
      rw [hixI]
      have hxo := hok.ls _ (List.mem_of_getElem? (abs_at hx))
      have x0 : 0 ≤ x.Sector := hxo.s0
      have xn : x.Sector < n := hxo.sn
      refine BIf.f (decide_eq_false (by omega)) ⟨_, h.cell 6 rfl rfl, _, h.cell 6 rfl rfl, td, h.cell 6 rfl rfl, tl, h.cell 6 rfl rfl, ?_⟩
      refine (s150 h hx x0 (by omega) (by omega) hxo.len (by omega)).mono ?_
      generalize wrL (aC_ cap clock disk ls) i x.abs = r at *
      rintro _ w137 ⟨t, wn, disk3, ls3, rfl, ht1, ew, ec, hl3, h⟩
      refine ⟨t, rfl, _, h.cell 8 rfl rfl, _, h.cell 8 rfl rfl, td, h.cell 8 rfl rfl, tl, h.cell 8 rfl rfl, ?_⟩
      refine h.put 6 rfl rfl rfl (fun wp1 h np1 => ?_)
      refine h.put 5 rfl rfl rfl (fun wp2 h np2 => ?_)
      refine ⟨_, h.cell 6 rfl rfl, _, h.cell 6 rfl rfl, td, h.cell 6 rfl rfl, tl, h.cell 6 rfl rfl, _, h.cell 5 rfl rfl, N0, h.cell 5 rfl rfl, t, h.cell 5 rfl rfl, ?_⟩
      rw [hs5]
      exact stq (r := (r.1, ⟨0, [], r.2⟩)) (tt := N0) ec ew (SH.nil (((((h.dropAt 8).dropAt 7).dropAt 6).dropAt 5)) none 1)
  · have hs6 : stepS n (aC_ cap clock disk ls) o = (match lineOf (aC_ cap clock disk ls) o.Sector with
        | none => (aC_ cap clock disk ls, ⟨0, [], []⟩)
        | some (i, l) => if 0 < l.Pins then (aC_ cap clock disk ls, ⟨21, [], []⟩) else (cutL (aC_ cap clock disk ls) i, ⟨0, [], []⟩)) := by
      unfold stepS; rw [if_neg k7, if_neg hnb, if_neg k4, if_neg k5, if_pos k6] <;> rfl
    rcases hcs with ⟨hix, hixI⟩ | ⟨i, x, hix, hixI, hx⟩
    · rw [line_no hix] at hs6
      rw [hixI]
      refine BIf.t (by decide) ⟨_, h.cell 6 rfl rfl, _, h.cell 6 rfl rfl, td, h.cell 6 rfl rfl, tl, h.cell 6 rfl rfl, ?_⟩
      refine h.put 4 rfl rfl rfl (fun wp1 h np1 => ?_)
      refine h.put 3 rfl rfl rfl (fun wp2 h np2 => ?_)
      refine ⟨_, h.cell 4 rfl rfl, _, h.cell 4 rfl rfl, td, h.cell 4 rfl rfl, tl, h.cell 4 rfl rfl, _, h.cell 3 rfl rfl, N0, h.cell 3 rfl rfl, N0, h.cell 3 rfl rfl, ?_⟩
      exact stq0 hs6 (((((h.dropAt 6).dropAt 5).dropAt 4).dropAt 3))
    · rw [line_is (c := aC_ cap clock disk ls) hix (abs_at hx)] at hs6
      simp only at hs6
      rw [hixI]
      have hi := (List.getElem?_eq_some_iff.1 hx).1
      obtain ⟨q, hq⟩ := h.rowQ 1 rfl hx
      refine BIf.f (decide_eq_false (by omega)) ⟨tl, h.cell 6 rfl rfl, by omega, by omega, q, hq, _, by rw [Int.toNat_natCast]; exact h.rdR 1 rfl hq hx rfl, ?_⟩
      refine BIf.dec (fun hp => ?_) (fun hp => ?_)
      · rw [if_pos (show 0 < x.abs.Pins from hp)] at hs6
        refine ⟨_, h.cell 6 rfl rfl, _, h.cell 6 rfl rfl, td, h.cell 6 rfl rfl, tl, h.cell 6 rfl rfl, (s151 h).mono ?_⟩
        rintro _ w18 ⟨rfl, h⟩
        refine ⟨_, _, td, tl, _, N0, N0, rfl, ?_⟩
        refine h.put 4 rfl rfl rfl (fun wp1 h np1 => ?_)
        refine h.put 3 rfl rfl rfl (fun wp2 h np2 => ?_)
        refine ⟨_, h.cell 4 rfl rfl, _, h.cell 4 rfl rfl, td, h.cell 4 rfl rfl, tl, h.cell 4 rfl rfl, _, h.cell 3 rfl rfl, N0, h.cell 3 rfl rfl, N0, h.cell 3 rfl rfl, ?_⟩
        exact stq0 hs6 (((((h.dropAt 6).dropAt 5).dropAt 4).dropAt 3))
      · rw [if_neg (show ¬ 0 < x.abs.Pins from hp)] at hs6
        refine ⟨_, h.cell 6 rfl rfl, _, h.cell 6 rfl rfl, td, h.cell 6 rfl rfl, tl, h.cell 6 rfl rfl, (s153 h hi (by omega)).mono ?_⟩
        rintro _ w195 ⟨tl2, rfl, h⟩
        refine ⟨_, _, td, tl2, rfl, ?_⟩
        refine h.put 4 rfl rfl rfl (fun wp1 h np1 => ?_)
        refine h.put 3 rfl rfl rfl (fun wp2 h np2 => ?_)
        refine ⟨_, h.cell 4 rfl rfl, _, h.cell 4 rfl rfl, td, h.cell 4 rfl rfl, tl2, h.cell 4 rfl rfl, _, h.cell 3 rfl rfl, N0, h.cell 3 rfl rfl, N0, h.cell 3 rfl rfl, ?_⟩
        have e : cutL (aC_ cap clock disk ls) i = aC_ cap clock disk (ls.eraseIdx i) := by
          unfold cutL aC_
          simp only [map_erase]
        rw [e] at hs6
        exact stq0 hs6 (((((h.dropAt 6).dropAt 5).dropAt 4).dropAt 3))
  · have hse : stepS n (aC_ cap clock disk ls) o = fetchedS (aC_ cap clock disk ls) o := by
      unfold stepS; rw [if_neg k7, if_neg hnb, if_neg k4, if_neg k5, if_neg k6]
    rw [hse]
    refine ⟨_, h.cell 6 rfl rfl, _, h.cell 6 rfl rfl, td, h.cell 6 rfl rfl, tl, h.cell 6 rfl rfl, _, h.cell 5 rfl rfl, _, h.cell 5 rfl rfl, _, h.cell 5 rfl rfl, _, h.cell 5 rfl rfl, to, h.cell 5 rfl rfl, ?_⟩
    refine (s154 (F := BR rb 0 N0 N0 :: BK ob 0 0 N0 N0 :: BO pb o to :: BK cb cap clock td tl :: F) h hok hcap hn hck (by omega) (by omega) (by omega) (hb.up [_, _, _, _])).mono ?_
    generalize fetchedS (aC_ cap clock disk ls) o = r at *
    rintro _ w219 ⟨ck2, disk3, ls3, ws, tl3, tt, tw, rfl, ec, ew, h⟩
    refine ⟨_, _, td, tl3, _, tt, tw, rfl, ?_⟩
    refine h.put 7 rfl rfl rfl (fun wp1 h np1 => ?_)
    refine h.put 6 rfl rfl rfl (fun wp2 h np2 => ?_)
    refine ⟨_, h.cell 7 rfl rfl, _, h.cell 7 rfl rfl, td, h.cell 7 rfl rfl, tl3, h.cell 7 rfl rfl, _, h.cell 6 rfl rfl, tt, h.cell 6 rfl rfl, tw, h.cell 6 rfl rfl, ?_⟩
    exact stq ec ew (((((h.dropAt 9).dropAt 8).dropAt 7).dropAt 6))
end Go.Proofs.Ytenhcpjlkmbedaa

/- A cache in memory: the reference's new cache and run. Conditions: none. -/
set_option linter.unusedVariables false
set_option linter.unusedSimpArgs false
namespace Go.Proofs.Ytenhcpjlkmbedaa
open Go Go.Den Go.Cc
theorem cok_safe {n : Nat} {c : Cache} (h : COk n c) : Cc.Safe n c :=
  ⟨h.disk, h.few, h.cap, h.clock, fun l hl => by
    have a := h.ls.each l hl
    have ck := h.clock
    exact ⟨a.s0, a.sn, a.len, by rw [a.pins]; exact Int.le_refl _, by rw [a.pins]; exact ck⟩⟩
theorem s149 {w : World} {n : Nat} {cap : Int} {td : Sl} {disk : List Int} (hl : td.len = disk.length) (h1 : 1 ≤ cap) (hcap : cap ≤ 64) (hd : disk.length = 128 * n) (hn : n ≤ 1024) :
    CallW Try.prog 149 #[cV cap 0 td N0] w (fun v w' => v = .bool true ∧ Ext w w') := by
  refine go149 (a0_0 := cap) (a0_1 := 0) (a0_2 := td) (a0_3 := N0) ?_
  unfold W149
  have h := SH.start w
  refine h.alloc (fun w1 h e1 n1 => ?_)
  generalize w.heap.size = cb at *
  have h : SH w w1 [BK cb cap 0 td N0] := h
  refine ⟨_, h.cell 0 rfl rfl, ?_⟩
  refine JoinW.cut1 (fun (b : Bool) w' => b = false ∧ w' = w1) (BIf.dec (fun hc => absurd hc (by omega)) (fun _ => ⟨_, h.cell 0 rfl rfl, decide_eq_false (by omega), rfl⟩)) ?_
  rintro (b : Bool) w5 ⟨rfl, rfl⟩
  refine JoinW.cut1 (fun (b : Bool) w' => b = false ∧ w' = w5) (BIf.f rfl ⟨_, h.cell 0 rfl rfl, c107.mono ?_⟩) ?_
  · rintro _ w86 ⟨rfl, rfl⟩
    exact ⟨_, rfl, by decide, by trivial⟩
  rintro (b : Bool) w8 ⟨rfl, rfl⟩
  refine JoinW.cut1 (fun (b : Bool) w' => b = false ∧ w' = w8) (BIf.f rfl ⟨td, h.cell 0 rfl rfl, (c148 hl).mono ?_⟩) ?_
  · rintro _ w86 ⟨rfl, rfl⟩
    refine ⟨_, rfl, ?_, by trivial⟩
    unfold dOk
    rw [decide_eq_true (by omega), decide_eq_true (by omega)]; rfl
  rintro (b : Bool) w11 ⟨rfl, rfl⟩
  refine JoinW.cut1 (fun (b : Bool) w' => b = false ∧ w' = w11) (BIf.f rfl ⟨N0, h.cell 0 rfl rfl, _, h.cell 0 rfl rfl, decide_eq_false (by show ¬ ((0 : Nat) : Int) > cap; omega), by trivial⟩) ?_
  rintro (b : Bool) w14 ⟨rfl, rfl⟩
  refine BIf.f rfl ?_
  refine LoopW.m1 (fun (i : Int) w' => i = 0 ∧ w' = w14) (fun _ _ => 0) ⟨rfl, rfl⟩ ?_
  rintro (i : Int) w17 ⟨rfl, rfl⟩ J hJ
  exact ⟨N0, h.cell 0 rfl rfl, BIf.f rfl ⟨by trivial, h.ext⟩⟩
theorem s101 {w : World} {n : Nat} {cap : Int} {td : Sl} {disk : List Int} (hr : RowAt w td.a td.len (disk.map (Value.int .u8))) (h1 : 1 ≤ cap) (hcap : cap ≤ 64) (hd : disk.length = 128 * n) (hn : n ≤ 1024) :
    CallW Try.prog 101 #[.int .i64 cap, .slice td.a td.len td.cap] w (fun v w' => ∃ td' : Sl, v = cV cap 0 td' N0 ∧ SH w w' [rD td' disk]) := by
  refine go101 ?_
  unfold W101
  have h := SH.start w
  refine h.alloc (fun w1 h e1 n1 => ?_)
  refine h.alloc (fun w2 h e2 n2 => ?_)
  have h : SH w w2 [BK w.heap.size 0 0 N0 N0] := h.drop
  generalize w.heap.size = ob at *
  refine SH.appendN (m := []) (h.nil (some ⟨w1.heap.size, 0, none⟩) 1) (h.ext.row hr) rfl rfl (by decide) (by show (_ + _) * 1 ≤ _; simp; omega) (fun t w4 h ht _ => ?_)
  refine h.alloc (fun w5 h e5 n5 => ?_)
  refine h.put 0 rfl rfl rfl (fun w6 h n6 => ?_)
  have h : SH w w6 [BK w4.heap.size cap 0 t N0, rD t disk, BK ob 0 0 N0 N0] := h
  generalize w4.heap.size = cb at *
  have htl := h.len 1 rfl
  rw [nums_len] at htl
  refine ⟨_, h.cell 0 rfl rfl, _, h.cell 0 rfl rfl, t, h.cell 0 rfl rfl, N0, h.cell 0 rfl rfl, (s149 htl h1 hcap hd hn).mono ?_⟩
  rintro _ w12 ⟨rfl, ee⟩
  have h := h.to ee
  refine ⟨_, rfl, BIf.f rfl ⟨_, h.cell 0 rfl rfl, _, h.cell 0 rfl rfl, t, h.cell 0 rfl rfl, N0, h.cell 0 rfl rfl, ?_⟩⟩
  refine h.put 2 rfl rfl rfl (fun w23 h n23 => ?_)
  refine ⟨_, h.cell 2 rfl rfl, _, h.cell 2 rfl rfl, t, h.cell 2 rfl rfl, N0, h.cell 2 rfl rfl, ?_⟩
  exact ⟨t, rfl, ((h.dropAt 2).dropAt 0)⟩
set_option maxRecDepth 4000 in
set_option maxHeartbeats 4000000 in
theorem s44 {w : World} {n : Nat} {cap : Int} {td to : Sl} {disk : List Int} {ops : List COp} (hr : RowAt w td.a td.len (disk.map (Value.int .u8))) (h1 : 1 ≤ cap) (hcap : cap ≤ 64) (hd : disk.length = 128 * n) (hn : n ≤ 1024)
    (ho : OpsAt w to ops) (hol : ops.length ≤ 1000) (hk : ∀ o, o ∈ ops → o.Kind ≠ 3 ∧ o.Kind ≠ 6) :
    CallW Try.prog 44 #[.int .i64 cap, .slice td.a td.len td.cap, .slice to.a to.len to.cap] w (RunR w (runC n (new cap disk) ops)) := by
  refine go44 ?_
  unfold W44
  have hto := ho.len
  have h := SH.start w
  refine h.alloc (fun w1 h e1 n1 => ?_)
  have h := h.drop
  refine (s101 (h.ext.row hr) h1 hcap hd hn).mono ?_
  rintro _ w3 ⟨td0, rfl, g⟩
  have h := h.seq g
  refine ⟨_, _, td0, N0, rfl, ?_⟩
  refine h.alloc (fun w8 h e8 n8 => ?_)
  refine h.put 0 rfl rfl rfl (fun w9 h n9 => ?_)
  generalize w3.heap.size = cb at *
  have h : SH w w9 [BK cb cap 0 td0 N0, rD td0 disk] := h
  refine ⟨_, h.cell 0 rfl rfl, ?_⟩
  refine JoinW.cut1 (fun (b : Bool) w' => b = false ∧ w' = w9) (BIf.eq (fun hc => by omega) (fun _ => ⟨decide_eq_false (by omega), rfl⟩)) ?_
  rintro (b : Bool) w13 ⟨rfl, rfl⟩
  refine BIf.f rfl ?_
  have hrun := fun k => run_ok (new_ok h1 hd) (ops.take k) (fun o h => hk o (take_mem h))
  have h : SH w w13 (KC td0 N0 disk [] (BK cb cap 0 td0 N0 :: rR ⟨some ⟨w.heap.size, 0, none⟩, 0, 0⟩ [] :: bR [] :: [])) := by
    have h := SH.bagNil lineA ((SH.bagNil resA h).nil (some ⟨w.heap.size, 0, none⟩) 3)
    have h := h.nil none 5
    exact ((((h.front (n := 4) rfl).front (n := 2) rfl).front (n := 2) rfl).front (n := 5) rfl)
  refine LoopW.m2 (fun (l : Sl) (i : Int) w' => ∃ (k : Nat) (clock : Int) (disk2 : List Int) (ls : List RLine) (td tl : Sl) (rs : List RRes), i = k ∧ k ≤ ops.length ∧ aC_ cap clock disk2 ls = (runC n (new cap disk) (ops.take k)).1 ∧ rs.map RRes.abs = (runC n (new cap disk) (ops.take k)).2 ∧ SH w w' (KC td tl disk2 ls (BK cb cap clock td tl :: rR l rs :: bR rs :: []))) (fun _ (i : Int) _ => (ops.length - i).toNat) ⟨0, 0, disk, [], td0, N0, [], rfl, by omega, rfl, rfl, h⟩ ?_
  clear h
  rintro (l : Sl) (i : Int) w18 ⟨k, clock, disk1, ls, td, tl, rs, rfl, hkl, ec, ers, h⟩ J hJ
  have hj := hrun k
  have hok : COk n (aC_ cap clock disk1 ls) := by rw [ec]; exact hj.ok
  have hck : clock ≤ k := by
    have := hj.clock
    rw [← ec] at this
    have h2 : clock ≤ (0 : Int) + ((ops.take k).length : Int) := this
    rw [List.length_take] at h2
    omega
  have hrl : rs.length = k := by
    have := hj.len
    rw [← ers, List.length_map, List.length_take] at this
    omega
  refine BIf.dec (fun hlt => ?_) (fun hge => ?_)
  · have hget : ops[k]? = some ops[k] := List.getElem?_eq_getElem (by omega)
    have hsn := runC_snoc (n := n) (c := new cap disk) hget
    obtain ⟨k3, k6⟩ := hk _ (List.mem_of_getElem? hget)
    generalize ops[k] = o at *
    obtain ⟨q, td_, hq, hop⟩ := ho.get k o hget
    have hsafe := cok_safe hok
    have hstep := stepS_eq (o := o) hok k3 k6
    rw [← ec] at hsn
    generalize stepC n (aC_ cap clock disk1 ls) o = r at *
    simp only [Int.toNat_natCast]
    rw [w64 (n := (k : Int) + 1) (by omega) (by omega)]
    have h := h.drew
    refine JoinW.cut2 (fun (p19 p20 : Option Addr) w' => ∃ (a b2 : Nat) (ck2 : Int) (disk2 : List Int) (ls2 : List RLine) (ws2 : List RWr) (tl2 tt tw : Sl), p19 = some ⟨a, 0, none⟩ ∧ p20 = some ⟨b2, 0, none⟩ ∧ aC_ cap ck2 disk2 ls2 = r.1 ∧ ws2.map RWr.abs = r.2.Writes ∧ SH w w' (BK a cap ck2 td tl2 :: BR b2 r.2.Code tt tw :: rD tt r.2.Data :: rW tw ws2 :: bW ws2 :: rD td disk2 :: rL tl2 ls2 :: bL ls2 :: BK cb cap clock td tl :: rR l rs :: bR rs :: [])) ?_ ?_
    · have H := hop.ext h.ext
      refine ⟨_, h.cell 3 rfl rfl, _, h.cell 3 rfl rfl, td, h.cell 3 rfl rfl, tl, h.cell 3 rfl rfl, by omega, by omega, q, hq, _, H.c0, _, H.c1, _, H.c2, _, H.c3, td_, H.c4, ?_, ?_, ?_, trivial⟩
      · skip
        have h := (h)
        refine (s103 (o := o) h hsafe hcap hn (by omega) (LentB.of hop.by_)).mono ?_
        rw [hstep]
        rintro _ wc ⟨ck2, disk2, ls2, ws2, tl2, tt, tw, rfl, ec, ew, h⟩
        refine ⟨_, _, td, tl2, _, tt, tw, rfl, ?_, ?_, trivial⟩
        · skip
          refine h.alloc (fun wa h ea na => ?_)
          have H := hop.ext h.ext
          refine ⟨⟨_, H.c0, _, H.c1, _, H.c2, _, H.c3, td_, H.c4, by first | rfl | trivial⟩, ⟨_, h.cell 7 rfl rfl, _, h.cell 7 rfl rfl, td, h.cell 7 rfl rfl, tl, h.cell 7 rfl rfl, by first | rfl | trivial⟩, ?_, trivial⟩
          refine h.alloc (fun wa h ea na => ?_)
          have H := hop.ext h.ext
          refine ⟨⟨_, H.c0, _, H.c1, _, H.c2, _, H.c3, td_, H.c4, by first | rfl | trivial⟩, ⟨_, h.cell 8 rfl rfl, _, h.cell 8 rfl rfl, td, h.cell 8 rfl rfl, tl, h.cell 8 rfl rfl, by first | rfl | trivial⟩, ?_, trivial⟩
          refine h.put 1 rfl rfl rfl (fun wp1 h np1 => ?_)
          refine ⟨?_, trivial⟩
          refine h.put 0 rfl rfl rfl (fun wp2 h np2 => ?_)
          exact ⟨_, _, ck2, disk2, ls2, ws2, tl2, tt, tw, rfl, rfl, ec, ew, (h.front (n := 1) rfl)⟩
        · skip
          refine h.alloc (fun wa h ea na => ?_)
          have H := hop.ext h.ext
          refine ⟨⟨_, H.c0, _, H.c1, _, H.c2, _, H.c3, td_, H.c4, by first | rfl | trivial⟩, ⟨_, h.cell 7 rfl rfl, _, h.cell 7 rfl rfl, td, h.cell 7 rfl rfl, tl, h.cell 7 rfl rfl, by first | rfl | trivial⟩, ?_, trivial⟩
          refine h.alloc (fun wa h ea na => ?_)
          have H := hop.ext h.ext
          refine ⟨⟨_, H.c0, _, H.c1, _, H.c2, _, H.c3, td_, H.c4, by first | rfl | trivial⟩, ⟨_, h.cell 8 rfl rfl, _, h.cell 8 rfl rfl, td, h.cell 8 rfl rfl, tl, h.cell 8 rfl rfl, by first | rfl | trivial⟩, ?_, trivial⟩
          refine h.put 0 rfl rfl rfl (fun wp1 h np1 => ?_)
          refine ⟨?_, trivial⟩
          refine h.put 1 rfl rfl rfl (fun wp2 h np2 => ?_)
          exact ⟨_, _, ck2, disk2, ls2, ws2, tl2, tt, tw, rfl, rfl, ec, ew, (h)⟩
      · skip
        refine h.alloc (fun wa h ea na => ?_)
        have H := hop.ext h.ext
        refine ⟨⟨_, H.c0, _, H.c1, _, H.c2, _, H.c3, td_, H.c4, by first | rfl | trivial⟩, ⟨_, h.cell 4 rfl rfl, _, h.cell 4 rfl rfl, td, h.cell 4 rfl rfl, tl, h.cell 4 rfl rfl, by first | rfl | trivial⟩, ?_, ?_, trivial⟩
        · skip
          have h := (((h.front (n := 3) rfl).front (n := 3) rfl).front (n := 3) rfl)
          refine (s103 (o := o) h hsafe hcap hn (by omega) (LentB.of hop.by_)).mono ?_
          rw [hstep]
          rintro _ wc ⟨ck2, disk2, ls2, ws2, tl2, tt, tw, rfl, ec, ew, h⟩
          refine ⟨_, _, td, tl2, _, tt, tw, rfl, ?_, trivial⟩
          refine h.alloc (fun wa h ea na => ?_)
          have H := hop.ext h.ext
          refine ⟨⟨_, H.c0, _, H.c1, _, H.c2, _, H.c3, td_, H.c4, by first | rfl | trivial⟩, ⟨_, h.cell 8 rfl rfl, _, h.cell 8 rfl rfl, td, h.cell 8 rfl rfl, tl, h.cell 8 rfl rfl, by first | rfl | trivial⟩, ?_, trivial⟩
          refine h.put 7 rfl rfl rfl (fun wp1 h np1 => ?_)
          refine ⟨?_, trivial⟩
          refine h.put 0 rfl rfl rfl (fun wp2 h np2 => ?_)
          exact ⟨_, _, ck2, disk2, ls2, ws2, tl2, tt, tw, rfl, rfl, ec, ew, (h.front (n := 7) rfl)⟩
        · skip
          refine h.alloc (fun wa h ea na => ?_)
          have H := hop.ext h.ext
          refine ⟨⟨_, H.c0, _, H.c1, _, H.c2, _, H.c3, td_, H.c4, by first | rfl | trivial⟩, ⟨_, h.cell 5 rfl rfl, _, h.cell 5 rfl rfl, td, h.cell 5 rfl rfl, tl, h.cell 5 rfl rfl, by first | rfl | trivial⟩, ?_, trivial⟩
          have h := (((h.front (n := 4) rfl).front (n := 4) rfl).front (n := 4) rfl)
          refine (s103 (o := o) h hsafe hcap hn (by omega) (LentB.of hop.by_)).mono ?_
          rw [hstep]
          rintro _ wc ⟨ck2, disk2, ls2, ws2, tl2, tt, tw, rfl, ec, ew, h⟩
          refine ⟨_, _, td, tl2, _, tt, tw, rfl, ?_, trivial⟩
          refine h.put 7 rfl rfl rfl (fun wp1 h np1 => ?_)
          refine ⟨?_, trivial⟩
          refine h.put 6 rfl rfl rfl (fun wp2 h np2 => ?_)
          exact ⟨_, _, ck2, disk2, ls2, ws2, tl2, tt, tw, rfl, rfl, ec, ew, ((h.front (n := 6) rfl).front (n := 7) rfl)⟩
      · skip
        refine h.alloc (fun wa h ea na => ?_)
        have H := hop.ext h.ext
        refine ⟨⟨_, H.c0, _, H.c1, _, H.c2, _, H.c3, td_, H.c4, by first | rfl | trivial⟩, ⟨_, h.cell 4 rfl rfl, _, h.cell 4 rfl rfl, td, h.cell 4 rfl rfl, tl, h.cell 4 rfl rfl, by first | rfl | trivial⟩, ?_, ?_, trivial⟩
        · skip
          have h := (((h.front (n := 3) rfl).front (n := 3) rfl).front (n := 3) rfl)
          refine (s103 (o := o) h hsafe hcap hn (by omega) (LentB.of hop.by_)).mono ?_
          rw [hstep]
          rintro _ wc ⟨ck2, disk2, ls2, ws2, tl2, tt, tw, rfl, ec, ew, h⟩
          refine ⟨_, _, td, tl2, _, tt, tw, rfl, ?_, trivial⟩
          refine h.alloc (fun wa h ea na => ?_)
          have H := hop.ext h.ext
          refine ⟨⟨_, H.c0, _, H.c1, _, H.c2, _, H.c3, td_, H.c4, by first | rfl | trivial⟩, ⟨_, h.cell 8 rfl rfl, _, h.cell 8 rfl rfl, td, h.cell 8 rfl rfl, tl, h.cell 8 rfl rfl, by first | rfl | trivial⟩, ?_, trivial⟩
          refine h.put 0 rfl rfl rfl (fun wp1 h np1 => ?_)
          refine ⟨?_, trivial⟩
          refine h.put 7 rfl rfl rfl (fun wp2 h np2 => ?_)
          exact ⟨_, _, ck2, disk2, ls2, ws2, tl2, tt, tw, rfl, rfl, ec, ew, ((h.front (n := 7) rfl).front (n := 1) rfl)⟩
        · skip
          refine h.alloc (fun wa h ea na => ?_)
          have H := hop.ext h.ext
          refine ⟨⟨_, H.c0, _, H.c1, _, H.c2, _, H.c3, td_, H.c4, by first | rfl | trivial⟩, ⟨_, h.cell 5 rfl rfl, _, h.cell 5 rfl rfl, td, h.cell 5 rfl rfl, tl, h.cell 5 rfl rfl, by first | rfl | trivial⟩, ?_, trivial⟩
          have h := (((h.front (n := 4) rfl).front (n := 4) rfl).front (n := 4) rfl)
          refine (s103 (o := o) h hsafe hcap hn (by omega) (LentB.of hop.by_)).mono ?_
          rw [hstep]
          rintro _ wc ⟨ck2, disk2, ls2, ws2, tl2, tt, tw, rfl, ec, ew, h⟩
          refine ⟨_, _, td, tl2, _, tt, tw, rfl, ?_, trivial⟩
          refine h.put 6 rfl rfl rfl (fun wp1 h np1 => ?_)
          refine ⟨?_, trivial⟩
          refine h.put 7 rfl rfl rfl (fun wp2 h np2 => ?_)
          exact ⟨_, _, ck2, disk2, ls2, ws2, tl2, tt, tw, rfl, rfl, ec, ew, ((h.front (n := 7) rfl).front (n := 7) rfl)⟩
    clear h
    rintro (p19 : Option Addr) (p20 : Option Addr) w22 ⟨a, b2, ck2, disk2, ls2, ws2, tl2, tt, tw, rfl, rfl, ec2, ew, h⟩
    refine ⟨_, h.cellP 0 rfl rfl, _, h.cellP 0 rfl rfl, td, h.cellP 0 rfl rfl, tl2, h.cellP 0 rfl rfl, ?_⟩
    refine h.put 8 rfl rfl rfl (fun w28 h n28 => ?_)
    refine ⟨_, h.cellP 1 rfl rfl, tt, h.cellP 1 rfl rfl, tw, h.cellP 1 rfl rfl, ?_⟩
    have h : SH w w28 (BK a cap ck2 td tl2 :: BR b2 r.2.Code tt tw :: rD tt r.2.Data :: rW tw ws2 :: bW ws2 :: rD td disk2 :: rL tl2 ls2 :: bL ls2 :: BK cb cap ck2 td tl2 :: rR l rs :: bR rs :: []) := h
    have h := SH.allIn (As := [rD tt r.2.Data, rW tw ws2, bW ws2]) ((((((((h.dropAt 1).dropAt 0).front (n := 8) rfl).front (n := 8) rfl).front (n := 4) rfl).front (n := 4) rfl).front (n := 4) rfl))
    have h : SH w w28 (rR l rs :: resA ⟨r.2.Code, tt, r.2.Data, tw, ws2⟩ :: bR rs :: rD td disk2 :: rL tl2 ls2 :: bL ls2 :: BK cb cap ck2 td tl2 :: []) := h.p1
    refine LetW_iff.2 (SH.appendR1 (f := RRes.cells) (x := ⟨r.2.Code, tt, r.2.Data, tw, ws2⟩) h rfl rfl rfl (by decide) (by show (_ + _) * 56 ≤ _; omega) (plain_res _) (fun l2 w51 h hl2 _ => ?_))
    have h := SH.bagSnoc (f := resA) (x := (⟨r.2.Code, tt, r.2.Data, tw, ws2⟩ : RRes)) (((h.front (n := 2) rfl).front (n := 2) rfl))
    have h : SH w w51 (KC td tl2 disk2 ls2 (BK cb cap ck2 td tl2 :: rR l2 (rs ++ [⟨r.2.Code, tt, r.2.Data, tw, ws2⟩]) :: bR (rs ++ [⟨r.2.Code, tt, r.2.Data, tw, ws2⟩]) :: [])) := (((((h.front (n := 1) rfl).front (n := 5) rfl).front (n := 5) rfl).front (n := 5) rfl).front (n := 5) rfl)
    refine hJ _ _ _ ⟨k + 1, ck2, disk2, ls2, td, tl2, rs ++ [⟨r.2.Code, tt, r.2.Data, tw, ws2⟩], by omega, by omega, by rw [hsn]; exact ec2, ?_, h⟩ (by omega)
    rw [hsn, List.map_append, ers]
    unfold RRes.abs
    simp only [List.map_cons, List.map_nil, ew]
  · have hke : k = ops.length := by omega
    subst hke
    rw [List.take_length] at ec ers
    have h := h.drew
    refine ⟨td, h.cell 3 rfl rfl, l, td, rs, rfl, ers, ?_⟩
    rw [(aC_eta ec).1]
    exact (((h.dropAt 3).dropAt 2).dropAt 1)
end Go.Proofs.Ytenhcpjlkmbedaa

/- Draws: an operation on a cache, a disk, a room. Conditions: none. -/
set_option linter.unusedVariables false
set_option linter.unusedSimpArgs false
namespace Go.Proofs.Ytenhcpjlkmbedaa
open Go Go.Den Go.Cc
theorem tab_rd {w0 w : World} {As : List Asr} (h : SH w0 w As) (n : Nat) {b : Nat} (vs : List Int) (hA : As[n]? = some (aB b ((vs.map vInt).map Ce.v))) {i : Nat} (hi : i < vs.length) : ∃ x : Int, w.cell? ((⟨b, 0, none⟩ : Addr).add (i * 1)) = some (.int .i64 x) :=
  ⟨vs[i], by rw [Nat.mul_one]; exact h.cellP n hA (by rw [List.getElem?_map, List.getElem?_map, List.getElem?_eq_getElem hi]; rfl)⟩
theorem s99 {w0 w : World} {As : List Asr} (h : SH w0 w As) (cu : Nat) {cb : Nat} {s : Sl} (hA : As[cu]? = some (aC cb s)) (hb : CurB w0 s) :
    CallW Try.prog 99 #[.pointer (some ⟨cb, 0, none⟩)] w (KD w0 As (fun _ => True)) := by
  refine go99 ?_
  unfold W99
  refine (s79 h cu hA hb).mono ?_
  rintro _ w2 ⟨n3, rfl, p3, h⟩
  refine ⟨_, rfl, (s80 h cu hA hb).mono ?_⟩
  rintro _ w5 ⟨b6, rfl, h⟩
  refine ⟨_, rfl, BIf.of (fun _ => ?_) (fun _ => ⟨_, rfl, trivial, h⟩)⟩
  refine h.alloc (fun w7 h e7 n7 => ?_)
  refine (s79 h (cu + 1) hA hb).mono ?_
  rintro _ w9 ⟨n10, rfl, ⟨p0, p1⟩, h⟩
  obtain ⟨x, hx⟩ := tab_rd h 0 [0, -1, 64, 65] rfl (i := n10.toNat) (by show n10.toNat < 4; omega)
  exact ⟨_, rfl, p0, by omega, _, rfl, x, hx, _, rfl, trivial, h.drop⟩
set_option maxRecDepth 4000 in
theorem s100 {w0 w : World} {As : List Asr} (h : SH w0 w As) (cu : Nat) {cb : Nat} {s : Sl} (hA : As[cu]? = some (aC cb s)) (hb : CurB w0 s) :
    CallW Try.prog 100 #[.pointer (some ⟨cb, 0, none⟩)] w (fun v w' => ∃ (t : Sl) (n : Nat) (disk : List Int), v = .slice t.a t.len t.cap ∧ disk.length = 128 * n ∧ n ≤ 7 ∧ SH w0 w' (rD t disk :: As)) := by
  refine go100 ?_
  unfold W100
  refine (s79 h cu hA hb).mono ?_
  rintro _ w2 ⟨n3, rfl, ⟨p0, p1⟩, h⟩
  refine ⟨_, rfl, ?_⟩
  rw [w64 (n := 1 + n3) (by omega) (by omega)]
  refine h.alloc (fun w4 h e4 n4 => ?_)
  have h := h.drop
  refine LoopW.m2 (fun (l : Sl) (i : Int) w' => ∃ (k : Nat) (disk : List Int), i = k ∧ (k : Int) ≤ 1 + n3 ∧ disk.length = 128 * k ∧ SH w0 w' (rD l disk :: As)) (fun _ (i : Int) _ => (1 + n3 - i).toNat) ⟨0, [], rfl, by omega, rfl, h.nil _ 1⟩ ?_
  clear h
  rintro (l : Sl) (i : Int) w8 ⟨k, disk, rfl, hk, hd, h⟩ J hJ
  refine BIf.dec (fun hlt => ?_) (fun hge => ⟨l, k, disk, rfl, hd, by omega, h⟩)
  refine (s79 h (cu + 1) hA hb).mono ?_
  rintro _ w10 ⟨n11, rfl, ⟨q0, q1⟩, h⟩
  refine ⟨_, rfl, ?_⟩
  rw [w64 (n := (k : Int) + 1) (by omega) (by omega)]
  refine LoopW.m2 (fun (l : Sl) (i : Int) w' => ∃ (j : Nat) (d2 : List Int), i = j ∧ j ≤ 128 ∧ d2.length = 128 * k + j ∧ SH w0 w' (rD l d2 :: As)) (fun _ (i : Int) _ => (128 - i).toNat) ⟨0, disk, rfl, by omega, by omega, h⟩ ?_
  clear h
  rintro (l2 : Sl) (i2 : Int) w15 ⟨j, d2, rfl, hj, hd2, h⟩ J2 hJ2
  refine BIf.dec (fun hlt2 => ?_) (fun hge2 => ?_)
  · rw [w64 (n := (j : Int) + 1) (by omega) (by omega)]
    refine LetW_iff.2 (SH.appendN1 h rfl rfl (by decide) (by rw [hd2]; show _ * 1 ≤ _; omega) (fun t2 w11 h hl2 _ => ?_))
    exact hJ2 _ _ _ ⟨j + 1, d2 ++ [_], by omega, by omega, by rw [List.length_append, hd2]; rfl, h⟩ (by omega)
  · exact hJ _ _ _ ⟨k + 1, d2, by omega, by omega, by omega, h⟩ (by omega)
set_option maxRecDepth 4000 in
set_option maxHeartbeats 4000000 in
theorem s102 {w0 w : World} {As : List Asr} {cap clock : Int} {td tl : Sl} {ls : List RLine} (h : SH w0 w As) (cu j : Nat) {cb : Nat} {s : Sl} (hA : As[cu]? = some (aC cb s)) (hb : CurB w0 s) (hj : As[j]? = some (rL tl ls)) (hls : ls.length ≤ 1000) :
    CallW Try.prog 102 #[.pointer (some ⟨cb, 0, none⟩), cV cap clock td tl] w (fun v w' => ∃ (o : COp) (t : Sl), v = .agg ⟨opV o t⟩ ∧ ByR o.Data ∧ SH w0 w' (rD t o.Data :: As)) := by
  refine go102 (a0 := some ⟨cb, 0, none⟩) (a1_0 := cap) (a1_1 := clock) (a1_2 := td) (a1_3 := tl) ?_
  unfold W102
  have htl := h.len j hj
  rw [recs_len] at htl
  refine h.alloc (fun w1 h e1 n1 => ?_)
  refine h.alloc (fun w2 h e2 n2 => ?_)
  refine h.alloc (fun w3 h e3 n3 => ?_)
  generalize w.heap.size = b0 at *
  generalize w1.heap.size = ob at *
  generalize w2.heap.size = tb at *
  refine (s79 h (cu + 3) hA hb).mono ?_
  rintro _ w5 ⟨n6, rfl, ⟨p0, p1⟩, h⟩
  obtain ⟨n8, hn8⟩ := tab_rd h 0 [1, 1, 1, 2, 2, 2, 2, 3, 4, 5, 6, 7] rfl (i := n6.toNat) (by show n6.toNat < 12; omega)
  refine ⟨_, rfl, p0, by omega, _, rfl, n8, hn8, ?_⟩
  refine h.alloc (fun w9 h e9 n9 => ?_)
  refine h.put 0 rfl rfl rfl (fun w10 h n10 => ?_)
  generalize w5.heap.size = db at *
  have h : SH w0 w10 (BO db ⟨n8, 0, 0, 0, []⟩ N0 :: rD N0 [] :: BO ob ⟨0, 0, 0, 0, []⟩ N0 :: BK b0 cap clock td tl :: As) := ((h.dropAt 1).nil none 1).p1
  refine ⟨td, h.cell 3 rfl rfl, by decide, (s79 h (cu + 4) hA hb).mono ?_⟩
  rintro _ w13 ⟨n14, rfl, _, h⟩
  refine ⟨_, rfl, h.setV 0 rfl rfl (fun w15 h n15 => ?_)⟩
  have h : SH w0 w15 (BO db ⟨n8, n14, 0, 0, []⟩ N0 :: rD N0 [] :: BO ob ⟨0, 0, 0, 0, []⟩ N0 :: BK b0 cap clock td tl :: As) := h
  have hz : ByR [] := ⟨fun x hx => by simp at hx, by simp⟩
  refine JoinW.cut0 (fun w' => ∃ (o : COp) (t : Sl), ByR o.Data ∧ SH w0 w' (BO db o t :: rD t o.Data :: BO ob ⟨0, 0, 0, 0, []⟩ N0 :: BK b0 cap clock td tl :: As)) ?_ ?_
  · refine ⟨tl, h.cell 3 rfl rfl, ?_⟩
    refine JoinW.cut1 (fun (b : Bool) w' => (b = true → 0 < ls.length) ∧ SH w0 w' (BO db ⟨n8, n14, 0, 0, []⟩ N0 :: rD N0 [] :: BO ob ⟨0, 0, 0, 0, []⟩ N0 :: BK b0 cap clock td tl :: As)) ?_ ?_
    · refine BIf.dec (fun hlt => (s80 h (cu + 4) hA hb).mono ?_) (fun _ => ⟨(fun e => by cases e), h⟩)
      rintro _ w108 ⟨b, rfl, h⟩
      exact ⟨b, rfl, fun _ => by omega, h⟩
    clear h
    rintro (b : Bool) w97 ⟨hbt, h⟩
    refine BIf.of (fun ht => ?_) (fun _ => ⟨_, N0, hz, h⟩)
    have hpos := hbt ht
    have h := h.drew
    refine ⟨tl, h.cell 3 rfl rfl, tl, h.cell 3 rfl rfl, (s79 h (cu + 4) hA hb).mono ?_⟩
    rintro _ w101 ⟨n102, rfl, ⟨q0, q1⟩, h⟩
    obtain ⟨m, rfl⟩ := Int.eq_ofNat_of_zero_le q0
    have hx : ls[m]? = some ls[m] := List.getElem?_eq_getElem (by omega)
    generalize ls[m] = x at hx
    have hj4 : (BO db (⟨n8, n14, 0, 0, []⟩ : COp) N0 :: rD N0 [] :: BO ob ⟨0, 0, 0, 0, []⟩ N0 :: BK b0 cap clock td tl :: As)[j + 4]? = some (rL tl ls) := hj
    obtain ⟨q, hq⟩ := h.rowQ (j + 4) hj4 hx
    simp only [Int.toNat_natCast]
    refine ⟨_, rfl, ⟨tl, h.cell 3 rfl rfl, by first | rfl | trivial⟩, by omega, by omega, q, hq, _, h.rdR (j + 4) hj4 hq hx rfl, h.setV 0 rfl rfl (fun w106 h n106 => ?_)⟩
    exact ⟨⟨n8, x.Sector, 0, 0, []⟩, N0, hz, h⟩
  clear h
  rintro w17 ⟨o, t, hby, h⟩
  refine (s79 h (cu + 4) hA hb).mono ?_
  rintro _ w19 ⟨n20, rfl, _, h⟩
  refine ⟨_, rfl, h.setV 0 rfl rfl (fun w21 h n21 => ?_)⟩
  have h : SH w0 w21 (BO db ⟨o.Kind, o.Sector, n20, o.N, o.Data⟩ t :: rD t o.Data :: BO ob ⟨0, 0, 0, 0, []⟩ N0 :: BK b0 cap clock td tl :: As) := h
  refine (s79 h (cu + 4) hA hb).mono ?_
  rintro _ w23 ⟨n24, rfl, _, h⟩
  refine ⟨_, rfl, h.setV 0 rfl rfl (fun w25 h n25 => ?_)⟩
  have h : SH w0 w25 (BO db ⟨o.Kind, o.Sector, n20, n24, o.Data⟩ t :: rD t o.Data :: BO ob ⟨0, 0, 0, 0, []⟩ N0 :: BK b0 cap clock td tl :: As) := h
  refine (s79 h (cu + 4) hA hb).mono ?_
  rintro _ w27 ⟨n28, rfl, ⟨r0, r1⟩, h⟩
  refine ⟨_, rfl, (s136 h (cu + 4) hA hb (by omega)).mono ?_⟩
  rintro _ w30 ⟨t2, l, rfl, hl, h⟩
  refine ⟨t2, rfl, h.setV 1 rfl rfl (fun w32 h n32 => ?_)⟩
  have h : SH w0 w32 (rD t2 l :: BO db ⟨o.Kind, o.Sector, n20, n24, l⟩ t2 :: rD t o.Data :: BO ob ⟨0, 0, 0, 0, []⟩ N0 :: BK b0 cap clock td tl :: As) := h
  have h : SH w0 w32 (BO db ⟨o.Kind, o.Sector, n20, n24, l⟩ t2 :: rD t2 l :: BO ob ⟨0, 0, 0, 0, []⟩ N0 :: BK b0 cap clock td tl :: As) := (h.dropAt 2).p1
  refine JoinW.cut0 (fun w' => ∃ (o : COp) (t : Sl), ByR o.Data ∧ SH w0 w' (BO db o t :: rD t o.Data :: BO ob ⟨0, 0, 0, 0, []⟩ N0 :: BK b0 cap clock td tl :: As)) ?_ ?_
  · refine (s80 h (cu + 4) hA hb).mono ?_
    rintro _ w85 ⟨b, rfl, h⟩
    refine ⟨_, rfl, BIf.of (fun _ => ?_) (fun _ => ⟨_, t2, hl, h⟩)⟩
    refine h.alloc (fun w87 h e87 n87 => ?_)
    refine (s79 h (cu + 5) hA hb).mono ?_
    rintro _ w89 ⟨n90, rfl, ⟨q0, q1⟩, h⟩
    obtain ⟨x, hx⟩ := tab_rd h 0 [-1, IntKind.i64.wrap ((td.len : Int).tdiv 128), 4611686018427387904] rfl (i := n90.toNat) (by show n90.toNat < 3; omega)
    refine ⟨_, rfl, q0, by omega, _, rfl, x, hx, h.setV 1 rfl rfl (fun w93 h n93 => ?_)⟩
    exact ⟨⟨o.Kind, x, n20, n24, l⟩, t2, hl, h.drop⟩
  clear h
  rintro w34 ⟨o, t, hby, h⟩
  refine JoinW.cut0 (fun w' => ∃ (o : COp) (t : Sl), ByR o.Data ∧ SH w0 w' (BO db o t :: rD t o.Data :: BO ob ⟨0, 0, 0, 0, []⟩ N0 :: BK b0 cap clock td tl :: As)) ?_ ?_
  · refine (s80 h (cu + 4) hA hb).mono ?_
    rintro _ w85 ⟨b, rfl, h⟩
    refine ⟨_, rfl, BIf.of (fun _ => ?_) (fun _ => ⟨_, t, hby, h⟩)⟩
    refine h.alloc (fun w87 h e87 n87 => ?_)
    refine (s79 h (cu + 5) hA hb).mono ?_
    rintro _ w89 ⟨n90, rfl, ⟨q0, q1⟩, h⟩
    obtain ⟨x, hx⟩ := tab_rd h 0 [-1, 128, 127, 0, 4611686018427387904] rfl (i := n90.toNat) (by show n90.toNat < 5; omega)
    refine ⟨_, rfl, q0, by omega, _, rfl, x, hx, h.setV 1 rfl rfl (fun w93 h n93 => ?_)⟩
    exact ⟨⟨o.Kind, o.Sector, x, o.N, o.Data⟩, t, hby, h.drop⟩
  clear h
  rintro w36 ⟨o, t, hby, h⟩
  refine JoinW.cut0 (fun w' => ∃ (o : COp) (t : Sl), ByR o.Data ∧ SH w0 w' (BO db o t :: rD t o.Data :: BO ob ⟨0, 0, 0, 0, []⟩ N0 :: BK b0 cap clock td tl :: As)) ?_ ?_
  · refine (s80 h (cu + 4) hA hb).mono ?_
    rintro _ w60 ⟨b, rfl, h⟩
    refine ⟨_, rfl, BIf.of (fun _ => ?_) (fun _ => ⟨_, t, hby, h⟩)⟩
    refine h.alloc (fun w62 h e62 n62 => ?_)
    refine (s79 h (cu + 5) hA hb).mono ?_
    rintro _ w64 ⟨n65, rfl, ⟨q0, q1⟩, h⟩
    obtain ⟨x, hx⟩ := tab_rd h 0 [-1, 128, 129, 4611686018427387904] rfl (i := n65.toNat) (by show n65.toNat < 4; omega)
    refine ⟨_, rfl, q0, by omega, _, rfl, x, hx, h.setV 1 rfl rfl (fun w68 h n68 => ?_)⟩
    have h : SH w0 w68 (BO db ⟨o.Kind, o.Sector, o.At, x, o.Data⟩ t :: rD t o.Data :: BO ob ⟨0, 0, 0, 0, []⟩ N0 :: BK b0 cap clock td tl :: As) := h.drop
    refine (s79 h (cu + 4) hA hb).mono ?_
    rintro _ w70 ⟨n71, rfl, ⟨u0, u1⟩, h⟩
    refine ⟨_, rfl, ?_⟩
    rw [Go.Den.w64 (n := 127 + n71) (by omega) (by omega)]
    refine ⟨by omega, by omega, by omega, by omega, ?_⟩
    refine SH.zeros h rfl (fun w72 h n72 => ?_)
    have hz0 : List.replicate (Int.toNat (127 + n71)) (ti5.zero.map Ce.v) = nums .u8 (List.replicate (Int.toNat (127 + n71)) 0) := zeroD _
    rw [hz0] at h
    refine h.setV 1 rfl rfl (fun w73 h n73 => ?_)
    exact ⟨⟨o.Kind, o.Sector, o.At, x, List.replicate (Int.toNat (127 + n71)) 0⟩, ⟨some ⟨w70.heap.size, 0, none⟩, Int.toNat (127 + n71), Int.toNat (127 + n71)⟩, byR_zero (by omega), (h.dropAt 2).p1⟩
  clear h
  rintro w38 ⟨o, t, hby, h⟩
  refine JoinW.cut0 (fun w' => ∃ (o : COp) (t : Sl), ByR o.Data ∧ SH w0 w' (BO db o t :: rD t o.Data :: BO ob ⟨0, 0, 0, 0, []⟩ N0 :: BK b0 cap clock td tl :: As)) ?_ ?_
  · refine (s80 h (cu + 4) hA hb).mono ?_
    rintro _ w53 ⟨b, rfl, h⟩
    refine ⟨_, rfl, BIf.of (fun _ => ?_) (fun _ => ⟨_, t, hby, h⟩)⟩
    refine (s79 h (cu + 4) hA hb).mono ?_
    rintro _ w56 ⟨n57, rfl, _, h⟩
    refine ⟨_, rfl, h.setV 0 rfl rfl (fun w58 h n58 => ?_)⟩
    exact ⟨⟨IntKind.i64.wrap (n57 - 1), o.Sector, o.At, o.N, o.Data⟩, t, hby, h⟩
  clear h
  rintro w40 ⟨o, t, hby, h⟩
  refine ⟨_, h.cell 0 rfl rfl, _, h.cell 0 rfl rfl, _, h.cell 0 rfl rfl, _, h.cell 0 rfl rfl, t, h.cell 0 rfl rfl, ?_⟩
  refine h.put 2 rfl rfl rfl (fun w46 h n46 => ?_)
  refine ⟨_, h.cell 2 rfl rfl, _, h.cell 2 rfl rfl, _, h.cell 2 rfl rfl, _, h.cell 2 rfl rfl, t, h.cell 2 rfl rfl, ?_⟩
  exact ⟨o, t, rfl, hby, (((h.dropAt 3).dropAt 2).dropAt 0)⟩
end Go.Proofs.Ytenhcpjlkmbedaa

/- Draws: operations on a cache. Conditions: none. -/
set_option linter.unusedVariables false
set_option linter.unusedSimpArgs false
namespace Go.Proofs.Ytenhcpjlkmbedaa
open Go Go.Den Go.Cc
structure ROp where
  o : COp
  t : Sl
def ROp.cells (x : ROp) : List Value := opV x.o x.t
def opA (x : ROp) : Asr := rD x.t x.o.Data
abbrev rO (t : Sl) (l : List ROp) : Asr := aRow t 5 (recs ROp.cells l)
abbrev bO (l : List ROp) : Asr := aBag opA l
theorem plain_op (x : ROp) : ∀ v, v ∈ x.cells → plainB v = true := fun v hv => by
  simp only [ROp.cells, opV, List.mem_cons, List.not_mem_nil, or_false] at hv
  rcases hv with rfl | rfl | rfl | rfl | rfl <;> rfl
set_option maxRecDepth 4000 in
set_option maxHeartbeats 4000000 in
theorem s41 {w : World} {s : Sl} (hb : CurB w s) :
    CallW Try.prog 41 #[.slice s.a s.len s.cap] w (fun v w' => ∃ (cap : Int) (td to : Sl) (n : Nat) (disk : List Int) (rs : List ROp), v = .tuple #[.int .i64 cap, .slice td.a td.len td.cap, .slice to.a to.len to.cap] ∧ disk.length = 128 * n ∧ n ≤ 7 ∧ rs.length ≤ 4097 ∧ (∀ x, x ∈ rs → ByR x.o.Data) ∧ SH w w' [rD td disk, rO to rs, bO rs]) := by
  refine go41 ?_
  unfold W41
  have h := SH.start w
  refine (s66 h hb).mono ?_
  rintro _ w2 ⟨cb, rfl, h⟩
  refine ⟨_, rfl, (s99 h 0 rfl hb).mono ?_⟩
  rintro _ w5 ⟨n6, rfl, _, h⟩
  refine ⟨_, rfl, (s100 h 0 rfl hb).mono ?_⟩
  rintro _ w8 ⟨td, n, disk, rfl, hd, hn, h⟩
  refine ⟨td, rfl, (s101 (cap := 2) (n := n) (h.rowN 0 rfl) (by omega) (by omega) hd (by omega)).mono ?_⟩
  rintro _ w11 ⟨td2, rfl, g⟩
  have h := h.seq g
  refine ⟨_, _, td2, N0, rfl, ?_⟩
  refine h.alloc (fun w16 h e16 n16 => ?_)
  refine h.put 0 rfl rfl rfl (fun w17 h n17 => ?_)
  refine h.alloc (fun w18 h e18 n18 => ?_)
  generalize w11.heap.size = kb at *
  have h : SH w w18 [BK kb 2 0 td2 N0, rD td2 disk, rD td disk, aC cb s] := h.drop
  refine (s79 h 3 rfl hb).mono ?_
  rintro _ w20 ⟨n21, rfl, ⟨p0, p1⟩, h⟩
  refine ⟨_, rfl, ?_⟩
  rw [w64 (n := 3 + n21) (by omega) (by omega)]
  have h : SH w w20 (rO ⟨some ⟨w17.heap.size, 0, none⟩, 0, 0⟩ [] :: bO [] :: aC cb s :: BK kb 2 0 td2 N0 :: rD td2 disk :: rL N0 [] :: bL [] :: rD td disk :: []) := by
    have h := SH.bagNil lineA ((SH.bagNil opA h).nil (some ⟨w17.heap.size, 0, none⟩) 5)
    have h := h.nil none 5
    exact (((((h.front (n := 5) rfl).front (n := 5) rfl).front (n := 7) rfl).front (n := 6) rfl).front (n := 6) rfl)
  refine LoopW.m2 (fun (l : Sl) (i : Int) w' => ∃ (rs : List ROp) (clock : Int) (disk2 : List Int) (ls : List RLine) (td2 tl : Sl), i ≤ 32 ∧ -1 ≤ i ∧ (rs.length : Int) ≤ 32 - i ∧ clock ≤ 32 - i ∧ Cc.Safe n (aC_ 2 clock disk2 ls) ∧ (∀ x, x ∈ rs → ByR x.o.Data) ∧ SH w w' (rO l rs :: bO rs :: aC cb s :: BK kb 2 clock td2 tl :: rD td2 disk2 :: rL tl ls :: bL ls :: rD td disk :: [])) (fun _ (i : Int) _ => (i + 1).toNat) ⟨[], 0, disk, [], td2, N0, by omega, by omega, by simp; omega, by omega, cok_safe (by rw [← new_is]; exact new_ok (by omega) hd), (fun x hx => by simp at hx), h⟩ ?_
  clear h
  rintro (l : Sl) (i : Int) w25 ⟨rs, clock, disk2, ls, td2, tl, hi, hi0, hrl, hck, hsafe, hby, h⟩ J hJ
  have hfew : ((ls.map RLine.abs).length : Int) ≤ 2 := hsafe.few
  rw [List.length_map] at hfew
  refine BIf.dec (fun hlt => ?_) (fun hge => ?_)
  · refine ⟨_, h.cell 3 rfl rfl, _, h.cell 3 rfl rfl, td2, h.cell 3 rfl rfl, tl, h.cell 3 rfl rfl, (s102 h 2 5 rfl hb rfl (by omega)).mono ?_⟩
    rintro _ w31 ⟨o, t, rfl, hob, h⟩
    refine ⟨_, _, _, _, t, rfl, ?_⟩
    refine h.alloc (fun w37 h e37 n37 => ?_)
    refine h.put 0 rfl rfl rfl (fun w38 h n38 => ?_)
    generalize w31.heap.size = pb at *
    have h : SH w w38 (BO pb o t :: rD t o.Data :: rO l rs :: bO rs :: aC cb s :: BK kb 2 clock td2 tl :: rD td2 disk2 :: rL tl ls :: bL ls :: rD td disk :: []) := h
    refine ⟨_, h.cell 5 rfl rfl, _, h.cell 5 rfl rfl, td2, h.cell 5 rfl rfl, tl, h.cell 5 rfl rfl, _, h.cell 0 rfl rfl, _, h.cell 0 rfl rfl, _, h.cell 0 rfl rfl, _, h.cell 0 rfl rfl, t, h.cell 0 rfl rfl, ?_⟩
    have h : SH w w38 (KC td2 tl disk2 ls (BO pb o t :: rD t o.Data :: rO l rs :: bO rs :: aC cb s :: BK kb 2 clock td2 tl :: rD td disk :: [])) := (((h.front (n := 8) rfl).front (n := 8) rfl).front (n := 8) rfl)
    refine (s103 (o := o) h hsafe (by omega) (by omega) (by omega) (LentB.own 1 rfl h ⟨[_, _, _], rfl⟩)).mono ?_
    have hss := stepS_safe o hsafe
    generalize stepS n (aC_ 2 clock disk2 ls) o = r at *
    rintro _ w49 ⟨ck2, disk3, ls3, ws, tl3, tt, tw, rfl, ec, ew, h⟩
    have hck2 : ck2 ≤ clock + 1 := by have := hss.2; rw [← ec] at this; exact this
    have hsafe2 : Cc.Safe n (aC_ 2 ck2 disk3 ls3) := by rw [ec]; exact hss.1
    refine ⟨_, _, td2, tl3, _, tt, tw, rfl, ?_⟩
    refine h.alloc (fun w57 h e57 n57 => ?_)
    refine h.alloc (fun w58 h e58 n58 => ?_)
    refine h.put 1 rfl rfl rfl (fun w59 h n59 => ?_)
    refine h.put 0 rfl rfl rfl (fun w60 h n60 => ?_)
    generalize w49.heap.size = xb at *
    generalize w57.heap.size = yb at *
    have h : SH w w60 (BR yb r.2.Code tt tw :: BK xb 2 ck2 td2 tl3 :: rD tt r.2.Data :: rW tw ws :: bW ws :: rD td2 disk3 :: rL tl3 ls3 :: bL ls3 :: BO pb o t :: rD t o.Data :: rO l rs :: bO rs :: aC cb s :: BK kb 2 clock td2 tl :: rD td disk :: []) := h
    refine ⟨_, h.cell 1 rfl rfl, _, h.cell 1 rfl rfl, td2, h.cell 1 rfl rfl, tl3, h.cell 1 rfl rfl, ?_⟩
    refine h.put 13 rfl rfl rfl (fun w65 h n65 => ?_)
    refine ⟨_, h.cell 8 rfl rfl, _, h.cell 8 rfl rfl, _, h.cell 8 rfl rfl, _, h.cell 8 rfl rfl, t, h.cell 8 rfl rfl, ?_⟩
    have h : SH w w65 (rD td2 disk3 :: rL tl3 ls3 :: bL ls3 :: BO pb o t :: rD t o.Data :: rO l rs :: bO rs :: aC cb s :: BK kb 2 ck2 td2 tl3 :: rD td disk :: []) := ((((h.drop).drop).drop).drop).drop
    have h : SH w w65 (rO l rs :: rD t o.Data :: bO rs :: aC cb s :: BK kb 2 ck2 td2 tl3 :: rD td2 disk3 :: rL tl3 ls3 :: bL ls3 :: rD td disk :: []) := ((((((h.dropAt 3).front (n := 7) rfl).front (n := 7) rfl).front (n := 7) rfl).front (n := 6) rfl).front (n := 7) rfl)
    refine LetW_iff.2 (SH.appendR1 (f := ROp.cells) (x := ⟨o, t⟩) h rfl rfl rfl (by decide) (by show (_ + _) * 56 ≤ _; omega) (plain_op _) (fun l2 w73 h hl2 _ => ?_))
    rw [w64 (n := i - 1) (by omega) (by omega)]
    have h := SH.bagSnoc (f := opA) (x := (⟨o, t⟩ : ROp)) (((h.front (n := 2) rfl).front (n := 2) rfl))
    refine hJ _ _ _ ⟨rs ++ [⟨o, t⟩], ck2, disk3, ls3, td2, tl3, by omega, by omega, by rw [List.length_append, List.length_singleton]; omega, by omega, hsafe2, fun x hx => ?_, h.p1⟩ (by omega)
    rcases List.mem_append.1 hx with hx | hx
    · exact hby x hx
    · rw [List.mem_singleton.1 hx]; exact hob
  · refine (s80 h 2 rfl hb).mono ?_
    rintro _ w75 ⟨b76, rfl, h⟩
    refine ⟨_, rfl, BIf.of (fun _ => ?_) (fun _ => ?_)⟩
    · refine LoopW.m1 (fun (l : Sl) w' => ∃ rs : List ROp, rs.length ≤ 4097 ∧ l.len = rs.length ∧ (∀ x, x ∈ rs → ByR x.o.Data) ∧ SH w w' (rO l rs :: bO rs :: aC cb s :: rD td disk :: [])) (fun (l : Sl) _ => 4097 - l.len) ⟨rs, by omega, by have := h.len 0 rfl; rw [recs_len] at this; exact this, hby, ((((h.dropAt 6).dropAt 5).dropAt 4).dropAt 3)⟩ ?_
      clear h hby hrl
      rintro (l : Sl) w79 ⟨rs, hrl, hll, hby, h⟩ J2 hJ2
      refine (s79 h 2 rfl hb).mono ?_
      rintro _ w81 ⟨n82, rfl, ⟨q0, q1⟩, h⟩
      refine ⟨_, rfl, ?_⟩
      rw [w64 (n := 4096 + n82) (by omega) (by omega)]
      refine BIf.dec (fun hlt => ?_) (fun _ => ⟨n6, td, l, n, disk, rs, rfl, hd, hn, hrl, hby, ((h.dropAt 2).front (n := 2) rfl)⟩)
      have hl2 : rs.length < 4097 := by omega
      refine LetW_iff.2 (SH.appendR1 (f := ROp.cells) (x := ⟨⟨7, 0, 0, 0, []⟩, N0⟩) h rfl rfl rfl (by decide) (by show (_ + _) * 56 ≤ _; omega) (plain_op _) (fun l2 w73 h hl2 _ => ?_))
      have h := h.nil none 1
      have h := SH.bagSnoc (f := opA) (x := (⟨⟨7, 0, 0, 0, []⟩, N0⟩ : ROp)) (((h.front (n := 2) rfl).front (n := 1) rfl))
      refine hJ2 _ _ ⟨rs ++ [⟨⟨7, 0, 0, 0, []⟩, N0⟩], by rw [List.length_append, List.length_singleton]; omega, by rw [List.length_append, List.length_singleton]; exact hl2, fun x hx => ?_, h.p1⟩ (by omega)
      rcases List.mem_append.1 hx with hx | hx
      · exact hby x hx
      · rw [List.mem_singleton.1 hx]; exact ⟨fun y hy => by simp at hy, by simp⟩
    · exact ⟨n6, td, l, n, disk, rs, rfl, hd, hn, by omega, hby, ((((((h.dropAt 6).dropAt 5).dropAt 4).dropAt 3).dropAt 2).front (n := 2) rfl)⟩
end Go.Proofs.Ytenhcpjlkmbedaa

/- FnCacheClear: the law's walk. Conditions: none. -/
set_option linter.unusedVariables false
set_option linter.unusedSimpArgs false
namespace Go.Proofs.Ytenhcpjlkmbedaa
open Go Go.Den Go.Cc
theorem wrL_few {c : Cache} {i : Nat} {l : Line} : (wrL c i l).2.length ≤ 1 := by unfold wrL; split <;> simp
theorem fetch_few {c c1 : Cache} {s : Int} {i : Nat} {w : List Wr} (h : fetch c s = some (c1, i, w)) : w.length ≤ 1 := by
  unfold fetch at h
  split at h
  · split at h
    · cases h
    · simp only [Option.some.injEq, Prod.mk.injEq] at h; rw [← h.2.2]; simp
  · split at h
    · cases h
    · rename_i c2 w2 hr
      simp only [Option.some.injEq, Prod.mk.injEq] at h
      rw [← h.2.2]
      unfold room at hr
      split at hr
      · split at hr
        · cases hr
        · split at hr
          · cases hr
          · simp only [Option.some.injEq, Prod.mk.injEq] at hr; rw [← hr.2]; exact wrL_few
      · simp only [Option.some.injEq, Prod.mk.injEq] at hr; rw [← hr.2]; simp
theorem flush_few (c : Cache) : ∀ k, (flK c k).2.length ≤ k
  | 0 => Nat.le_refl _
  | k + 1 => by
    have ih := flush_few c k
    rw [flK_succ]
    unfold flush1
    split
    · omega
    · rename_i l hl
      have := wrL_few (c := (flK c k).1) (i := k) (l := l)
      simp only [List.length_append]
      omega
theorem step_few {n : Nat} {c : Cache} {o : COp} (h : c.Lines.length ≤ 64) : (stepC n c o).2.Writes.length ≤ 64 := by
  unfold stepC
  split
  · simp
  split
  · have := flush_few c c.Lines.length
    show (flushC c).2.length ≤ 64
    unfold flushC
    unfold flK at this
    omega
  split
  · simp
  split
  · split
    · simp
    · split
      · simp
      · have := wrL_few (c := c) (i := ‹Nat›) (l := ‹Line›)
        show (wrL c _ _).2.length ≤ 64
        omega
  · split
    · simp
    · rename_i c1 i w hf
      have := fetch_few hf
      split
      · simp
      · split
        · show w.length ≤ 64; omega
        · show w.length ≤ 64; omega
theorem run_few {n : Nat} {c : Cache} (h : COk n c) (hc : c.Cap ≤ 64) {ops : List COp} (hk : ∀ o, o ∈ ops → o.Kind ≠ 3 ∧ o.Kind ≠ 6) : ∀ k, k ≤ ops.length → ∀ r, r ∈ (runC n c (ops.take k)).2 → r.Writes.length ≤ 64
  | 0, _, r, hr => by simp [runC] at hr
  | k + 1, hkl, r, hr => by
    have hget : ops[k]? = some ops[k] := List.getElem?_eq_getElem (by omega)
    rw [runC_snoc hget] at hr
    rcases List.mem_append.1 hr with hr | hr
    · exact run_few h hc hk k (by omega) r hr
    · rw [List.mem_singleton.1 hr]
      have hj := run_ok h (ops.take k) (fun o ho => hk o (take_mem ho))
      have h1 := hj.ok.few
      have h2 := hj.cap
      exact step_few (by omega)
theorem step_data {n : Nat} {c : Cache} {o : COp} (h : COk n c) (h3 : o.Kind ≠ 3) (h6 : o.Kind ≠ 6) : (stepC n c o).2.Data.length ≤ 128 := by
  unfold stepC
  split
  · simp
  rename_i hb
  split
  · simp
  split
  · simp
  split
  · split
    · simp
    · split <;> simp
  · rename_i k7 k4 k5
    unfold BadArg at hb
    obtain ⟨c', i, w, l, e, f1, _, _, f2, _⟩ := fetch_ok (s := o.Sector) h (by omega) (by omega)
    rw [e]
    simp only [f2]
    have hl := (f1.ls.each l (List.mem_of_getElem? f2)).len
    split
    · show ((l.Data.drop o.At.toNat).take o.N.toNat).length ≤ 128
      rw [List.length_take, List.length_drop]; omega
    · simp
theorem run_data {n : Nat} {c : Cache} (h : COk n c) {ops : List COp} (hk : ∀ o, o ∈ ops → o.Kind ≠ 3 ∧ o.Kind ≠ 6) : ∀ k, k ≤ ops.length → ∀ r, r ∈ (runC n c (ops.take k)).2 → r.Data.length ≤ 128
  | 0, _, r, hr => by simp [runC] at hr
  | k + 1, hkl, r, hr => by
    have hget : ops[k]? = some ops[k] := List.getElem?_eq_getElem (by omega)
    rw [runC_snoc hget] at hr
    rcases List.mem_append.1 hr with hr | hr
    · exact run_data h hk k (by omega) r hr
    · rw [List.mem_singleton.1 hr]
      have hj := run_ok h (ops.take k) (fun o ho => hk o (take_mem ho))
      have := hk _ (List.mem_of_getElem? hget)
      exact step_data hj.ok this.1 this.2
theorem s43 {w : World} {t : Sl} {l : List Int} (hr : RowAt w t.a t.len (l.map (Value.int .u8))) (hl : l.length ≤ 131072) : CallW Try.prog 43 #[.slice t.a t.len t.cap] w (fun v w' => ∃ t' : Sl, v = .slice t'.a t'.len t'.cap ∧ SH w w' [rD t' l]) := by
  refine go43 ?_
  unfold W43
  have h := SH.start w
  refine h.alloc (fun w1 h e1 n1 => ?_)
  have h := h.drop
  exact SH.appendN (m := []) (h.nil _ 1) (h.ext.row hr) rfl rfl (by decide) (by show (_ + _) * 1 ≤ _; simp; omega) (fun l2 w3 h _ _ => ⟨l2, rfl, h⟩)
theorem s27 {w : World} {t u : Sl} {l : List Int} (hr : RowAt w t.a t.len (l.map (Value.int .u8))) (hu : RowAt w u.a u.len (l.map (Value.int .u8))) (hl : l.length ≤ 131072) : CallW Try.prog 27 #[.slice t.a t.len t.cap, .slice u.a u.len u.cap] w (fun v w' => v = .bool true ∧ Ext w w') := by
  refine go27 ?_
  unfold W27
  have h1 : l.length = t.len := by have := hr.1; simpa using this
  have h2 : l.length = u.len := by have := hu.1; simpa using this
  refine BIf.ne (fun hc => absurd (by omega) hc) (fun _ => ?_)
  refine LoopW.m1 (fun (i : Int) w' => ∃ k : Nat, i = k ∧ k ≤ l.length ∧ Ext w w') (fun (i : Int) _ => (l.length - i).toNat) ⟨0, rfl, by omega, Only.refl _ _⟩ ?_
  rintro (i : Int) w3 ⟨k, rfl, hk, e⟩ J hJ
  refine BIf.dec (fun hlt => ?_) (fun _ => ⟨rfl, e⟩)
  have hx : l[k]? = some l[k] := List.getElem?_eq_getElem (by omega)
  generalize l[k] = x at hx
  have e2 : Ext w w3.drew := e.trans (ext_drew w3)
  obtain ⟨p, hp, hpc⟩ := row_get (e2.row hr) hx
  obtain ⟨p2, hp2, hpc2⟩ := row_get (e2.row hu) hx
  simp only [Int.toNat_natCast]
  rw [w64 (n := (k : Int) + 1) (by omega) (by omega)]
  refine ⟨by omega, by omega, p, hp, _, hpc, by omega, by omega, p2, hp2, _, hpc2, BIf.ne (fun hc => absurd rfl hc) (fun _ => ?_)⟩
  exact hJ _ _ ⟨k + 1, by omega, by omega, e2⟩ (by omega)
structure WrAt (w : World) (s : Sl) (ws : List Wr) : Prop where
  len : s.len = ws.length
  get : ∀ i x, ws[i]? = some x → ∃ (q : Addr) (t : Sl), s.a = some q ∧ w.cell? ((q.add (i * 2)).add 0) = some (.int .i64 x.Sector) ∧ w.cell? ((q.add (i * 2)).add 1) = some (.slice t.a t.len t.cap) ∧ RowAt w t.a t.len (x.Data.map (Value.int .u8)) ∧ t.len = x.Data.length
theorem app_snoc (d : List Int) (l : List Wr) (x : Wr) : Cc.app d (l ++ [x]) = putSec (Cc.app d l) x.Sector.toNat x.Data := by unfold Cc.app; rw [List.foldl_append]; rfl
theorem app_len {n : Nat} {d : List Int} (hd : d.length = 128 * n) : ∀ {l : List Wr}, WrOk n l → (Cc.app d l).length = 128 * n := by
  intro l
  induction l generalizing d with
  | nil => intro _; exact hd
  | cons x r ih =>
    intro h
    obtain ⟨h0, h1, h2⟩ := h x (by simp)
    refine ih (d := putSec d x.Sector.toNat x.Data) ?_ (fun y hy => h y (by simp [hy]))
    unfold putSec
    rw [over_len (by omega), hd]
set_option maxRecDepth 4000 in
set_option maxHeartbeats 2000000 in
theorem s45w {s sw : Sl} {n : Nat} {m : List Int} {ws : List Wr} {w : World} (hr : RowAt w s.a s.len (m.map (Value.int .u8))) (hm : m.length = 128 * n) (hn : n ≤ 1024) (hw : WrAt w sw ws) (hok : WrOk n ws) (hfew : ws.length ≤ 1000000) :
    CallW Try.prog 45 #[.slice s.a s.len s.cap, .slice sw.a sw.len sw.cap] w (fun v w' => ∃ t : Sl, v = .tuple #[.slice t.a t.len t.cap, .bool true] ∧ SH w w' [rD t (Cc.app m ws)]) := by
  refine go45 ?_
  unfold W45
  have h := SH.start w
  have hl : s.len = m.length := by have := hr.1; simpa using this.symm
  have hwl := hw.len
  refine (c106 hl).mono ?_
  rintro _ w ⟨rfl, rfl⟩
  refine ⟨_, rfl, ?_⟩
  have hdok : dOk m = true := by unfold dOk; rw [decide_eq_true (by omega), decide_eq_true (by omega)]; rfl
  rw [hdok]
  refine BIf.f rfl ?_
  refine SH.appendN (m := []) (h.nil none 1) hr rfl rfl (by decide) (by show (0 + m.length) * 1 ≤ _; omega) (fun l4 w5 h hll4 _ => ?_)
  have htk : ∀ k, WrOk n (ws.take k) := fun k x hx => hok x (List.mem_of_mem_take hx)
  refine LoopW.m1 (fun (n6 : Int) w' => ∃ k : Nat, n6 = k ∧ k ≤ ws.length ∧ SH w w' [rD l4 (Cc.app m (ws.take k))]) (fun (n6 : Int) _ => ((ws.length : Int) - n6).toNat) ⟨0, rfl, by omega, h⟩ ?_
  clear h
  rintro (n6 : Int) w8 ⟨k, rfl, hk, h⟩ J hJ
  have hal := app_len hm (htk k)
  have hl4 := h.len 0 rfl
  rw [nums_len, hal] at hl4
  rw [hwl]
  refine BIf.dec (fun hlt => ?_) (fun hge => ?_)
  · obtain ⟨x, hx⟩ : ∃ x, ws[k]? = some x := ⟨_, List.getElem?_eq_getElem (by omega)⟩
    obtain ⟨q, td, hq, hc0, hc1, hrow, hdl⟩ := hw.get k x hx
    obtain ⟨g1, g2, g3⟩ := hok x (List.mem_of_getElem? hx)
    refine ⟨by omega, by omega, q, hq, _, h.ext.cell hc0, td, h.ext.cell hc1, ?_⟩
    refine h.alloc (fun w12 h ew12 nw12 => ?_)
    refine h.put 0 rfl rfl rfl (fun w13 h nw13 => ?_)
    generalize w8.heap.size = xb at *
    refine ⟨_, h.cell 0 rfl rfl, ?_⟩
    have hdiv : IntKind.i64.wrap ((l4.len : Int).tdiv 128) = n := by rw [hl4, Int.tdiv_eq_ediv_of_nonneg (by omega), w64 (by omega) (by omega)]; omega
    rw [hdiv]
    refine JoinW.cut1 (fun (b15 : Bool) w' => b15 = false ∧ w' = w13) ?_ ?_
    · refine BIf.dec (fun hc => absurd hc (by omega)) (fun hc => ⟨_, h.cell 0 rfl rfl, by decide, decide_eq_false (by omega), rfl⟩)
    rintro (b15 : Bool) w17 ⟨rfl, rfl⟩
    refine join_or_ex td (h.cell 0 rfl rfl) ?_
    rw [hdl, g3]
    refine BIf.f rfl ?_
    have h := h.drew
    refine ⟨_, h.cell 0 rfl rfl, ?_⟩
    rw [w64 (n := x.Sector * 128) (by omega) (by omega)]
    refine ⟨by omega, by omega, td, h.cell 0 rfl rfl, ?_⟩
    have hn2 : min td.len (((l4.len : Nat) : Int).toNat - (x.Sector * 128).toNat) * 1 = td.len := by omega
    rw [hn2]
    refine ⟨_, h.ext.row hrow, plain_u8, ?_⟩
    have h := h.drop
    have hto : (x.Sector * 128).toNat = 128 * x.Sector.toNat := by omega
    rw [hto]
    refine copy_bytes h (by omega) (fun w38 h => ?_)
    rw [w64 (by omega) (by omega)]
    refine hJ _ _ ⟨k + 1, by omega, by omega, ?_⟩ (by omega)
    rw [take_snoc2 hx, app_snoc]
    exact h
  · obtain rfl : k = ws.length := by omega
    rw [List.take_of_length_le (Nat.le_refl _)] at h
    exact ⟨l4, rfl, h⟩
end Go.Proofs.Ytenhcpjlkmbedaa

/- FnCacheClear: the law's walk. Conditions: none. -/
set_option linter.unusedVariables false
set_option linter.unusedSimpArgs false
namespace Go.Proofs.Ytenhcpjlkmbedaa
open Go Go.Den Go.Cc
theorem curb_of {bs : List Int} {w : World} {s : Sl} (h : IsD w (.sl 1 (bs.map (Dat.int .u8))) [.slice s.a s.len s.cap]) (hl : s.len ≤ 1048576) : CurB w s := by
  refine ⟨hl, fun k hk => ?_⟩
  have hlen := (isD_len h).1
  have hget : bs[k]? = some bs[k] := List.getElem?_eq_getElem (by omega)
  obtain ⟨p, es, hp, _, hc, hi⟩ := isD_elem h hget
  obtain ⟨rfl, hwf⟩ := isD_int hi
  have h0 := hc 0 _ rfl
  refine ⟨p, _, hp, h0, ?_⟩
  simp [Lit.wf, IntKind.min, IntKind.max, IntKind.signed, IntKind.bits] at hwf
  omega
theorem goc8 {a0 : Sl} {w : World} {K : Value → World → Prop} (h : W8 a0 w K) : Calls Try.prog 8 #[.slice a0.a a0.len a0.cap] w (fun e w' => ∃ v, e = .returned v ∧ K v w') :=
  denFn_sound tt_ok mix Try.func8 (by kernel_rfl) (eq8 a0 w K ▸ h)
theorem getE_map {α β : Type} {f : α → β} {l : List α} {i : Nat} {y : β} (h : (l.map f)[i]? = some y) : ∃ x, l[i]? = some x ∧ f x = y := by
  rw [List.getElem?_map] at h
  cases hx : l[i]? with
  | none => rw [hx] at h; cases h
  | some x => rw [hx] at h; exact ⟨x, rfl, by simpa using h⟩
/-- Rows whose data lie in bags are lent. -/
theorem ops_lent {w0 w : World} {As : List Asr} {l : Sl} {rs2 rs : List ROp} (h : SH w0 w As) (i j : Nat) (hi : As[i]? = some (rO l rs2)) (hj : As[j]? = some (bO rs)) (hin : ∀ x, x ∈ rs2 → x ∈ rs) (hby : ∀ x, x ∈ rs → ByR x.o.Data) : OpsAt w l (rs2.map ROp.o) := by
  have hl := h.len i hi
  rw [recs_len] at hl
  refine ⟨by rw [List.length_map]; exact hl, fun k o ho => ?_⟩
  obtain ⟨x, hx, rfl⟩ := getE_map ho
  obtain ⟨q, hq⟩ := h.rowQ i hi hx
  obtain ⟨m, hm⟩ := List.getElem?_of_mem (hin x (List.mem_of_getElem? hx))
  have hb := hby x (hin x (List.mem_of_getElem? hx))
  have g := SH.bagOut (h.front hj) hm
  exact ⟨q, x.t, hq, h.rdR i hi hq hx rfl, h.rdR i hi hq hx rfl, h.rdR i hi hq hx rfl, h.rdR i hi hq hx rfl, h.rdR i hi hq hx rfl, SH.byAt (s := x.t) g 0 rfl hb.rng (by have := hb.few; omega)⟩
theorem flat_abs : ∀ rs : List RRes, (rs.flatMap RRes.Ws).map RWr.abs = (rs.map RRes.abs).flatMap Res.Writes
  | [] => rfl
  | x :: r => by rw [List.flatMap_cons, List.map_append, flat_abs r, List.map_cons, List.flatMap_cons]; rfl
theorem flat_few : ∀ rs : List RRes, (∀ x, x ∈ rs → x.Ws.length ≤ 64) → (rs.flatMap RRes.Ws).length ≤ 64 * rs.length
  | [], _ => by simp
  | x :: r, h => by
    have h1 := h x (by simp)
    have h2 := flat_few r (fun y hy => h y (by simp [hy]))
    rw [List.flatMap_cons, List.length_append, List.length_cons]; omega
theorem res_at {w0 w : World} {As : List Asr} {rs : List RRes} {i : Nat} {x : RRes} (h : SH w0 w As) (n : Nat) (hA : As[n]? = some (bR rs)) (hx : rs[i]? = some x) : ∃ G, SH w0 w (rD x.T x.Data :: rW x.W x.Ws :: bW x.Ws :: G) :=
  ⟨_, SH.allOut (As := [rD x.T x.Data, rW x.W x.Ws, bW x.Ws]) (SH.bagOut (h.front hA) hx)⟩
theorem wr_lent {w0 w : World} {As : List Asr} {l : Sl} {rs : List RRes} (h : SH w0 w As) (i j : Nat) (hi : As[i]? = some (rW l (rs.flatMap RRes.Ws))) (hj : As[j]? = some (bR rs)) : WrAt w l ((rs.flatMap RRes.Ws).map RWr.abs) := by
  have hl := h.len i hi
  rw [recs_len] at hl
  refine ⟨by rw [List.length_map]; exact hl, fun k o ho => ?_⟩
  obtain ⟨x, hx, rfl⟩ := getE_map ho
  obtain ⟨q, hq⟩ := h.rowQ i hi hx
  obtain ⟨r, hr, hxr⟩ := List.mem_flatMap.1 (List.mem_of_getElem? hx)
  obtain ⟨m, hm⟩ := List.getElem?_of_mem hr
  obtain ⟨G, g⟩ := res_at h j hj hm
  obtain ⟨m2, hm2⟩ := List.getElem?_of_mem hxr
  have g2 : SH w0 w (rD x.D x.Data :: _) := SH.bagOut (g.front (n := 2) rfl) hm2
  exact ⟨q, x.D, hq, h.rdR i hi hq hx rfl, h.rdR i hi hq hx rfl, g2.rowN 0 rfl, by rw [g2.len 0 rfl, nums_len]; rfl⟩
theorem pair_get {α β : Type} {f : α → β} {a b : List α} (h : a.map f = b.map f) {i : Nat} {x y : α} (hx : a[i]? = some x) (hy : b[i]? = some y) : f x = f y := by
  have h1 : (a.map f)[i]? = some (f x) := by rw [List.getElem?_map, hx]; rfl
  have h2 : (b.map f)[i]? = some (f y) := by rw [List.getElem?_map, hy]; rfl
  rw [h, h2] at h1
  exact (Option.some.inj h1).symm
set_option maxRecDepth 4000 in
set_option maxHeartbeats 8000000 in
theorem walk8 {w : World} {bs : List Int} {p0 : Sl} (h0 : IsD w (.sl 1 (bs.map (Dat.int .u8))) [.slice p0.a p0.len p0.cap]) : Calls Try.prog 8 #[.slice p0.a p0.len p0.cap] w (fun e w' => ∃ v, e = .returned v ∧ (v = .bool true ∧ Ext w w')) := by
  refine goc8 ?_
  unfold W8
  refine c19.mono ?_
  rintro _ w2 ⟨rfl, rfl⟩
  refine ⟨_, rfl, BIf.dec (fun _ => ⟨rfl, Only.refl _ _⟩) (fun hbig => ?_)⟩
  have hb := curb_of h0 (by omega)
  refine (s41 hb).mono ?_
  rintro _ w5 ⟨cap, td, to, n, disk, rs, rfl, hd, hn, hrl, hby, h⟩
  refine ⟨_, td, to, rfl, ?_⟩
  have hto := h.len 1 rfl
  rw [recs_len] at hto
  have htd := h.len 0 rfl
  rw [nums_len] at htd
  refine h.alloc (fun w9 h e9 n9 => ?_)
  have h := h.drop.nil (some ⟨w5.heap.size, 0, none⟩) 5
  refine LoopW.m2 (fun (l : Sl) (i : Int) w' => ∃ (k : Nat) (rs2 : List ROp), i = k ∧ k ≤ rs.length ∧ rs2.length ≤ 60 ∧ (∀ x, x ∈ rs2 → x ∈ rs ∧ x.o.Kind ≠ 3 ∧ x.o.Kind ≠ 6) ∧ SH w2 w' [rO l rs2, rD td disk, rO to rs, bO rs]) (fun _ (i : Int) _ => (rs.length - i).toNat) ⟨0, [], rfl, by omega, by simp, (fun x hx => by simp at hx), h⟩ ?_
  clear h
  rintro (l10 : Sl) (i : Int) w13 ⟨k, rs2, rfl, hk, hr2, hin, h⟩ J hJ
  have hl10 := h.len 0 rfl
  rw [recs_len] at hl10
  refine JoinW.cut1 (fun (b : Bool) w' => (b = true → k < rs.length ∧ rs2.length < 60) ∧ w' = w13) (BIf.dec (fun h1 => ⟨fun e => by have := of_decide_eq_true e; omega, rfl⟩) (fun h1 => ⟨(fun e => by cases e), rfl⟩)) ?_
  rintro (b : Bool) w16 ⟨hb14, rfl⟩
  refine BIf.of (fun ht => ?_) (fun _ => ?_)
  · obtain ⟨hlt, h60⟩ := hb14 ht
    have hx : rs[k]? = some rs[k] := List.getElem?_eq_getElem hlt
    generalize rs[k] = x at hx
    obtain ⟨q, hq⟩ := h.rowQ 2 rfl hx
    simp only [Int.toNat_natCast]
    rw [w64 (n := (k : Int) + 1) (by omega) (by omega)]
    refine ⟨by omega, by omega, q, hq, _, h.rdR 2 rfl hq hx rfl, ?_⟩
    refine JoinW.cut1 (fun (b : Bool) w' => (b = true → x.o.Kind ≠ 3 ∧ x.o.Kind ≠ 6) ∧ w' = w16) (BIf.ne (fun h1 => ⟨by omega, by omega, q, hq, _, h.rdR 2 rfl hq hx rfl, fun e => ⟨h1, by simpa using e⟩, rfl⟩) (fun h1 => ⟨(fun e => by cases e), rfl⟩)) ?_
    rintro (b : Bool) w21 ⟨hk36, rfl⟩
    refine BIf.of (fun ht2 => ?_) (fun _ => hJ _ _ _ ⟨k + 1, rs2, by omega, by omega, hr2, hin, h⟩ (by omega))
    refine ⟨by omega, by omega, q, hq, _, h.rdR 2 rfl hq hx rfl, _, h.rdR 2 rfl hq hx rfl, _, h.rdR 2 rfl hq hx rfl, _, h.rdR 2 rfl hq hx rfl, x.t, h.rdR 2 rfl hq hx rfl, ?_⟩
    refine LetW_iff.2 (SH.appendR1 (f := ROp.cells) (x := x) h rfl rfl rfl (by decide) (by show (_ + _) * 56 ≤ _; omega) (plain_op _) (fun l2 w30 h hl2 _ => ?_))
    refine hJ _ _ _ ⟨k + 1, rs2 ++ [x], by omega, by omega, by rw [List.length_append, List.length_singleton]; omega, fun y hy => ?_, h⟩ (by omega)
    rcases List.mem_append.1 hy with hy | hy
    · exact hin y hy
    · rw [List.mem_singleton.1 hy]; exact ⟨List.mem_of_getElem? hx, hk36 ht2⟩
  clear hb14 hJ J
  refine LetW_iff.2 (SH.appendR1 (f := ROp.cells) (x := ⟨⟨7, 0, 0, 0, []⟩, N0⟩) h rfl rfl rfl (by decide) (by show (_ + _) * 56 ≤ _; omega) (plain_op _) (fun l34 w35 h hl34 _ => ?_))
  have h := SH.bagSnoc (f := opA) (x := (⟨⟨7, 0, 0, 0, []⟩, N0⟩ : ROp)) (have h := h.nil none 1; ((h.front (n := 4) rfl).front (n := 1) rfl))
  have hin3 : ∀ x, x ∈ rs2 ++ [(⟨⟨7, 0, 0, 0, []⟩, N0⟩ : ROp)] → x ∈ rs ++ [(⟨⟨7, 0, 0, 0, []⟩, N0⟩ : ROp)] := fun x hx => by
    rcases List.mem_append.1 hx with hx | hx
    · exact List.mem_append_left _ (hin x hx).1
    · exact List.mem_append_right _ hx
  have hby3 : ∀ x, x ∈ rs ++ [(⟨⟨7, 0, 0, 0, []⟩, N0⟩ : ROp)] → ByR x.o.Data := fun x hx => by
    rcases List.mem_append.1 hx with hx | hx
    · exact hby x hx
    · rw [List.mem_singleton.1 hx]; exact ⟨fun y hy => by simp at hy, by simp⟩
  have hkk : ∀ o, o ∈ rs2.map ROp.o → o.Kind ≠ 3 ∧ o.Kind ≠ 6 := fun o ho => by
    obtain ⟨x, hx, rfl⟩ := List.mem_map.1 ho
    exact (hin x hx).2
  have hops : (rs2 ++ [(⟨⟨7, 0, 0, 0, []⟩, N0⟩ : ROp)]).map ROp.o = rs2.map ROp.o ++ [⟨7, 0, 0, 0, []⟩] := by rw [List.map_append]; rfl
  have hkk2 : ∀ o, o ∈ (rs2 ++ [(⟨⟨7, 0, 0, 0, []⟩, N0⟩ : ROp)]).map ROp.o → o.Kind ≠ 3 ∧ o.Kind ≠ 6 := fun o ho => by
    rw [hops] at ho
    rcases List.mem_append.1 ho with ho | ho
    · exact hkk o ho
    · rw [List.mem_singleton.1 ho]; exact ⟨by decide, by decide⟩
  obtain ⟨a1, a2, a3, a4, a5⟩ := room_alike (n := n) (c1 := 1) (c2 := 64) (disk := disk) (by omega) (by omega) hd hkk (fl := ⟨7, 0, 0, 0, []⟩) rfl
  have hl3 : ((rs2 ++ [(⟨⟨7, 0, 0, 0, []⟩, N0⟩ : ROp)]).map ROp.o).length ≤ 61 := by rw [List.length_map, List.length_append, List.length_singleton]; omega
  have hf1 := run_few (new_ok (n := n) (cap := 1) (by omega) hd) (by show (1 : Int) ≤ 64; omega) hkk2 _ (Nat.le_refl _)
  rw [List.take_length] at hf1
  have hg1 := run_data (new_ok (n := n) (cap := 1) (by omega) hd) hkk2 _ (Nat.le_refl _)
  rw [List.take_length] at hg1
  have b1 := (run_ok (new_ok (n := n) (cap := 1) (by omega) hd) _ hkk2).len
  have b2 := (run_ok (new_ok (n := n) (cap := 64) (by omega) hd) _ hkk2).len
  have hD1 := (run_ok (new_ok (n := n) (cap := 1) (by omega) hd) _ hkk2).ok.disk
  rw [← hops] at a1 a2 a3 a4 a5
  have hrl3 : ((rs2 ++ [(⟨⟨7, 0, 0, 0, []⟩, N0⟩ : ROp)]).map ROp.o).length = (rs2 ++ [(⟨⟨7, 0, 0, 0, []⟩, N0⟩ : ROp)]).length := List.length_map ..
  generalize rs2 ++ [(⟨⟨7, 0, 0, 0, []⟩, N0⟩ : ROp)] = rs3 at *
  generalize rs ++ [(⟨⟨7, 0, 0, 0, []⟩, N0⟩ : ROp)] = rs4 at *
  generalize hop : rs3.map ROp.o = ops at *
  have h : SH w2 w35 [rO l34 rs3, rD td disk, bO rs4] := (((h.dropAt 3).front (n := 2) rfl).front (n := 2) rfl)
  have hl34 := h.len 0 rfl
  rw [recs_len] at hl34
  refine (s43 (h.rowN 1 rfl) (by omega)).mono ?_
  rintro _ w37 ⟨t1, rfl, g⟩
  have h := h.seq g
  have ht1 := h.len 0 rfl
  rw [nums_len] at ht1
  refine ⟨t1, rfl, (s42 (cap := 1) (n := n) (ops := ops) (h.rowN 0 rfl) ht1 (h.lenCap 0 rfl) (by omega) (by omega) hd (by omega) (by rw [← hop]; exact ops_lent h 1 3 rfl rfl hin3 hby3) (by omega) hkk2).mono ?_⟩
  rintro _ w40 ⟨lA, dA, rsA, rfl, eA, g⟩
  have h := h.seq g
  have h : SH w2 w40 [rD dA (runC n (new 1 disk) ops).1.Disk, rR lA rsA, bR rsA, rO l34 rs3, rD td disk, bO rs4] := h.dropAt 3
  refine ⟨lA, dA, rfl, (s43 (h.rowN 4 rfl) (by omega)).mono ?_⟩
  rintro _ w44 ⟨t2, rfl, g⟩
  have h := h.seq g
  have ht2 := h.len 0 rfl
  rw [nums_len] at ht2
  refine ⟨t2, rfl, (s42 (cap := 64) (n := n) (ops := ops) (h.rowN 0 rfl) ht2 (h.lenCap 0 rfl) (by omega) (by omega) hd (by omega) (by rw [← hop]; exact ops_lent h 4 6 rfl rfl hin3 hby3) (by omega) hkk2).mono ?_⟩
  rintro _ w47 ⟨lB, dB, rsB, rfl, eB, g⟩
  have h := h.seq g
  have h : SH w2 w47 [rD dB (runC n (new 64 disk) ops).1.Disk, rR lB rsB, bR rsB, rD dA (runC n (new 1 disk) ops).1.Disk, rR lA rsA, bR rsA, rO l34 rs3, rD td disk, bO rs4] := h.dropAt 3
  refine ⟨lB, dB, rfl, by decide, ?_⟩
  refine JoinW.cut1 (fun (b : Bool) w' => b = false ∧ w' = w47) (BIf.ne (fun hc => absurd (by rw [Int.tmod_eq_emod_of_nonneg (by omega)]; omega) hc) (fun _ => ⟨decide_eq_false (by omega), rfl⟩)) ?_
  rintro (b : Bool) w52 ⟨rfl, rfl⟩
  refine BIf.f rfl ?_
  refine (s43 (h.rowN 7 rfl) (by omega)).mono ?_
  rintro _ w54 ⟨t3, rfl, g⟩
  have h := h.seq g
  refine ⟨t3, rfl, (s44 (cap := 1) (n := n) (ops := ops) (h.rowN 0 rfl) (by omega) (by omega) hd (by omega) (by rw [← hop]; exact ops_lent h 7 9 rfl rfl hin3 hby3) (by omega) hkk2).mono ?_⟩
  rintro _ w57 ⟨lS, dS, rsS, rfl, eS, g⟩
  have h := h.seq g
  have h : SH w2 w57 [rD dS (runC n (new 1 disk) ops).1.Disk, rR lS rsS, bR rsS, rD dB (runC n (new 64 disk) ops).1.Disk, rR lB rsB, bR rsB, rD dA (runC n (new 1 disk) ops).1.Disk, rR lA rsA, bR rsA, rO l34 rs3, rD td disk, bO rs4] := h.dropAt 3
  refine ⟨lS, dS, rfl, ?_⟩
  have hlS := h.len 1 rfl
  have hlB := h.len 4 rfl
  have hlA := h.len 7 rfl
  rw [recs_len] at hlS hlB hlA
  have nA : rsA.length = ops.length := by rw [← List.length_map (f := RRes.abs), eA, b1]
  have nB : rsB.length = ops.length := by rw [← List.length_map (f := RRes.abs), eB, b2]
  have nS : rsS.length = ops.length := by rw [← List.length_map (f := RRes.abs), eS, b1]
  have hAB : rsA.map (fun x => (x.Code, x.Data)) = rsB.map (fun x => (x.Code, x.Data)) := by
    rw [← eA, ← eB, List.map_map, List.map_map] at a1; exact a1
  have hAS : rsA.map RRes.abs = rsS.map RRes.abs := eA.trans eS.symm
  have hWs : ∀ x, x ∈ rsA → x.Ws.length ≤ 64 := fun x hx => by
    have := hf1 x.abs (by rw [← eA]; exact List.mem_map.2 ⟨x, hx, rfl⟩)
    have e : x.abs.Writes = x.Ws.map RWr.abs := rfl
    rw [e, List.length_map] at this; exact this
  have hDs : ∀ x, x ∈ rsA → x.Data.length ≤ 128 := fun x hx => hg1 x.abs (by rw [← eA]; exact List.mem_map.2 ⟨x, hx, rfl⟩)
  have hdk : (runC n (new 64 disk) ops).1.Disk = (runC n (new 1 disk) ops).1.Disk := a2.symm
  rw [hdk] at h
  have hwk : WrOk n ((rsA.flatMap RRes.Ws).map RWr.abs) := by
    rw [flat_abs, eA]
    intro x hx
    obtain ⟨r, hr, hxr⟩ := List.mem_flatMap.1 hx
    exact a4 r hr x hxr
  have happ : Cc.app disk ((rsA.flatMap RRes.Ws).map RWr.abs) = (runC n (new 1 disk) ops).1.Disk := by rw [flat_abs, eA]; exact a3.symm
  have hff := flat_few rsA hWs
  generalize (runC n (new 1 disk) ops).1.Disk = DK at *
  clear a1 a2 a3 a4 a5 hf1 hg1 b1 b2 eA eB eS
  refine BIf.ne (fun hc => absurd (by omega) hc) (fun _ => ?_)
  refine h.alloc (fun w60 h e60 n60 => ?_)
  have h := h.drop.nil (some ⟨w57.heap.size, 0, none⟩) 2
  refine LoopW.m2 (fun (l : Sl) (i : Int) w' => ∃ k : Nat, i = k ∧ k ≤ ops.length ∧ SH w2 w' [rW l ((rsA.take k).flatMap RRes.Ws), rD dS DK, rR lS rsS, bR rsS, rD dB DK, rR lB rsB, bR rsB, rD dA DK, rR lA rsA, bR rsA, rO l34 rs3, rD td disk, bO rs4]) (fun _ (i : Int) _ => (ops.length - i).toNat) ⟨0, rfl, by omega, h⟩ ?_
  clear h
  rintro (l61 : Sl) (i : Int) w64 ⟨k, rfl, hk, h⟩ J hJ
  refine BIf.dec (fun hlt => ?_) (fun hge => ?_)
  · have hxA : rsA[k]? = some rsA[k] := List.getElem?_eq_getElem (by omega)
    have hxB : rsB[k]? = some rsB[k] := List.getElem?_eq_getElem (by omega)
    have hxS : rsS[k]? = some rsS[k] := List.getElem?_eq_getElem (by omega)
    generalize rsA[k] = xA at hxA
    generalize rsB[k] = xB at hxB
    generalize rsS[k] = xS at hxS
    have c1 := pair_get hAB hxA hxB
    have c2 := congrArg Res.Code (pair_get hAS hxA hxS)
    have c2 : xA.Code = xS.Code := c2
    simp only [Prod.mk.injEq] at c1
    obtain ⟨c1, c3⟩ := c1
    obtain ⟨qA, hqA⟩ := h.rowQ 8 rfl hxA
    obtain ⟨qB, hqB⟩ := h.rowQ 5 rfl hxB
    obtain ⟨qS, hqS⟩ := h.rowQ 2 rfl hxS
    simp only [Int.toNat_natCast]
    rw [Go.Den.w64 (n := (k : Int) + 1) (by omega) (by omega)]
    refine JoinW.cut1 (fun (b : Bool) w' => b = false ∧ SH w2 w' [rW l61 ((rsA.take k).flatMap RRes.Ws), rD dS DK, rR lS rsS, bR rsS, rD dB DK, rR lB rsB, bR rsB, rD dA DK, rR lA rsA, bR rsA, rO l34 rs3, rD td disk, bO rs4]) ?_ ?_
    · have h := h.drew
      refine BIf.dec (fun hc => absurd hc (by omega)) (fun _ => BIf.dec (fun hc => absurd hc (by omega)) (fun _ => ⟨by omega, by omega, qA, hqA, _, h.rdR 8 rfl hqA hxA rfl, by omega, by omega, qB, hqB, _, h.rdR 5 rfl hqB hxB rfl, BIf.ne (fun hc => absurd c1 hc) (fun _ => ?_)⟩))
      refine ⟨by omega, by omega, qA, hqA, xA.T, h.rdR 8 rfl hqA hxA rfl, by omega, by omega, qB, hqB, xB.T, h.rdR 5 rfl hqB hxB rfl, ?_⟩
      obtain ⟨G, g⟩ := res_at h 9 rfl hxA
      obtain ⟨G2, g2⟩ := res_at h 6 rfl hxB
      have r2 := g2.rowN 0 rfl
      rw [← c3] at r2
      refine (s27 (g.rowN 0 rfl) r2 ?_).mono ?_
      · have := hDs xA (List.mem_of_getElem? hxA); omega
      · rintro _ w85 ⟨rfl, ee⟩
        exact ⟨_, rfl, rfl, h.to ee⟩
    clear h
    rintro (b : Bool) w67 ⟨rfl, h⟩
    have h := h.drew
    refine BIf.f rfl ⟨by omega, by omega, qA, hqA, _, h.rdR 8 rfl hqA hxA rfl, by omega, by omega, qS, hqS, _, h.rdR 2 rfl hqS hxS rfl, BIf.ne (fun hc => absurd c2 hc) (fun _ => ?_)⟩
    refine ⟨by omega, by omega, qA, hqA, xA.W, h.rdR 8 rfl hqA hxA rfl, ?_⟩
    obtain ⟨G, g⟩ := res_at h 9 rfl hxA
    have hwl := g.len 1 rfl
    rw [recs_len] at hwl
    have hx64 := hWs xA (List.mem_of_getElem? hxA)
    have hfk := flat_few (rsA.take k) (fun x hx => hWs x (take_mem hx))
    rw [List.length_take] at hfk
    refine SH.appendR (f := RWr.cells) (us := xA.Ws) h (g.rowR 1 rfl) hwl.symm (fun _ => rfl) rfl rfl (by decide) (by show (_ + _) * 32 ≤ _; omega) plain_wr (fun l2 w75 h hl2 _ => ?_)
    refine hJ _ _ _ ⟨k + 1, by omega, by omega, ?_⟩ (by omega)
    rw [take_snoc2 hxA, List.flatMap_append, List.flatMap_cons, List.flatMap_nil, List.append_nil]
    exact h
  · obtain rfl : k = ops.length := by omega
    rw [List.take_of_length_le (by omega)] at h
    refine (s45w (n := n) (h.rowN 11 rfl) hd (by omega) (wr_lent h 0 9 rfl rfl) hwk (by rw [List.length_map]; omega)).mono ?_
    rw [happ]
    rintro _ w88 ⟨t, rfl, g⟩
    have h := h.seq g
    refine ⟨t, _, rfl, ?_⟩
    refine JoinW.cut1 (fun (b : Bool) w' => b = true ∧ Ext w88 w') (BIf.t rfl ((s27 (h.rowN 8 rfl) (h.rowN 5 rfl) (by omega)).mono ?_)) ?_
    · rintro _ w101 ⟨rfl, ee⟩
      exact ⟨_, rfl, rfl, ee⟩
    rintro (b : Bool) w93 ⟨rfl, ee⟩
    have h := h.to ee
    refine JoinW.cut1 (fun (b : Bool) w' => b = true ∧ Ext w93 w') (BIf.t rfl ((s27 (h.rowN 8 rfl) (h.rowN 0 rfl) (by omega)).mono ?_)) ?_
    · rintro _ w98 ⟨rfl, ee⟩
      exact ⟨_, rfl, rfl, ee⟩
    rintro (b : Bool) w96 ⟨rfl, ee⟩
    exact ⟨rfl, (h.to ee).ext⟩
open Go.RowKit in
theorem law_calls8 {w : World} {a0 : Option Addr} {len0 cap0 : Nat} {bs : List Int} (h0 : (Go.Den.cSlice (Go.Den.cInt .u8)).is w [.slice a0 len0 cap0] bs) : Calls Try.prog 8 #[.slice a0 len0 cap0] w (fun e w' => e = .returned (.bool true) ∧ Below w.heap.size w w') :=
  (walk8 (p0 := ⟨a0, len0, cap0⟩) (isD_mkSl (f := Dat.int .u8) h0 (fun es x hx => isD_mkInt hx))).mono (by rintro e w' ⟨v, rfl, rfl, he⟩; exact ⟨rfl, he.below⟩)
end Go.Proofs.Ytenhcpjlkmbedaa

/- The row of the law FnCacheClear: what its walk shows is what the statement says. Conditions: none. -/
namespace Go.Proofs.Ytenhcpjlkmbedaa.fnCacheClear
open Go.ChangeShapes Go.WideShapes Go.ChangeAt Go.RowKit
open Go.ChangeMaps (open_string shut_string)
set_option linter.unusedVariables false
theorem own : ownKnob Try.prog.godebug = none := by kernel_rfl
theorem laidOut : laidOutB Try.prog = true := by kernel_rfl
set_option maxRecDepth 100000 in
theorem lifted (os : Os) (started : os.Started) (H : Type) (enc : TypeId × Value → H) :
    ReturnsInHanded {} Try.checked os 8 .any (Rows.fnCacheClearSpec.pre6 enc Try.prog Try.f8 Rows.fnCacheClearRow.domain false) (Rows.fnCacheClearSpec.post enc Try.prog Try.f8 false true false false) := by
  refine returnsInHanded_of_change_sized (C := Try.checked) own started (by kernel_rfl) Try.func8
    (ChangeSpec.witness6 (enc := enc) (C := Try.checked) false ⟨#[], #[.slice none 0 0], []⟩ 8 (by kernel_rfl) (by kernel_rfl) (by kernel_rfl) (by kernel_rfl)) ?_
  intro W base args ds gs before hval0 hW hcnd hsz0 _
  have hsz : (DataW.weightsEach Try.prog (Try.f8.params.toList ++ Rows.fnCacheClearSpec.plain.varTypes Try.prog) (ds ++ gs)).all (· ≤ reachBytes) = true := hsz0
  have hval : ∀ (j : Nat) t v, Try.f8.params[j]? = some t → args[j]? = some v → Value.okWide Try.prog W .any base t v := hval0
  have hW' := hW
  obtain ⟨p, q, hA0, hV, rfl, hfz, hnd⟩ := hW
  have hA : DataW.TrodAll enc Try.prog W 0 (fun _ => true) true Try.f8.params.toList args.toList ds p := hA0
  rw [Try.params8] at hA hval hsz
  obtain ⟨v0, vs0, d0, ds0, p0, q0, hargs, rfl, rfl, h0, r0⟩ := trodAll_cons hA
  obtain ⟨rfl, rfl, rfl⟩ := trodAll_nil r0
  obtain rfl : args = #[v0] := by cases args; simp_all
  obtain ⟨rfl, rfl⟩ := trodVars_none hV
  have k0 := h0
  have lt0 : ∀ x ∈ p0, x.block < W.heap.size := by obtain ⟨m, hm⟩ := k0; exact DataW.trod_lt m _ _ _ hm
  obtain ⟨a0, len0, cap0, rfl⟩ := okWide_slice Try.underlying41 (hval 0 41 v0 rfl rfl)
  obtain ⟨x0, w0⟩ : ∃ x, (Go.Den.cSlice (Go.Den.cInt .u8)).is W [.slice a0 len0 cap0] x := by obtain ⟨fuel, hf⟩ := h0; exact ((o41).at_ enc W fuel _ _ hf).2
  clear hA0 hval0 hsz0 hsz
  refine (law_calls8 w0).mono fun e W' ⟨he, bel⟩ => ?_
  subst he
  exact ⟨_, rfl, _, _, _, [], _, [], hW', trodAll_mk1 (shut_bool Try.underlying4 _), (trodAll_cons_mk (Below.trod laidOut (by kernel_rfl) (of_decide_eq_true (by kernel_rfl)) k0 bel lt0) trodAll_mk0), rfl, bel.frame _, fun h => by cases h⟩
theorem over : Rows.fnCacheClearRow.holds Try.pinned (OpenSpec.ofChange Rows.fnCacheClearSpec) :=
  OpenClaim.holds_of_wide 8 Try.f8 rfl rfl rfl rfl rfl rfl rfl ⟨rfl, rfl, rfl, rfl, rfl⟩ rfl rfl rfl rfl rfl (by kernel_rfl) Try.func8 (by kernel_rfl)
    (of_decide_eq_true (by kernel_rfl)) (by unfold Func.isWrapper; first | (rw [if_pos (by decide +kernel)]; kernel_rfl) | (rw [if_neg (by decide +kernel)]; exact ⟨rfl, rfl⟩))
    (fun os started H enc _ => lifted os started H enc)
theorem proved : Rows.FnCacheClearSaid := over
#print axioms proved
end Go.Proofs.Ytenhcpjlkmbedaa.fnCacheClear
namespace Go.Proofs.Ytenhcpjlkmbedaa
/-- The row, under a short name, for the claim. -/
theorem fnCacheClear_holds : Rows.FnCacheClearSaid := fnCacheClear.proved
end Go.Proofs.Ytenhcpjlkmbedaa
