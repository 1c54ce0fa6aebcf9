/- Part 4 of 4: plain readings of code, rules for them, and a proof over them, joined by a program. Conditions: none. -/
import Derived.Test.YtenhcpjlkmbedaaJnPl3
import Derived.Test.YtenhcpjlkmbedaaRows
import Derived.WalkKit
import Derived.ProofKit
import Derived.OpenShut
import Derived.ShutString
import Derived.ChangeOld
import Derived.Below
import Derived.Carry
import Derived.SizedLaws
/- The journal's plan, both sides. Conditions: none. -/
set_option linter.unusedVariables false
set_option linter.unusedSimpArgs false
namespace Go.Proofs.Ytenhcpjlkmbedaa
open Go Go.Den
/-- Writes that are lent. -/
structure WsAt (w : World) (s : Sl) (ws : List DDiskWrite) : Prop where
  len : s.len = ws.length
  get : ∀ i x, ws[i]? = some x → ∃ (q : Addr) (t : Sl), s.a = some q ∧ w.cell? ((q.add (i * 2)).add 0) = some (.int .i64 x.Sector) ∧ w.cell? ((q.add (i * 2)).add 1) = some (.slice t.a t.len t.cap) ∧ Bytes w t x.Data ∧ (Lit.int .i64 x.Sector).wf = true
  few : ws.length ≤ 1099511627776
theorem WsAt.ext {w w' : World} {s : Sl} {ws : List DDiskWrite} (h : WsAt w s ws) (e : Ext w w') : WsAt w' s ws :=
  ⟨h.len, fun i x hx => by
    obtain ⟨q, t, h1, h2, h3, h4, h5⟩ := h.get i x hx
    exact ⟨q, t, h1, e.cell h2, e.cell h3, h4.ext e, h5⟩, h.few⟩
/-- One write, as cells. -/
def dw (p : Int × List Int) : List Ce := [.v (.int .i64 p.1), .sl 1 (nums .u8 p.2)]
def dws (l : List (Int × List Int)) : List (List Ce) := l.map dw
theorem dws_len (l : List (Int × List Int)) : (dws l).length = l.length := by unfold dws; simp
theorem dws_app (a b : List (Int × List Int)) : dws (a ++ b) = dws a ++ dws b := by unfold dws; simp
theorem SH.dwClose {w0 w : World} {F : List Asr} {s t : Sl} {l : List (Int × List Int)} {a : Int} {m : List Int} (h : SH w0 w (aRow s 2 (dws l ++ [[Value.int .i64 a, .slice t.a t.len t.cap].map Ce.v]) :: aRow t 1 (nums .u8 m) :: F)) : SH w0 w (aRow s 2 (dws (l ++ [(a, m)])) :: F) := by
  have := SH.closeAt (a := dws l) (b := []) (e1 := [.v (.int .i64 a)]) (e2 := []) h
  rw [dws_app]; exact this
theorem SH.dwCloseB {w0 w : World} {F : List Asr} {s t : Sl} {l : List (Int × List Int)} {b : List (List Ce)} {a : Int} {m : List Int} (h : SH w0 w (aRow s 2 (dws l ++ [Value.int .i64 a, .slice t.a t.len t.cap].map Ce.v :: b) :: aRow t 1 (nums .u8 m) :: F)) : SH w0 w (aRow s 2 (dws (l ++ [(a, m)]) ++ b) :: F) := by
  have := SH.closeAt (a := dws l) (b := b) (e1 := [.v (.int .i64 a)]) (e2 := []) h
  rw [dws_app, List.append_assoc]; exact this
theorem dws_plain {l : List (Int × List Int)} : ∀ e, e ∈ dws l → ∀ x, Ce.v x ∈ e → plainB x = true := by
  intro e he x hx
  obtain ⟨p, _, rfl⟩ := List.mem_map.1 he
  simp only [dw, List.mem_cons, List.not_mem_nil, or_false, Ce.v.injEq] at hx
  rcases hx with rfl | hx
  · rfl
  · cases hx
theorem plain_dw {a : Int} {t : Sl} : ∀ v, v ∈ [Value.int .i64 a, Value.slice t.a t.len t.cap] → plainB v = true := fun v hv => by
  simp only [List.mem_cons, List.not_mem_nil, or_false] at hv
  rcases hv with rfl | rfl <;> rfl
/-- One entry of the list: a sector, a sum. -/
def entE (x : DDiskWrite) : List Int := le x.Sector 8 ++ le (crc x.Data) 8
def entL (ws : List DDiskWrite) : List Int := ws.flatMap entE
theorem entE_len (x : DDiskWrite) : (entE x).length = 16 := by simp [entE, le_len]
theorem entL_len (ws : List DDiskWrite) : (entL ws).length = 16 * ws.length := by
  induction ws with
  | nil => rfl
  | cons a r ih =>
    have : entL (a :: r) = entE a ++ entL r := rfl
    rw [this, List.length_append, entE_len, ih, List.length_cons]; omega
theorem entL_snoc (l : List DDiskWrite) (x : DDiskWrite) : entL (l ++ [x]) = entL l ++ entE x := by simp [entL]
theorem entL_rng (ws : List DDiskWrite) : ∀ y, y ∈ entL ws → 0 ≤ y ∧ y ≤ 255 := by
  intro y h
  obtain ⟨x, _, h⟩ := List.mem_flatMap.1 h
  rcases List.mem_append.1 h with h | h <;> exact le_rng _ _ _ h
def PlanOk (m : List Int) (ws : List DDiskWrite) (i : Nat) (x : DDiskWrite) : Prop := 20 ≤ x.Sector ∧ x.Sector < (m.length : Int) / 128 ∧ x.Data.length = 128 ∧ ∀ y, 0 < i → ws[i - 1]? = some y → y.Sector < x.Sector
def listB (ws : List DDiskWrite) : List Int := entL ws ++ List.replicate (256 - 16 * ws.length) 0
def copiesL (ws : List DDiskWrite) : List (Int × List Int) := ws.zipIdx.map (fun p => (3 + (p.2 : Int), p.1.Data))
def homesL (ws : List DDiskWrite) : List (Int × List Int) := ws.map (fun x => (x.Sector, x.Data))
def nextQ (m : List Int) : Int := IntKind.u64.wrap (word m 16 + 1)
def planL (m : List Int) (ws : List DDiskWrite) : List (Int × List Int) :=
  copiesL ws ++ [(1, (listB ws).take 128), (2, (listB ws).drop 128), (0, hdF (nextQ m) ws.length (crc (entL ws)))] ++ homesL ws ++ [(0, hdF (nextQ m) 0 0)]
structure PlanGood (m : List Int) (ws : List DDiskWrite) : Prop where
  empty : EmptyJ m
  some_ : 1 ≤ ws.length
  few : ws.length ≤ 16
  each : ∀ i x, ws[i]? = some x → PlanOk m ws i x
open Classical in
noncomputable def planF (m : List Int) (ws : List DDiskWrite) : List (Int × List Int) × Int := if PlanGood m ws then (planL m ws, 0) else ([], 1)
def PlanR (m : List Int) (ws : List DDiskWrite) (w : World) (v : Value) (w' : World) : Prop := ∃ t : Sl, v = .tuple #[.slice t.a t.len t.cap, .int .i64 (planF m ws).2] ∧ SH w w' [aRow t 2 (dws (planF m ws).1)]
theorem plan_bad {m : List Int} {ws : List DDiskWrite} (h : ¬ PlanGood m ws) : planF m ws = ([], 1) := by unfold planF; rw [if_neg h]
theorem plan_good {m : List Int} {ws : List DDiskWrite} (h : PlanGood m ws) : planF m ws = (planL m ws, 0) := by unfold planF; rw [if_pos h]
theorem planR_bad {m : List Int} {ws : List DDiskWrite} {w w' : World} {F : List Asr} (h : ¬ PlanGood m ws) (a : Option Addr) (hs : SH w w' F) : PlanR m ws w (.tuple #[.slice a 0 0, .int .i64 1]) w' := by
  refine ⟨⟨a, 0, 0⟩, by rw [plan_bad h], ?_⟩
  rw [plan_bad h]
  have : SH w w' [] := by
    have e := hs.ext
    exact (SH.start w).to e
  exact this.nil a 2
theorem copies_snoc (l : List DDiskWrite) (x : DDiskWrite) : copiesL (l ++ [x]) = copiesL l ++ [(3 + (l.length : Int), x.Data)] := by
  unfold copiesL
  rw [List.zipIdx_append]; simp
theorem homes_snoc (l : List DDiskWrite) (x : DDiskWrite) : homesL (l ++ [x]) = homesL l ++ [(x.Sector, x.Data)] := by unfold homesL; simp
theorem copies_len (l : List DDiskWrite) : (copiesL l).length = l.length := by unfold copiesL; simp
theorem homes_len (l : List DDiskWrite) : (homesL l).length = l.length := by unfold homesL; simp
theorem take_snoc {α : Type} {l : List α} {k : Nat} {x : α} (h : l[k]? = some x) : l.take (k + 1) = l.take k ++ [x] := by rw [List.take_add_one, h]; rfl
theorem listB_len {ws : List DDiskWrite} (h : ws.length ≤ 16) : (listB ws).length = 256 := by unfold listB; rw [List.length_append, entL_len, List.length_replicate]; omega
theorem listB_rng (ws : List DDiskWrite) : ∀ y, y ∈ listB ws → 0 ≤ y ∧ y ≤ 255 := by
  intro y h
  rcases List.mem_append.1 h with h | h
  · exact entL_rng _ _ h
  · rw [(List.mem_replicate.1 h).2]; omega
theorem nextQ_rng (m : List Int) : 0 ≤ nextQ m ∧ nextQ m < 18446744073709551616 := by unfold nextQ; rw [IntKind.wrap_u64]; omega
set_option maxRecDepth 8000 in
theorem s32 {s sw : Sl} {m : List Int} {ws : List DDiskWrite} {w : World} (hb : Bytes w s m) (hw : WsAt w sw ws) : CallW Try.prog 32 #[.slice s.a s.len s.cap, .slice sw.a sw.len sw.cap] w (PlanR m ws w) := by
  refine go32 ?_
  unfold W32
  have h := SH.start w
  have hwl := hw.len
  have hsm := hb.small
  have hl := hb.len
  refine (s93 hb).mono ?_
  rintro _ w2 ⟨st, seq, t, rfl, hst, hseq, e2⟩
  have h := h.to e2
  refine ⟨_, _, t, rfl, ?_⟩
  refine h.alloc (fun w6 h ew6 nw6 => ?_)
  refine h.put 0 rfl rfl rfl (fun w7 h nw7 => ?_)
  generalize w2.heap.size = sb at *
  refine ⟨_, h.cell 0 rfl rfl, ?_⟩
  simp only [join_or]
  refine BIf.of (fun hc => ?_) (fun hc => ?_)
  · refine planR_bad (fun hg => ?_) _ h
    have h1 := hst.2 hg.empty
    have h2 := hg.some_
    have h3 := hg.few
    rw [h1, hwl] at hc
    simp only [bne_self_eq_false, Bool.false_or, Bool.or_eq_true, decide_eq_true_eq] at hc
    omega
  have hc : st = 1 ∧ 1 ≤ ws.length ∧ ws.length ≤ 16 := by
    rw [hwl] at hc
    simp only [Bool.or_eq_false_iff, decide_eq_false_iff_not, bne_eq_false_iff_eq] at hc
    exact ⟨hc.1.1, by omega, by omega⟩
  obtain ⟨rfl, h1w, h16⟩ := hc
  have hem := hst.1 rfl
  obtain rfl := hseq rfl
  have r16 := word_rng hb.rng 16
  have hbig := hem.big
  refine ⟨by omega, by omega, by omega, by omega, ?_⟩
  refine SH.zeros (z := 1) h rfl (fun w15 h nw15 => ?_)
  generalize w7.heap.size = lb at *
  have h : SH w w15 [aRow ⟨some ⟨lb, 0, none⟩, 256, 256⟩ 1 (nums .u8 (List.replicate 256 0)), aB sb ([.int .i64 1, .int .u64 (word m 16), .slice t.a t.len t.cap].map Ce.v)] := by rw [nums_rep]; exact h
  refine LoopW.m4 (fun (l16 : Sl) (n17 : Int) (l18 : Sl) (n19 : Int) w' => ∃ k : Nat, n19 = k ∧ k ≤ ws.length ∧ (∀ i x, i < k → ws[i]? = some x → PlanOk m ws i x) ∧ (k = 0 → n17 = 19) ∧ (∀ y, 0 < k → ws[k - 1]? = some y → n17 = y.Sector) ∧ SH w w' [aRow l16 2 (dws (copiesL (ws.take k))), aRow l18 2 (dws (homesL (ws.take k))), aRow ⟨some ⟨lb, 0, none⟩, 256, 256⟩ 1 (nums .u8 (entL (ws.take k) ++ List.replicate (256 - 16 * k) 0)), aB sb ([.int .i64 1, .int .u64 (word m 16), .slice t.a t.len t.cap].map Ce.v)]) (fun (l16 : Sl) (n17 : Int) (l18 : Sl) (n19 : Int) _ => ((ws.length : Int) - n19).toNat) ⟨0, rfl, by omega, fun i x hi => by omega, fun _ => rfl, fun y hy => by omega, by simpa [copiesL, homesL, dws, entL] using (h.nil none 2).nil none 2⟩ ?_
  rintro (l16 : Sl) (n17 : Int) (l18 : Sl) (n19 : Int) w21 ⟨k, rfl, hk, hok, hz, hprev, h⟩ J hJ
  rw [hwl]
  refine BIf.dec (fun hlt => ?_) (fun hge => ?_)
  · obtain ⟨x, hx⟩ : ∃ x, ws[k]? = some x := ⟨_, List.getElem?_eq_getElem (by omega)⟩
    obtain ⟨q, td, hq, hc0, hc1, hd, hwf⟩ := hw.get k x hx
    have hdl := hd.len
    have hds := hd.small
    have hmin : n17 ≥ 19 := by
      rcases Nat.eq_zero_or_pos k with h0 | h0
      · rw [hz h0]; omega
      · obtain ⟨y, hy⟩ : ∃ y, ws[k - 1]? = some y := ⟨_, List.getElem?_eq_getElem (by omega)⟩
        rw [hprev y h0 hy]
        have := (hok (k - 1) y (by omega) hy).1
        omega
    refine ⟨by omega, by omega, q, hq, _, h.ext.cell hc0, td, h.ext.cell hc1, ?_⟩
    refine h.alloc (fun w25 h ew25 nw25 => ?_)
    refine h.put 0 rfl rfl rfl (fun w26 h nw26 => ?_)
    generalize w21.heap.size = xb at *
    refine ⟨_, h.cell 0 rfl rfl, ?_⟩
    have hdiv : IntKind.i64.wrap ((s.len : Int).tdiv 128) = (m.length : Int) / 128 := by rw [hl, Int.tdiv_eq_ediv_of_nonneg (by omega), w64 (by omega) (by omega)]
    refine JoinW.cut1 (fun (b28 : Bool) w' => b28 = (decide (x.Sector ≤ n17) || decide (x.Sector ≥ (m.length : Int) / 128)) ∧ w' = w26) ?_ ?_
    · refine BIf.dec (fun hc => ⟨by simp [hc], rfl⟩) (fun hc => ⟨_, h.cell 0 rfl rfl, by decide, by rw [hdiv]; simp [hc], rfl⟩)
    rintro (b28 : Bool) w30 ⟨rfl, rfl⟩
    refine join_or_ex td (h.cell 0 rfl rfl) ?_
    rw [hdl]
    have hpl : ((decide (x.Sector ≤ n17) || decide (x.Sector ≥ (m.length : Int) / 128)) || (((x.Data.length : Int)) != 128)) = false ↔ PlanOk m ws k x := by
      simp only [Bool.or_eq_false_iff, decide_eq_false_iff_not, bne_eq_false_iff_eq]
      constructor
      · rintro ⟨⟨h1, h2⟩, h3⟩
        refine ⟨by omega, by omega, by omega, fun y h0 hy => ?_⟩
        have := hprev y h0 hy; omega
      · rintro ⟨h1, h2, h3, h4⟩
        refine ⟨⟨?_, by omega⟩, by omega⟩
        rcases Nat.eq_zero_or_pos k with h0 | h0
        · rw [hz h0]; omega
        · obtain ⟨y, hy⟩ : ∃ y, ws[k - 1]? = some y := ⟨_, List.getElem?_eq_getElem (by omega)⟩
          rw [hprev y h0 hy]
          have := h4 y h0 hy; omega
    refine BIf.of (fun hc => ?_) (fun hc => ?_)
    · refine planR_bad (fun hg => ?_) _ h
      rw [hpl.2 (hg.each k x hx)] at hc; cases hc
    have hp := hpl.1 hc
    have hd128 := hp.2.2.1
    refine ⟨_, h.cell 0 rfl rfl, td, h.cell 0 rfl rfl, ?_⟩
    refine SH.appendN (m := []) (h.nil none 1) (hd.ext h.ext).row rfl rfl (by decide) (by show (0 + x.Data.length) * 1 ≤ _; omega) (fun l36 w37 h hll36 _ => ?_)
    have h := h.p2
    rw [w64 (n := 3 + (k : Int)) (by omega) (by omega)]
    have hcl : (copiesL (ws.take k)).length = k := by rw [copies_len, List.length_take]; omega
    have hhl : (homesL (ws.take k)).length = k := by rw [homes_len, List.length_take]; omega
    refine LetW_iff.2 (SH.append1 h rfl rfl rfl (by decide) (by rw [dws_len, hcl]; show (k + 1) * 32 ≤ _; omega) plain_dw (fun l39 w40 h hll39 _ => ?_))
    have h := h.drew
    refine ⟨_, h.cell 2 rfl rfl, ?_⟩
    refine SH.appendN (m := []) (h.nil none 1) (h.rowN 1 rfl) rfl rfl (by decide) (by simp; show x.Data.length * 1 ≤ _; omega) (fun l42 w43 h hll42 _ => ?_)
    refine ⟨⟨_, h.cell 3 rfl rfl, rfl⟩, ?_⟩
    have h := h.p4
    refine LetW_iff.2 (SH.append1 h rfl rfl rfl (by decide) (by rw [dws_len, hhl]; show (k + 1) * 32 ≤ _; omega) plain_dw (fun l46 w47 h hll46 _ => ?_))
    have h := SH.dwClose h
    refine ⟨_, h.cell 3 rfl rfl, ?_⟩
    have h := h.p4
    have hel : (entL (ws.take k)).length = 16 * k := by rw [entL_len, List.length_take]; omega
    have hS := hp.1
    have hS2 := hp.2.1
    rw [w64 (n := 16 * (k : Int)) (by omega) (by omega), wu64 (n := x.Sector) (by omega) (by omega), show 16 * (k : Int) = ((16 * k : Nat) : Int) by omega]
    refine (s94 h (by simp [hel]; omega) (by simp [hel]; omega)).mono ?_
    rintro _ w50 ⟨rfl, h⟩
    have hxr : ∀ y, y ∈ x.Data → 0 ≤ y ∧ y ≤ 255 := hd.rng
    refine ⟨rfl, (c70 (SH.bytes h 3 rfl (by simpa using hxr) (by simpa using hds))).mono ?_⟩
    rintro _ w52 ⟨rfl, rfl⟩
    rw [w64 (by omega) (by omega), show ((16 * k : Nat) : Int) + 8 = ((16 * k + 8 : Nat) : Int) by omega]
    refine ⟨_, rfl, (s94 h (by rw [putN_len]; simp [hel]; omega) (by rw [putN_len]; simp [hel]; omega)).mono ?_⟩
    rintro _ w55 ⟨rfl, h⟩
    refine ⟨rfl, ?_⟩
    have hent : putN (putN (entL (ws.take k) ++ List.replicate (256 - 16 * k) 0) (16 * k) x.Sector 8) (16 * k + 8) (crc ([] ++ x.Data)) 8 = entL (ws.take (k + 1)) ++ List.replicate (256 - 16 * (k + 1)) 0 := by
      rw [putN_at (r := 248 - 16 * k) hel (by congr 1; omega), putN_at (r := 256 - 16 * (k + 1)) (by rw [List.length_append, hel, le_len]) (by congr 1; omega), take_snoc hx, entL_snoc]
      simp [entE]
    rw [hent] at h
    have h := h.p3.p3
    have h := SH.dwClose h
    have h := h.p3.drop.p2.p1
    rw [w64 (by omega) (by omega)]
    refine hJ _ _ _ _ _ ⟨k + 1, by omega, by omega, fun i y hi hy => ?_, by omega, fun y _ hy => ?_, ?_⟩ (by omega)
    · by_cases hik : i = k
      · subst hik; rw [hx] at hy; cases hy; exact hp
      · exact hok i y (by omega) hy
    · rw [Nat.add_sub_cancel, hx] at hy; cases hy; rfl
    · rw [take_snoc hx, copies_snoc, homes_snoc, ← take_snoc hx, show (ws.take k).length = k by rw [List.length_take]; omega]
      simpa using h
  · obtain rfl : k = ws.length := by omega
    have hgood : PlanGood m ws := ⟨hem, h1w, h16, fun i x hx => hok i x (List.getElem?_eq_some_iff.1 hx).1 hx⟩
    rw [List.take_of_length_le (Nat.le_refl _)] at h
    have h : SH w w21 [aRow l16 2 (dws (copiesL ws)), aRow l18 2 (dws (homesL ws)), aRow ⟨some ⟨lb, 0, none⟩, 256, 256⟩ 1 (nums .u8 (listB ws)), aB sb ([.int .i64 1, .int .u64 (word m 16), .slice t.a t.len t.cap].map Ce.v)] := h
    have hL := listB_len h16
    refine ⟨_, h.cell 3 rfl rfl, ?_⟩
    refine (c95 (k := 0) (SH.bytes h 2 rfl (listB_rng ws) (by omega)) (by omega)).mono ?_
    rintro _ w60 ⟨l61, rfl, own, e⟩
    have h := h.seq (SH.ofOwnN e own (Nat.le_refl _))
    refine ⟨l61, rfl, ?_⟩
    refine (c95 (k := 1) (SH.bytes h 3 rfl (listB_rng ws) (by omega)) (by omega)).mono ?_
    rintro _ w63 ⟨l64, rfl, own, e⟩
    have h := h.seq (SH.ofOwnN e own (Nat.le_refl _))
    refine ⟨l64, rfl, ?_⟩
    have hq := nextQ_rng m
    refine (s96 (n := (ws.length : Int)) hq.1 hq.2 (by omega) (by omega) (SH.bytes h 4 rfl (listB_rng ws) (by omega))).mono ?_
    rintro _ w66 ⟨l67, rfl, g⟩
    have h := h.seq g
    refine ⟨l67, rfl, ?_⟩
    have hs0 : sec (listB ws) 0 = (listB ws).take 128 := by unfold sec; simp
    have hs1 : sec (listB ws) 1 = (listB ws).drop 128 := by unfold sec; rw [List.take_of_length_le (by simp; omega)]
    have hcr : (listB ws).take (16 * (ws.length : Int)).toNat = entL ws := by
      rw [show (16 * (ws.length : Int)).toNat = (entL ws).length by rw [entL_len]; omega]
      unfold listB; exact List.take_left
    rw [hs0, hs1, hcr] at h
    have h := h.p3
    refine LetW_iff.2 (SH.appendB [[.int .i64 1, .slice l61.a l61.len l61.cap], [.int .i64 2, .slice l64.a l64.len l64.cap], [.int .i64 0, .slice l67.a l67.len l67.cap]] h rfl rfl (by simp) rfl rfl (by decide) (by rw [dws_len, copies_len]; show (ws.length + 3) * 32 ≤ _; omega) (by intro v hv; simp at hv; rcases hv with rfl | rfl | rfl | rfl | rfl | rfl <;> rfl) (fun l69 w70 h hll69 _ => ?_))
    have h := SH.dwCloseB (h.p3.p1)
    have h := SH.dwCloseB (h.p2.p1)
    have h := SH.dwCloseB h
    rw [List.map_nil, List.append_nil] at h
    refine SH.appendRow h rfl rfl (by decide) (by simp only [dws_len, List.length_append, copies_len, homes_len, List.length_cons, List.length_nil]; show _ * 32 ≤ _; omega) dws_plain (fun l71 w72 h hll71 _ => ?_)
    refine (s96 (sl := ⟨none, 0, 0⟩) (m := []) (n := 0) hq.1 hq.2 (by omega) (by simp) ⟨rfl, Nat.le_refl _, ⟨rfl, fun h => absurd h (by simp)⟩, (fun x hx => by cases hx), by simp⟩).mono ?_
    rintro _ w74 ⟨l75, rfl, g⟩
    have h := (h.seq g).p1
    refine ⟨l75, rfl, ?_⟩
    refine LetW_iff.2 (SH.append1 h rfl rfl rfl (by decide) (by simp only [dws_len, List.length_append, copies_len, homes_len, List.length_cons, List.length_nil]; show _ * 32 ≤ _; omega) plain_dw (fun l77 w78 h hll77 _ => ?_))
    rw [← dws_app] at h
    have h := (SH.dwClose h).one
    refine ⟨l77, by rw [plan_good hgood], ?_⟩
    rw [plan_good hgood]
    have hp : planL m ws = copiesL ws ++ [(1, List.take 128 (listB ws))] ++ [(2, List.drop 128 (listB ws))] ++ [(0, hdF (nextQ m) (ws.length) (crc (entL ws)))] ++ homesL ws ++ [(0, hdF (nextQ m) 0 (crc (List.take (16 * 0 : Int).toNat [])))] := by
      rw [List.take_nil, crc_nil]; unfold planL; simp
    rw [hp]; exact h
theorem s91 {x : Int} {w : World} (h0 : 0 ≤ x) (h1 : x < 18446744073709551616) : CallW Try.prog 91 #[.int .u64 x] w (fun v w' => ∃ t : Sl, v = .agg #[.int .i64 0, .slice t.a t.len t.cap] ∧ SH w w' [aRow t 1 (nums .u8 (hdF x 0 0))]) := by
  refine go91 ?_
  unfold W91
  have h := SH.start w
  refine h.alloc (fun w1 h ew1 nw1 => ?_)
  refine h.alloc (fun w2 h ew2 nw2 => ?_)
  refine (c82 (s := ⟨some ⟨w1.heap.size, 0, none⟩, 0, 0⟩) (m := []) ⟨rfl, Nat.le_refl _, ⟨rfl, fun h => absurd h (by simp)⟩, (fun x hx => by cases hx), by simp⟩).mono ?_
  rintro _ w4 ⟨rfl, rfl⟩
  have h := h.drop
  refine ⟨_, rfl, ?_⟩
  rw [crc_nil]
  refine (s90 (n := 0) h0 h1 (by omega) (by omega) (by omega) (by omega)).mono ?_
  rintro _ w7 ⟨l8, rfl, g⟩
  have h := h.seq g
  refine ⟨l8, rfl, ?_⟩
  refine (c89 (SH.bytes h 0 rfl (hdF_rng _ _ _) (by rw [hdF_len]; omega))).mono ?_
  rintro _ w10 ⟨l12, rfl, own, e⟩
  have h := h.seq (SH.ofOwnN e own (Nat.le_refl _))
  refine ⟨_, l12, rfl, ?_⟩
  refine h.put 2 rfl rfl rfl (fun w13 h nw13 => ?_)
  refine ⟨_, h.cell 2 rfl rfl, l12, h.cell 2 rfl rfl, ?_⟩
  exact ⟨l12, rfl, SH.one h⟩
theorem c87 {s : Sl} {m : List Int} {a : Int} {w : World} (h : s.len = m.length) (hm : m.length ≤ 1099511627776) : CallW Try.prog 87 #[.slice s.a s.len s.cap, .int .i64 a] w (fun v w' => v = .bool (decide (a ≥ 0) && decide (a < (m.length : Int) / 128)) ∧ w' = w) := by
  refine go87 ?_
  unfold W87
  have hdiv : IntKind.i64.wrap ((s.len : Int).tdiv 128) = (m.length : Int) / 128 := by rw [h, Int.tdiv_eq_ediv_of_nonneg (by omega), w64 (by omega) (by omega)]
  rw [hdiv]
  refine JoinW.each (BIf.dec (fun hc => ⟨by decide, ?_⟩) (fun hc => ?_))
  · exact ⟨by simp [hc], rfl⟩
  · exact ⟨by simp [hc], rfl⟩
theorem s89 {s : Sl} {m : List Int} {a : Int} {w : World} (h : Bytes w s m) : CallW Try.prog 89 #[.int .i64 a, .slice s.a s.len s.cap] w (fun v w' => ∃ t : Sl, v = .agg #[.int .i64 a, .slice t.a t.len t.cap] ∧ SH w w' [aRow t 1 (nums .u8 m)]) :=
  (c89 h).mono (by rintro _ w' ⟨t, rfl, own, e⟩; exact ⟨t, rfl, SH.ofOwnN e own (Nat.le_refl _)⟩)
end Go.Proofs.Ytenhcpjlkmbedaa

/- The journal's plan, the reference's side. Conditions: none. -/
set_option linter.unusedVariables false
set_option linter.unusedSimpArgs false
namespace Go.Proofs.Ytenhcpjlkmbedaa
open Go Go.Den
set_option maxRecDepth 8000 in
theorem s29 {s sw : Sl} {m : List Int} {ws : List DDiskWrite} {w : World} (hb : Bytes w s m) (hw : WsAt w sw ws) : CallW Try.prog 29 #[.slice s.a s.len s.cap, .slice sw.a sw.len sw.cap] w (PlanR m ws w) := by
  refine go29 ?_
  unfold W29
  have h := SH.start w
  have hwl := hw.len
  have hsm := hb.small
  have hl := hb.len
  refine (s86 hb).mono ?_
  rintro _ w2 ⟨st, seq, t, rfl, hst, hseq, e2⟩
  have h := h.to e2
  refine ⟨_, _, t, rfl, ?_⟩
  refine h.alloc (fun w6 h ew6 nw6 => ?_)
  refine h.put 0 rfl rfl rfl (fun w7 h nw7 => ?_)
  generalize w2.heap.size = sb at *
  refine h.alloc (fun w8 h ew8 nw8 => ?_)
  have h := h.drop
  refine ⟨_, h.cell 0 rfl rfl, ?_⟩
  simp only [join_or]
  refine BIf.of (fun hc => ?_) (fun hc => ?_)
  · refine planR_bad (fun hg => ?_) _ h
    have h1 := hst.2 hg.empty
    have h2 := hg.some_
    have h3 := hg.few
    rw [h1, hwl] at hc
    simp only [bne_self_eq_false, Bool.false_or, Bool.or_eq_true, decide_eq_true_eq, beq_iff_eq] at hc
    omega
  have hc : st = 1 ∧ 1 ≤ ws.length ∧ ws.length ≤ 16 := by
    rw [hwl] at hc
    simp only [Bool.or_eq_false_iff, decide_eq_false_iff_not, bne_eq_false_iff_eq, beq_eq_false_iff_ne] at hc
    exact ⟨hc.1.1, by omega, by omega⟩
  obtain ⟨rfl, h1w, h16⟩ := hc
  have hem := hst.1 rfl
  obtain rfl := hseq rfl
  have r16 := word_rng hb.rng 16
  have hbig := hem.big
  refine h.alloc (fun w16 h ew16 nw16 => ?_)
  have h := h.drop
  refine h.alloc (fun w17 h ew17 nw17 => ?_)
  have h := h.drop
  refine LoopW.m3 (fun (l18 l19 : Sl) (n20 : Int) w' => ∃ k : Nat, n20 = k ∧ k ≤ ws.length ∧ (∀ i x, i < k → ws[i]? = some x → PlanOk m ws i x) ∧ SH w w' [aRow l18 1 (nums .u8 (entL (ws.take k))), aRow l19 2 (dws (copiesL (ws.take k))), aB sb ([.int .i64 1, .int .u64 (word m 16), .slice t.a t.len t.cap].map Ce.v)]) (fun (l18 l19 : Sl) (n20 : Int) _ => ((ws.length : Int) - n20).toNat) ⟨0, rfl, by omega, fun i x hi => by omega, by simpa [copiesL, dws, entL, nums] using (h.nil _ 2).nil _ 1⟩ ?_
  rintro (l18 : Sl) (l19 : Sl) (n20 : Int) w22 ⟨k, rfl, hk, hok, h⟩ J hJ
  rw [hwl]
  have hel : (entL (ws.take k)).length = 16 * k := by rw [entL_len, List.length_take]; omega
  have hcl : (copiesL (ws.take k)).length = k := by rw [copies_len, List.length_take]; omega
  refine BIf.dec (fun hlt => ?_) (fun hge => ?_)
  · obtain ⟨x, hx⟩ : ∃ x, ws[k]? = some x := ⟨_, List.getElem?_eq_getElem (by omega)⟩
    obtain ⟨q, td, hq, hc0, hc1, hd, hwf⟩ := hw.get k x hx
    have hdl := hd.len
    have hds := hd.small
    refine ⟨by omega, by omega, q, hq, _, h.ext.cell hc0, td, h.ext.cell hc1, ?_⟩
    refine h.alloc (fun w26 h ew26 nw26 => ?_)
    refine h.put 0 rfl rfl rfl (fun w27 h nw27 => ?_)
    generalize w22.heap.size = xb at *
    have h := h.drew
    refine JoinW.cut1 (fun (b28 : Bool) w' => (b28 = false ↔ PlanOk m ws k x) ∧ w' = w27.drew) ?_ ?_
    · refine ⟨_, h.cell 0 rfl rfl, BIf.dec (fun hc => ⟨⟨(fun hh => by cases hh), fun hp => absurd hp.1 (by omega)⟩, rfl⟩) (fun hc => ?_)⟩
      refine ⟨_, h.cell 0 rfl rfl, (c87 hl hsm).mono ?_⟩
      rintro _ w57 ⟨rfl, rfl⟩
      refine ⟨_, rfl, BIf.of (fun hc2 => ?_) (fun hc2 => ?_)⟩
      · refine ⟨⟨(fun hh => by cases hh), fun hp => ?_⟩, rfl⟩
        have h1 := hp.1; have h2 := hp.2.1
        simp only [Bool.not_eq_true', Bool.and_eq_false_iff, decide_eq_false_iff_not] at hc2
        omega
      simp only [Bool.not_eq_false', Bool.and_eq_true, decide_eq_true_eq] at hc2
      refine ⟨td, h.cell 0 rfl rfl, ?_⟩
      rw [hdl]
      refine BIf.ne (fun hc3 => ?_) (fun hc3 => ?_)
      · exact ⟨⟨(fun hh => by cases hh), fun hp => absurd hp.2.2.1 (by omega)⟩, rfl⟩
      refine BIf.dec (fun hk0 => ?_) (fun hk0 => ?_)
      · rw [w64 (n := (k : Int) - 1) (by omega) (by omega), show ((k : Int) - 1).toNat = k - 1 by omega]
        obtain ⟨y, hy⟩ : ∃ y, ws[k - 1]? = some y := ⟨_, List.getElem?_eq_getElem (by omega)⟩
        obtain ⟨q', _, hq', hc0', _⟩ := hw.get (k - 1) y hy
        refine ⟨by omega, by omega, q', hq', _, h.ext.cell hc0', _, h.cell 0 rfl rfl, ?_, rfl⟩
        simp only [decide_eq_false_iff_not]
        constructor
        · intro hh
          exact ⟨by omega, by omega, by omega, fun z _ hz => by rw [hy] at hz; cases hz; omega⟩
        · intro hp
          have := hp.2.2.2 y (by omega) hy; omega
      · exact ⟨⟨fun _ => ⟨by omega, by omega, by omega, fun z hz => by omega⟩, fun _ => rfl⟩, rfl⟩
    rintro (b28 : Bool) w30 ⟨hiff, rfl⟩
    refine BIf.of (fun hc => ?_) (fun hc => ?_)
    · refine planR_bad (fun hg => ?_) _ h
      rw [hiff.2 (hg.each k x hx)] at hc; cases hc
    have hp := hiff.1 hc
    have hd128 := hp.2.2.1
    have hS := hp.1
    have hS2 := hp.2.1
    refine ⟨_, h.cell 0 rfl rfl, ?_⟩
    rw [wu64 (n := x.Sector) (by omega) (by omega)]
    refine (s88 (by omega) (by omega)).mono ?_
    rintro _ w33 ⟨l34, rfl, g⟩
    have h := (h.seq g).p2
    refine ⟨l34, rfl, SH.appendN h (h.rowN 1 rfl) rfl rfl (by decide) (by rw [hel, le_len]; show _ * 1 ≤ _; omega) (fun l35 w36 h hll35 _ => ?_)⟩
    refine ⟨td, h.cell 2 rfl rfl, (c82 (hd.ext h.ext)).mono ?_⟩
    rintro _ w39 ⟨rfl, rfl⟩
    have hcr := crc_rng x.Data
    refine ⟨_, rfl, (s88 hcr.1 hcr.2).mono ?_⟩
    rintro _ w42 ⟨l43, rfl, g⟩
    have h := (h.seq g).p1
    refine ⟨l43, rfl, SH.appendN h (h.rowN 1 rfl) rfl rfl (by decide) (by rw [List.length_append, hel, le_len, le_len]; show _ * 1 ≤ _; omega) (fun l44 w45 h hll44 _ => ?_)⟩
    refine ⟨td, h.cell 3 rfl rfl, ?_⟩
    rw [w64 (n := 3 + (k : Int)) (by omega) (by omega)]
    refine (s89 (hd.ext h.ext)).mono ?_
    rintro _ w48 ⟨l50, rfl, g⟩
    refine ⟨_, l50, rfl, ?_⟩
    have h := (h.seq g)
    have h := h.front (n := 5) rfl
    refine LetW_iff.2 (SH.append1 h rfl rfl rfl (by decide) (by rw [dws_len, hcl]; show (k + 1) * 32 ≤ _; omega) plain_dw (fun l52 w53 h hll52 _ => ?_))
    have h := SH.dwClose h
    have h := (((h.front (n := 5) rfl).front (n := 1) rfl).front (n := 2) rfl).take 3
    rw [w64 (by omega) (by omega)]
    refine hJ _ _ _ _ ⟨k + 1, by omega, by omega, fun i y hi hy => ?_, ?_⟩ (by omega)
    · by_cases hik : i = k
      · subst hik; rw [hx] at hy; cases hy; exact hp
      · exact hok i y (by omega) hy
    · rw [take_snoc hx, copies_snoc, entL_snoc, show (ws.take k).length = k by rw [List.length_take]; omega]
      unfold entE
      rw [← List.append_assoc]
      exact h
  · obtain rfl : k = ws.length := by omega
    have hgood : PlanGood m ws := ⟨hem, h1w, h16, fun i x hx => hok i x (List.getElem?_eq_some_iff.1 hx).1 hx⟩
    rw [List.take_of_length_le (Nat.le_refl _)] at h hel hcl
    have hL := listB_len h16
    refine (c82 (SH.bytes h 0 rfl (entL_rng ws) (by omega))).mono ?_
    rintro _ w64' ⟨rfl, rfl⟩
    have hl18 := h.len 0 rfl
    rw [nums_len, hel] at hl18
    refine ⟨_, rfl, ?_⟩
    rw [w64 (n := 256 - (l18.len : Int)) (by omega) (by omega)]
    refine SH.appendZ h (by omega) rfl rfl (by decide) (by rw [nums_len, hel]; show _ * 1 ≤ _; omega) (by decide) (fun l66 w67 h hll66 _ => ?_)
    rw [nums_len, hel] at hll66
    have hll66' : l66.len = 256 := by omega
    have hcap66 := h.lenCap 0 rfl
    have hto : (256 - (l18.len : Int)).toNat = 256 - 16 * ws.length := by omega
    rw [hto] at h
    have h : SH w w67 [aRow l66 1 (nums .u8 (listB ws)), aRow l19 2 (dws (copiesL ws)), aB sb ([.int .i64 1, .int .u64 (word m 16), .slice t.a t.len t.cap].map Ce.v)] := by
      unfold listB; rw [nums_app, nums_rep]; exact h
    have h := h.drew
    refine ⟨by omega, by omega, by omega, by omega, ?_⟩
    have hB := SH.bytes h 0 rfl (listB_rng ws) (by omega)
    refine (s89 (hB.cut0 (n := 128) (by omega))).mono ?_
    rintro _ w69 ⟨l71, rfl, g⟩
    have h := h.seq g
    refine ⟨_, l71, rfl, ?_⟩
    have hB := SH.bytes h 1 rfl (listB_rng ws) (by omega)
    have hcut := hB.cut2 (a := 128) (n := 128) (by omega)
    rw [List.take_of_length_le (by rw [List.length_drop]; omega)] at hcut
    rw [show Int.toNat ((l66.len : Nat) : Int) - Int.toNat 128 = 128 by omega]
    refine (s89 hcut).mono ?_
    rintro _ w73 ⟨l75, rfl, g⟩
    have h := h.seq g
    refine ⟨_, l75, rfl, ?_⟩
    have h := h.front (n := 3) rfl
    refine LetW_iff.2 (SH.appendB [[.int .i64 1, .slice l71.a l71.len l71.cap], [.int .i64 2, .slice l75.a l75.len l75.cap]] h rfl rfl (by simp) rfl rfl (by decide) (by rw [dws_len, copies_len]; show (ws.length + 2) * 32 ≤ _; omega) (by intro v hv; simp at hv; rcases hv with rfl | rfl | rfl | rfl <;> rfl) (fun l77 w78 h hll77 _ => ?_))
    have h := SH.dwCloseB (h.p2.p1)
    have h := SH.dwCloseB h
    rw [List.map_nil, List.append_nil] at h
    refine ⟨_, h.cell 2 rfl rfl, ?_⟩
    have hq := nextQ_rng m
    have hcr := crc_rng (entL ws)
    refine (s90 (n := (ws.length : Int)) hq.1 hq.2 (by omega) (by omega) hcr.1 hcr.2).mono ?_
    rintro _ w81 ⟨l82, rfl, g⟩
    have h := h.seq g
    refine ⟨l82, rfl, ?_⟩
    refine (s89 (SH.bytes h 0 rfl (hdF_rng _ _ _) (by rw [hdF_len]; omega))).mono ?_
    rintro _ w84 ⟨l86, rfl, g⟩
    have h := (h.seq g).front (n := 2) rfl
    refine ⟨_, l86, rfl, ?_⟩
    refine LetW_iff.2 (SH.append1 h rfl rfl rfl (by decide) (by simp only [dws_len, List.length_append, copies_len, List.length_cons, List.length_nil]; show _ * 32 ≤ _; omega) plain_dw (fun l88 w89 h hll88 _ => ?_))
    have h := SH.dwClose h
    have h := (h.front (n := 3) rfl).p1.take 2
    generalize hbase : copiesL ws ++ [(1, List.take 128 (listB ws))] ++ [(2, List.drop 128 (listB ws))] ++ [(0, hdF (nextQ m) (ws.length) (crc (entL ws)))] = base at *
    have hbl : base.length = ws.length + 3 := by rw [← hbase]; simp [copies_len]
    refine LoopW.m2 (fun (l90 : Sl) (n91 : Int) w' => ∃ k : Nat, n91 = k ∧ k ≤ ws.length ∧ SH w w' [aRow l90 2 (dws (base ++ homesL (ws.take k))), aB sb ([.int .i64 1, .int .u64 (word m 16), .slice t.a t.len t.cap].map Ce.v)]) (fun (l90 : Sl) (n91 : Int) _ => ((ws.length : Int) - n91).toNat) ⟨0, rfl, by omega, by simpa [homesL] using h⟩ ?_
    rintro (l90 : Sl) (n91 : Int) w93 ⟨k, rfl, hk, h⟩ J2 hJ2
    have hhl : (homesL (ws.take k)).length = k := by rw [homes_len, List.length_take]; omega
    refine BIf.dec (fun hlt => ?_) (fun hge => ?_)
    · obtain ⟨x, hx⟩ : ∃ x, ws[k]? = some x := ⟨_, List.getElem?_eq_getElem (by omega)⟩
      obtain ⟨q, td, hq, hc0, hc1, hd, hwf⟩ := hw.get k x hx
      have h := h.drew
      refine ⟨by omega, by omega, q, hq, _, h.ext.cell hc0, by omega, by omega, q, hq, td, h.ext.cell hc1, ?_⟩
      refine (s89 (hd.ext h.ext)).mono ?_
      rintro _ w99 ⟨l101, rfl, g⟩
      have h := (h.seq g).p1
      refine ⟨_, l101, rfl, ?_⟩
      refine LetW_iff.2 (SH.append1 h rfl rfl rfl (by decide) (by simp only [dws_len, List.length_append, hbl, hhl]; show _ * 32 ≤ _; omega) plain_dw (fun l103 w104 h hll103 _ => ?_))
      have h := SH.dwClose h
      rw [w64 (by omega) (by omega)]
      refine hJ2 _ _ _ ⟨k + 1, by omega, by omega, ?_⟩ (by omega)
      rw [take_snoc hx, homes_snoc, ← List.append_assoc]; exact h
    · obtain rfl : k = ws.length := by omega
      rw [List.take_of_length_le (Nat.le_refl _)] at h
      refine ⟨_, h.cell 1 rfl rfl, ?_⟩
      refine (s91 hq.1 hq.2).mono ?_
      rintro _ w107 ⟨l109, rfl, g⟩
      have h := (h.seq g).p1
      refine ⟨_, l109, rfl, ?_⟩
      refine LetW_iff.2 (SH.append1 h rfl rfl rfl (by decide) (by simp only [dws_len, List.length_append, hbl, homes_len]; show _ * 32 ≤ _; omega) plain_dw (fun l111 w112 h hll111 _ => ?_))
      have h := (SH.dwClose h).one
      refine ⟨l111, by rw [plan_good hgood], ?_⟩
      rw [plan_good hgood]
      have hp : planL m ws = base ++ homesL ws ++ [(0, hdF (nextQ m) 0 0)] := by
        rw [← hbase]; unfold planL; simp
      rw [hp]; exact h
end Go.Proofs.Ytenhcpjlkmbedaa

/- Writes laid onto a disk, both sides. Conditions: none. -/
set_option linter.unusedVariables false
set_option linter.unusedSimpArgs false
namespace Go.Proofs.Ytenhcpjlkmbedaa
open Go Go.Den
def goodW (m : List Int) (x : DDiskWrite) : Prop := 0 ≤ x.Sector ∧ x.Sector < (m.length : Int) / 128 ∧ x.Data.length = 128
def dput (m : List Int) (x : DDiskWrite) : List Int := m.take (x.Sector.toNat * 128) ++ x.Data ++ m.drop (x.Sector.toNat * 128 + 128)
def afterF (m : List Int) (ws : List DDiskWrite) : List Int := ws.foldl dput m
theorem dput_len {m : List Int} {x : DDiskWrite} (h : goodW m x) : (dput m x).length = m.length := by
  obtain ⟨h1, h2, h3⟩ := h
  unfold dput
  simp only [List.length_append, List.length_take, List.length_drop, h3]
  omega
structure AfterOk (m : List Int) (ws : List DDiskWrite) : Prop where
  ok : dOk m = true
  each : ∀ x, x ∈ ws → goodW m x
theorem after_len {m : List Int} : ∀ {ws : List DDiskWrite} {d : List Int}, (∀ x, x ∈ ws → goodW m x) → d.length = m.length → (afterF d ws).length = m.length
  | [], d, h, hd => hd
  | x :: r, d, h, hd => by
    have hx : goodW d x := by have := h x (by simp); unfold goodW at *; rw [hd]; exact this
    exact after_len (ws := r) (d := dput d x) (fun y hy => h y (by simp [hy])) ((dput_len hx).trans hd)
theorem after_snoc (m : List Int) (l : List DDiskWrite) (x : DDiskWrite) : afterF m (l ++ [x]) = dput (afterF m l) x := by unfold afterF; rw [List.foldl_append]; rfl
open Classical in
noncomputable def diskF (m : List Int) (ws : List DDiskWrite) : List Int × Bool := if AfterOk m ws then (afterF m ws, true) else ([], false)
def DiskR (m : List Int) (ws : List DDiskWrite) (w : World) (v : Value) (w' : World) : Prop := ∃ t : Sl, v = .tuple #[.slice t.a t.len t.cap, .bool (diskF m ws).2] ∧ SH w w' [aRow t 1 (nums .u8 (diskF m ws).1)]
theorem disk_bad {m : List Int} {ws : List DDiskWrite} {w w' : World} {F : List Asr} (h : ¬ AfterOk m ws) (a : Option Addr) (hs : SH w w' F) : DiskR m ws w (.tuple #[.slice a 0 0, .bool false]) w' := by
  have hd : diskF m ws = ([], false) := by unfold diskF; rw [if_neg h]
  refine ⟨⟨a, 0, 0⟩, by rw [hd], ?_⟩
  rw [hd]
  exact ((SH.start w).to hs.ext).nil a 1
theorem disk_good {m : List Int} {ws : List DDiskWrite} {w w' : World} {F : List Asr} {t : Sl} (h : AfterOk m ws) (hs : SH w w' (aRow t 1 (nums .u8 (afterF m ws)) :: F)) : DiskR m ws w (.tuple #[.slice t.a t.len t.cap, .bool true]) w' := by
  have hd : diskF m ws = (afterF m ws, true) := by unfold diskF; rw [if_pos h]
  refine ⟨t, by rw [hd], ?_⟩
  rw [hd]; exact hs.one
theorem s45 {s sw : Sl} {m : List Int} {ws : List DDiskWrite} {w : World} (hb : Bytes w s m) (hw : WsAt w sw ws) : CallW Try.prog 45 #[.slice s.a s.len s.cap, .slice sw.a sw.len sw.cap] w (DiskR m ws w) := by
  refine go45 ?_
  unfold W45
  have h := SH.start w
  have hsm := hb.small
  have hl := hb.len
  have hwl := hw.len
  have hfew := hw.few
  refine (c106 hl).mono ?_
  rintro _ w ⟨rfl, rfl⟩
  refine ⟨_, rfl, ?_⟩
  refine BIf.of (fun hc => ?_) (fun hc => ?_)
  · exact disk_bad (fun hg => by rw [hg.ok] at hc; cases hc) _ h
  have hok : dOk m = true := by simpa using hc
  refine SH.appendN (m := []) (h.nil none 1) hb.row rfl rfl (by decide) (by show (0 + m.length) * 1 ≤ _; omega) (fun l4 w5 h hll4 _ => ?_)
  refine LoopW.m1 (fun (n6 : Int) w' => ∃ k : Nat, n6 = k ∧ k ≤ ws.length ∧ (∀ x, x ∈ ws.take k → goodW m x) ∧ SH w w' [aRow l4 1 (nums .u8 (afterF m (ws.take k)))]) (fun (n6 : Int) _ => ((ws.length : Int) - n6).toNat) ⟨0, rfl, by omega, (fun x hx => by simp at hx), h⟩ ?_
  rintro (n6 : Int) w8 ⟨k, rfl, hk, hg, h⟩ J hJ
  have hal := after_len hg rfl
  have hl4 := h.len 0 rfl
  rw [nums_len, hal] at hl4
  rw [hwl]
  refine BIf.dec (fun hlt => ?_) (fun hge => ?_)
  · obtain ⟨x, hx⟩ : ∃ x, ws[k]? = some x := ⟨_, List.getElem?_eq_getElem (by omega)⟩
    obtain ⟨q, td, hq, hc0, hc1, hd, hwf⟩ := hw.get k x hx
    have hdl := hd.len
    have hds := hd.small
    refine ⟨by omega, by omega, q, hq, _, h.ext.cell hc0, td, h.ext.cell hc1, ?_⟩
    refine h.alloc (fun w12 h ew12 nw12 => ?_)
    refine h.put 0 rfl rfl rfl (fun w13 h nw13 => ?_)
    generalize w8.heap.size = xb at *
    refine ⟨_, h.cell 0 rfl rfl, ?_⟩
    have hdiv : IntKind.i64.wrap ((l4.len : Int).tdiv 128) = (m.length : Int) / 128 := by rw [hl4, Int.tdiv_eq_ediv_of_nonneg (by omega), w64 (by omega) (by omega)]
    rw [hdiv]
    refine JoinW.cut1 (fun (b15 : Bool) w' => b15 = (decide (x.Sector < 0) || decide (x.Sector ≥ (m.length : Int) / 128)) ∧ w' = w13) ?_ ?_
    · refine BIf.dec (fun hc => ⟨by simp [hc], rfl⟩) (fun hc => ⟨_, h.cell 0 rfl rfl, by decide, by simp [hc], rfl⟩)
    rintro (b15 : Bool) w17 ⟨rfl, rfl⟩
    refine join_or_ex td (h.cell 0 rfl rfl) ?_
    rw [hdl]
    have hiff : ((decide (x.Sector < 0) || decide (x.Sector ≥ (m.length : Int) / 128)) || ((x.Data.length : Int) != 128)) = false ↔ goodW m x := by
      unfold goodW
      simp only [Bool.or_eq_false_iff, decide_eq_false_iff_not, bne_eq_false_iff_eq]
      omega
    refine BIf.of (fun hc => ?_) (fun hc => ?_)
    · exact disk_bad (fun hh => by rw [hiff.2 (hh.each x (List.mem_of_getElem? hx))] at hc; cases hc) _ h
    have hgx := hiff.1 hc
    obtain ⟨g1, g2, g3⟩ := hgx
    have h := h.drew
    refine ⟨_, h.cell 0 rfl rfl, ?_⟩
    rw [w64 (n := x.Sector * 128) (by omega) (by omega)]
    refine ⟨by omega, by omega, td, h.cell 0 rfl rfl, ?_⟩
    have hn : min td.len (((l4.len : Nat) : Int).toNat - (x.Sector * 128).toNat) * 1 = td.len := by omega
    rw [hn]
    refine ⟨_, (hd.ext h.ext).row, plain_u8, ?_⟩
    have h := h.drop
    have hcap4 := h.lenCap 0 rfl
    obtain ⟨b, hb4, _⟩ := h.addr 0 rfl (by omega)
    have hto : (x.Sector * 128).toNat = x.Sector.toNat * 128 := by omega
    rw [hto]
    obtain ⟨hm, h⟩ := SH.putN (o := x.Sector.toNat * 128) x.Data 0 h hb4 (by rw [hal]; omega)
    rw [List.length_map]
    have hcut : cutA l4.a l4.cap (x.Sector.toNat * 128) 1 = some ((⟨b, 0, none⟩ : Addr).add (x.Sector.toNat * 128)) := by
      rw [hb4]; unfold cutA; rw [if_neg (by omega), Nat.mul_one]; rfl
    refine .inr ⟨_, hcut, fun j hj => hm j (Nat.zero_le _) (by omega), ?_⟩
    rw [w64 (by omega) (by omega)]
    refine hJ _ _ ⟨k + 1, by omega, by omega, fun y hy => ?_, ?_⟩ (by omega)
    · rw [take_snoc hx] at hy
      rcases List.mem_append.1 hy with hy | hy
      · exact hg y hy
      · rw [List.mem_singleton.1 hy]; exact ⟨g1, g2, g3⟩
    · rw [take_snoc hx, after_snoc]
      unfold dput
      rw [g3] at h
      exact h
  · obtain rfl : k = ws.length := by omega
    rw [List.take_of_length_le (Nat.le_refl _)] at h hg
    exact disk_good ⟨hok, hg⟩ h
theorem take_add_drop {m d : List Int} {a j : Nat} {y : Int} (hj : d[j]? = some y) (ha : a + j < m.length) : (m.take a ++ d.take j ++ m.drop (a + j)).set (a + j) y = m.take a ++ d.take (j + 1) ++ m.drop (a + (j + 1)) := by
  have hjl := (List.getElem?_eq_some_iff.1 hj).1
  rw [List.set_append_right _ _ (by simp; omega)]
  rw [take_snoc hj, List.drop_eq_getElem_cons ha]
  have : a + j - (List.take a m ++ List.take j d).length = 0 := by simp; omega
  rw [this, List.set_cons_zero]
  simp [Nat.add_assoc]
set_option maxRecDepth 8000 in
theorem s98 {s sw : Sl} {m : List Int} {ws : List DDiskWrite} {w : World} (hb : Bytes w s m) (hw : WsAt w sw ws) : CallW Try.prog 98 #[.slice s.a s.len s.cap, .slice sw.a sw.len sw.cap] w (DiskR m ws w) := by
  refine go98 ?_
  unfold W98
  have h := SH.start w
  have hsm := hb.small
  have hl := hb.len
  have hwl := hw.len
  have hfew := hw.few
  refine (c148 hl).mono ?_
  rintro _ w ⟨rfl, rfl⟩
  refine ⟨_, rfl, ?_⟩
  refine BIf.of (fun hc => ?_) (fun hc => ?_)
  · refine h.alloc (fun w4 h ew4 nw4 => ?_)
    exact disk_bad (fun hg => by rw [hg.ok] at hc; cases hc) _ h
  have hok : dOk m = true := by simpa using hc
  refine h.alloc (fun w5 h ew5 nw5 => ?_)
  have h := h.drop
  refine SH.appendN (m := []) (h.nil _ 1) (hb.ext h.ext).row rfl rfl (by decide) (by show (0 + m.length) * 1 ≤ _; omega) (fun l6 w7 h hll6 _ => ?_)
  refine LoopW.m1 (fun (n6 : Int) w' => ∃ k : Nat, n6 = k ∧ k ≤ ws.length ∧ (∀ x, x ∈ ws.take k → goodW m x) ∧ SH w w' [aRow l6 1 (nums .u8 (afterF m (ws.take k)))]) (fun (n6 : Int) _ => ((ws.length : Int) - n6).toNat) ⟨0, rfl, by omega, (fun x hx => by simp at hx), h⟩ ?_
  rintro (n8 : Int) w10 ⟨k, rfl, hk, hg, h⟩ J hJ
  have hal := after_len hg rfl
  rw [hwl]
  refine BIf.dec (fun hlt => ?_) (fun hge => ?_)
  · obtain ⟨x, hx⟩ : ∃ x, ws[k]? = some x := ⟨_, List.getElem?_eq_getElem (by omega)⟩
    obtain ⟨q, td, hq, hc0, hc1, hd, hwf⟩ := hw.get k x hx
    have hdl := hd.len
    have hds := hd.small
    refine ⟨by omega, by omega, q, hq, _, h.ext.cell hc0, td, h.ext.cell hc1, ?_⟩
    refine h.alloc (fun w14 h ew14 nw14 => ?_)
    refine h.put 0 rfl rfl rfl (fun w15 h nw15 => ?_)
    generalize w10.heap.size = xb at *
    refine ⟨_, h.cell 0 rfl rfl, (c87 hl hsm).mono ?_⟩
    rintro _ w18 ⟨rfl, rfl⟩
    refine ⟨_, rfl, ?_⟩
    refine join_or_ex td (h.cell 0 rfl rfl) ?_
    rw [hdl]
    have hiff : ((!(decide (x.Sector ≥ 0) && decide (x.Sector < (m.length : Int) / 128))) || ((x.Data.length : Int) != 128)) = false ↔ goodW m x := by
      unfold goodW
      simp only [Bool.or_eq_false_iff, Bool.not_eq_false', Bool.and_eq_true, decide_eq_true_eq, bne_eq_false_iff_eq]
      omega
    refine BIf.of (fun hc => ?_) (fun hc => ?_)
    · refine h.alloc (fun w23 h ew23 nw23 => ?_)
      exact disk_bad (fun hh => by rw [hiff.2 (hh.each x (List.mem_of_getElem? hx))] at hc; cases hc) _ h
    have hgx := hiff.1 hc
    obtain ⟨g1, g2, g3⟩ := hgx
    have hto : x.Sector * 128 = ((x.Sector.toNat * 128 : Nat) : Int) := by omega
    refine LoopW.m1 (fun (n24 : Int) w' => ∃ j : Nat, n24 = j ∧ j ≤ 128 ∧ SH w w' [aB xb ([.int .i64 x.Sector, .slice td.a td.len td.cap].map Ce.v), aRow l6 1 (nums .u8 ((afterF m (ws.take k)).take (x.Sector.toNat * 128) ++ x.Data.take j ++ (afterF m (ws.take k)).drop (x.Sector.toNat * 128 + j)))]) (fun (n24 : Int) _ => (128 - n24).toNat) ⟨0, rfl, by omega, by simpa using h⟩ ?_
    rintro (n24 : Int) w26 ⟨j, rfl, hj, h⟩ J2 hJ2
    refine BIf.dec (fun hlt2 => ?_) (fun hge2 => ?_)
    · have h := h.drew
      obtain ⟨y, hy⟩ : ∃ y, x.Data[j]? = some y := ⟨_, List.getElem?_eq_getElem (by omega)⟩
      obtain ⟨p, hp, hpc⟩ := (hd.ext h.ext).get hy
      have hl6 := h.len 1 rfl
      have hdl6 : (List.take (x.Sector.toNat * 128) (afterF m (ws.take k)) ++ List.take j x.Data ++ List.drop (x.Sector.toNat * 128 + j) (afterF m (ws.take k))).length = m.length := by simp; omega
      rw [nums_len, hdl6] at hl6
      refine ⟨_, h.cell 0 rfl rfl, td, h.cell 0 rfl rfl, by omega, by omega, p, hp, _, hpc, ?_⟩
      rw [w64 (n := x.Sector * 128) (by omega) (by omega), w64 (n := x.Sector * 128 + (j : Int)) (by omega) (by omega), show x.Sector * 128 + (j : Int) = ((x.Sector.toNat * 128 + j : Nat) : Int) by omega, Int.toNat_natCast]
      obtain ⟨z, hz⟩ : ∃ z, (List.take (x.Sector.toNat * 128) (afterF m (ws.take k)) ++ List.take j x.Data ++ List.drop (x.Sector.toNat * 128 + j) (afterF m (ws.take k)))[x.Sector.toNat * 128 + j]? = some z := ⟨_, List.getElem?_eq_getElem (by omega)⟩
      obtain ⟨r, hr, _⟩ := h.elem0 1 rfl (nums_get hz) rfl
      refine ⟨by omega, by omega, r, hr, h.setE0 1 rfl hr (nums_get hz) rfl (fun w32 h nw32 => ?_)⟩
      rw [w64 (by omega) (by omega)]
      refine hJ2 _ _ ⟨j + 1, by omega, by omega, ?_⟩ (by omega)
      have h : SH w w32 [aB xb ([.int .i64 x.Sector, .slice td.a td.len td.cap].map Ce.v), aRow l6 1 ((nums .u8 (List.take (x.Sector.toNat * 128) (afterF m (ws.take k)) ++ List.take j x.Data ++ List.drop (x.Sector.toNat * 128 + j) (afterF m (ws.take k)))).set (x.Sector.toNat * 128 + j) ([Ce.v (.int .u8 z)].set 0 (.v (.int .u8 y))))] := h
      rw [nums_set hz, take_add_drop hy (by omega)] at h
      exact h
    · obtain rfl : j = 128 := by omega
      rw [w64 (by omega) (by omega)]
      refine hJ _ _ ⟨k + 1, by omega, by omega, fun y hy => ?_, ?_⟩ (by omega)
      · rw [take_snoc hx] at hy
        rcases List.mem_append.1 hy with hy | hy
        · exact hg y hy
        · rw [List.mem_singleton.1 hy]; exact ⟨g1, g2, g3⟩
      · rw [take_snoc hx, after_snoc]
        unfold dput
        rw [List.take_of_length_le (l := x.Data) (by omega)] at h
        exact h.drop
  · obtain rfl : k = ws.length := by omega
    rw [List.take_of_length_le (Nat.le_refl _)] at h hg
    exact disk_good ⟨hok, hg⟩ h
end Go.Proofs.Ytenhcpjlkmbedaa

/- The journal's laws: both sides in one form. Conditions: none. -/
set_option linter.unusedVariables false
set_option linter.unusedSimpArgs false
namespace Go.Proofs.Ytenhcpjlkmbedaa
open Go Go.Den
abbrev byD (m : List Int) : Dat := .sl 1 (m.map (Dat.int .u8))
abbrev wsD (ws : List DDiskWrite) : Dat := .sl 2 (ws.map DDiskWrite.dat)
theorem bytes_of {w : World} {s : Sl} {m : List Int} (h : IsD w (byD m) [.slice s.a s.len s.cap]) (hs : m.length ≤ 1048576) : Bytes w s m :=
  ⟨(isD_len h).1, isD_cap h, isD_nums h, fun x hx => wf_u8_rng (isD_wf h x hx), by omega⟩
theorem ws_sz (ws : List DDiskWrite) {x : DDiskWrite} (hx : x ∈ ws) : ws.length + x.Data.length ≤ (wsD ws).sz := by
  have h1 : (wsD ws).sz = (ws.map DDiskWrite.dat).length + Dat.szs (ws.map DDiskWrite.dat) := rfl
  have h2 : x.dat.sz ≤ Dat.szs (ws.map DDiskWrite.dat) := by
    obtain ⟨i, hi, rfl⟩ := List.getElem_of_mem hx
    have := szs_get (l := ws.map DDiskWrite.dat) (i := i) (d := (ws[i]).dat) (by rw [List.getElem?_map, List.getElem?_eq_getElem hi]; rfl)
    omega
  have h3 : x.dat.sz = 0 + ((Dat.sl 1 (x.Data.map (Dat.int .u8))).sz + 0) := rfl
  rw [sz_nums] at h3
  rw [List.length_map] at h1
  omega
theorem ws_len_sz (ws : List DDiskWrite) : ws.length ≤ (wsD ws).sz := by
  have h1 : (wsD ws).sz = (ws.map DDiskWrite.dat).length + Dat.szs (ws.map DDiskWrite.dat) := rfl
  rw [List.length_map] at h1; omega
theorem ws_of {w : World} {s : Sl} {ws : List DDiskWrite} (h : IsD w (wsD ws) [.slice s.a s.len s.cap]) (hs : (wsD ws).sz ≤ 1048576) : WsAt w s ws := by
  refine ⟨(isD_len h).1, fun i x hx => ?_, by have := ws_len_sz ws; omega⟩
  obtain ⟨p, es, hp, hl, hc, his⟩ := isD_elem h hx
  have his : IsD w (.st [.int .i64 x.Sector, .sl 1 (x.Data.map (Dat.int .u8))]) es := his
  obtain ⟨t, rfl, hwf, hd⟩ := cells_DiskWrite his
  have := ws_sz ws (List.mem_of_getElem? hx)
  exact ⟨p, t, hp, hc 0 _ rfl, hc 1 _ rfl, bytes_of hd (by omega), hwf⟩
def dwDat (p : Int × List Int) : Dat := .st [.int .i64 p.1, .sl 1 (p.2.map (Dat.int .u8))]
theorem dwDat_ce (p : Int × List Int) : (dwDat p).ce = dw p := by
  simp only [dwDat, Dat.ce, Dat.ces, ceE_nums, dw, List.cons_append, List.nil_append]
theorem dws_ceE (l : List (Int × List Int)) : Dat.ceE (l.map dwDat) = dws l := by
  rw [ceE_map]; unfold dws; congr 1; funext p; exact dwDat_ce p
def dwFit (p : Int × List Int) : Prop := (Lit.int .i64 p.1).wf = true ∧ p.2.length ≤ 1099511627776 ∧ ∀ y, y ∈ p.2 → 0 ≤ y ∧ y ≤ 255
theorem dwDat_fit {p : Int × List Int} (h : dwFit p) : (dwDat p).fit := by
  have hm : maxLen = 9223372036854775807 := rfl
  obtain ⟨h1, h2, h3⟩ := h
  simp only [dwDat, Dat.fit, Dat.fits, List.length_map, fits_iff, List.mem_map]
  refine ⟨h1, ⟨by omega, ?_⟩, trivial⟩
  rintro d ⟨x, hx, rfl⟩
  have := h3 x hx
  exact wf_u8 this.1 this.2
theorem wf_rng64 {n : Int} (h : (Lit.int .i64 n).wf = true) : -9223372036854775808 ≤ n ∧ n ≤ 9223372036854775807 := by
  simp [Lit.wf, IntKind.min, IntKind.max, IntKind.signed, IntKind.bits] at h; omega
structure WsFit (ws : List DDiskWrite) : Prop where
  each : ∀ x, x ∈ ws → dwFit (x.Sector, x.Data)
theorem wsAt_fit {w : World} {s : Sl} {ws : List DDiskWrite} (h : WsAt w s ws) : WsFit ws := ⟨fun x hx => by
  obtain ⟨i, hi, rfl⟩ := List.getElem_of_mem hx
  obtain ⟨q, t, _, _, _, hd, hwf⟩ := h.get i _ (List.getElem?_eq_getElem hi)
  exact ⟨hwf, hd.small, hd.rng⟩⟩
theorem plan_fit {m : List Int} {ws : List DDiskWrite} (hf : WsFit ws) : ∀ p, p ∈ (planF m ws).1 → dwFit p := by
  by_cases hg : PlanGood m ws
  · rw [plan_good hg]
    have h16 := hg.few
    have hL := listB_len h16
    intro p hp
    show dwFit p
    have hp : p ∈ planL m ws := hp
    unfold planL at hp
    have hr : ∀ n, n ≤ 1000 → (0:Int) ≤ n → (Lit.int .i64 n).wf = true := fun n h1 h2 => wf_i64 (by omega) (by omega)
    rcases List.mem_append.1 hp with hp | hp
    · rcases List.mem_append.1 hp with hp | hp
      · rcases List.mem_append.1 hp with hp | hp
        · unfold copiesL at hp
          obtain ⟨⟨x, i⟩, hx, rfl⟩ := List.mem_map.1 hp
          have hi := List.mem_zipIdx hx
          have := hf.each x (by rw [hi.2.2]; exact List.getElem_mem _)
          exact ⟨hr _ (by simp at hi; show 3 + (i : Int) ≤ 1000; omega) (by show 0 ≤ 3 + (i : Int); omega), this.2⟩
        · simp only [List.mem_cons, List.not_mem_nil, or_false] at hp
          rcases hp with rfl | rfl | rfl
          · exact ⟨hr 1 (by omega) (by omega), by simp; omega, fun y hy => listB_rng ws y (List.mem_of_mem_take hy)⟩
          · exact ⟨hr 2 (by omega) (by omega), by simp; omega, fun y hy => listB_rng ws y (List.mem_of_mem_drop hy)⟩
          · exact ⟨hr 0 (by omega) (by omega), by simp [hdF_len], hdF_rng _ _ _⟩
      · unfold homesL at hp
        obtain ⟨x, hx, rfl⟩ := List.mem_map.1 hp
        exact hf.each x hx
    · rw [List.mem_singleton.1 hp]
      exact ⟨hr 0 (by omega) (by omega), by simp [hdF_len], hdF_rng _ _ _⟩
  · rw [plan_bad hg]; intro p hp; cases hp
theorem plan_len {m : List Int} {ws : List DDiskWrite} (h : ws.length ≤ 16) : (planL m ws).length ≤ 36 := by
  unfold planL; simp [copies_len, homes_len]; omega
theorem plan_data {m : List Int} {ws : List DDiskWrite} (hg : PlanGood m ws) : ∀ p, p ∈ planL m ws → p.2.length = 128 ∧ 0 ≤ p.1 ∧ p.1 < (m.length : Int) / 128 := by
  have h16 := hg.few
  have hL := listB_len h16
  have hbig := hg.empty.big
  have hh : ∀ x, x ∈ ws → x.Data.length = 128 ∧ 20 ≤ x.Sector ∧ x.Sector < (m.length : Int) / 128 := fun x hx => by
    obtain ⟨i, hi, rfl⟩ := List.getElem_of_mem hx
    have := hg.each i _ (List.getElem?_eq_getElem hi)
    exact ⟨this.2.2.1, this.1, this.2.1⟩
  intro p hp
  unfold planL at hp
  rcases List.mem_append.1 hp with hp | hp
  · rcases List.mem_append.1 hp with hp | hp
    · rcases List.mem_append.1 hp with hp | hp
      · unfold copiesL at hp
        obtain ⟨⟨x, i⟩, hx, rfl⟩ := List.mem_map.1 hp
        have hi := List.mem_zipIdx hx
        have := hh x (by rw [hi.2.2]; exact List.getElem_mem _)
        simp at hi
        exact ⟨this.1, by show 0 ≤ 3 + (i : Int); omega, by show 3 + (i : Int) < _; omega⟩
      · simp only [List.mem_cons, List.not_mem_nil, or_false] at hp
        rcases hp with rfl | rfl | rfl
        · exact ⟨by simp; omega, by simp, by show (1 : Int) < _; omega⟩
        · exact ⟨by simp; omega, by simp, by show (2 : Int) < _; omega⟩
        · exact ⟨by simp [hdF_len], by simp, by show (0 : Int) < _; omega⟩
    · unfold homesL at hp
      obtain ⟨x, hx, rfl⟩ := List.mem_map.1 hp
      have := hh x hx
      exact ⟨this.1, by show 0 ≤ x.Sector; omega, this.2.2⟩
  · rw [List.mem_singleton.1 hp]
    exact ⟨by simp [hdF_len], by simp, by show (0 : Int) < _; omega⟩
noncomputable abbrev planD (m : List Int) (ws : List DDiskWrite) : Dat := .sl 2 ((planF m ws).1.map dwDat)
def PlanS (n : Nat) : Prop := ∀ {m : List Int} {ws : List DDiskWrite} {w : World} {s sw : Sl} (h : IsD w (byD m) [.slice s.a s.len s.cap]) (hw : IsD w (wsD ws) [.slice sw.a sw.len sw.cap]) (hs : (byD m).sz ≤ 1048576) (hs2 : (wsD ws).sz ≤ 1048576),
  CallW Try.prog n #[.slice s.a s.len s.cap, .slice sw.a sw.len sw.cap] w (fun v w' => ∃ y : Sl, v = .tuple #[.slice y.a y.len y.cap, .int .i64 (planF m ws).2] ∧ Fr w.heap.size w'.heap.size w' (planD m ws) [.slice y.a y.len y.cap] ∧ Ext w w')
theorem plan_post {m : List Int} {ws : List DDiskWrite} {w w' : World} {v : Value} (hf : WsFit ws) (h : PlanR m ws w v w') : ∃ y : Sl, v = .tuple #[.slice y.a y.len y.cap, .int .i64 (planF m ws).2] ∧ Fr w.heap.size w'.heap.size w' (planD m ws) [.slice y.a y.len y.cap] ∧ Ext w w' := by
  obtain ⟨t, rfl, h⟩ := h
  refine ⟨t, rfl, SH.frRow (F := []) (by rw [dws_ceE]; exact h) ?_, h.ext⟩
  have hm : maxLen = 9223372036854775807 := rfl
  simp only [Dat.fit, List.length_map, fits_iff, List.mem_map]
  refine ⟨?_, fun d hd => ?_⟩
  · by_cases hg : PlanGood m ws
    · rw [plan_good hg]; have := plan_len (m := m) hg.few; show (planL m ws).length ≤ _; omega
    · rw [plan_bad hg]; show 0 ≤ _; omega
  · obtain ⟨p, hp, rfl⟩ := hd
    exact dwDat_fit (plan_fit hf p hp)
theorem implJnlPlan : PlanS 32 := fun h hw hs hs2 => by
  rw [sz_nums] at hs
  have hwa := ws_of hw hs2
  exact (s32 (bytes_of h hs) hwa).mono (fun v w' hv => plan_post (wsAt_fit hwa) hv)
theorem specJnlPlan : PlanS 29 := fun h hw hs hs2 => by
  rw [sz_nums] at hs
  have hwa := ws_of hw hs2
  exact (s29 (bytes_of h hs) hwa).mono (fun v w' hv => plan_post (wsAt_fit hwa) hv)
theorem bytes_has (m : List Int) : ∀ e, e ∈ m.map (Dat.int .u8) → Has (.int .u8) e := fun e he => by obtain ⟨y, _, rfl⟩ := List.mem_map.1 he; exact mk_int
theorem ws_has (ws : List DDiskWrite) : ∀ e, e ∈ ws.map DDiskWrite.dat → Has TyDiskWrite e := fun e he => by obtain ⟨y, _, rfl⟩ := List.mem_map.1 he; exact DDiskWrite.has _
theorem plan_has (m : List Int) (ws : List DDiskWrite) : ∀ e, e ∈ (planF m ws).1.map dwDat → Has TyDiskWrite e := fun e he => by
  obtain ⟨y, _, rfl⟩ := List.mem_map.1 he
  exact DDiskWrite.has ⟨y.1, y.2⟩
theorem nums_cnts {k : IntKind} : ∀ l : List Int, Dat.cnts (l.map (Dat.int k)) = l.length
  | [] => rfl
  | a :: r => by simp only [List.map_cons, Dat.cnts, Dat.cnt, nums_cnts r, List.length_cons]; omega
theorem dw_cnt (p : Int × List Int) : (dwDat p).cnt = 1 + p.2.length := by
  simp only [dwDat, Dat.cnt, Dat.cnts, nums_cnts]; omega
theorem dws_cnt {N : Nat} : ∀ {l : List (Int × List Int)}, (∀ p, p ∈ l → p.2.length ≤ N) → Dat.cnts (l.map dwDat) ≤ l.length * (1 + N)
  | [], h => by simp [Dat.cnts]
  | p :: r, h => by
    have h1 := dws_cnt (N := N) (l := r) (fun q hq => h q (by simp [hq]))
    have h2 := h p (by simp)
    simp only [List.map_cons, Dat.cnts, dw_cnt, List.length_cons, Nat.succ_mul]; omega
theorem plan_cnt {m : List Int} {ws : List DDiskWrite} : Dat.cnts ((planF m ws).1.map dwDat) ≤ 4644 := by
  by_cases hg : PlanGood m ws
  · rw [plan_good hg]
    have h1 := dws_cnt (N := 128) (l := planL m ws) (fun p hp => by rw [(plan_data hg p hp).1]; exact Nat.le_refl _)
    have h2 := plan_len (m := m) hg.few
    have : (planL m ws).length * (1 + 128) ≤ 36 * 129 := Nat.mul_le_mul_right _ h2
    show Dat.cnts ((planL m ws).map dwDat) ≤ _
    omega
  · rw [plan_bad hg]; simp [Dat.cnts]
theorem by_cnt {m : List Int} (hs : (byD m).sz ≤ 1048576) : Dat.cnts (m.map (Dat.int .u8)) ≤ 1048576 := by
  rw [nums_cnts]; rw [sz_nums] at hs; exact hs
theorem ws_cnts : ∀ ws : List DDiskWrite, Dat.cnts (ws.map DDiskWrite.dat) ≤ (ws.map DDiskWrite.dat).length + Dat.szs (ws.map DDiskWrite.dat)
  | [] => by simp [Dat.cnts]
  | x :: r => by
    have ih := ws_cnts r
    have h1 : x.dat.cnt = 1 + x.Data.length := dw_cnt (x.Sector, x.Data)
    have h2 : x.dat.sz = 0 + ((Dat.sl 1 (x.Data.map (Dat.int .u8))).sz + 0) := rfl
    rw [sz_nums] at h2
    simp only [List.map_cons, Dat.cnts, Dat.szs, List.length_cons, h1]
    omega
theorem ws_cnt {ws : List DDiskWrite} (hs : (wsD ws).sz ≤ 1048576) : Dat.cnts (ws.map DDiskWrite.dat) ≤ 1048576 := by
  have h1 : (wsD ws).sz = (ws.map DDiskWrite.dat).length + Dat.szs (ws.map DDiskWrite.dat) := rfl
  have := ws_cnts ws; omega
end Go.Proofs.Ytenhcpjlkmbedaa

/- The walk of a law: copies, both sides, comparisons; printed by a program. Conditions: none. -/
set_option linter.unusedVariables false
set_option linter.unusedSimpArgs false
set_option maxRecDepth 4000
namespace Go.Proofs.Ytenhcpjlkmbedaa
open Go Go.Den
theorem goc6 {a0 : Sl} {a1 : Sl} {w : World} {K : Value → World → Prop} (h : W6 a0 a1 w K) : Calls Try.prog 6 #[.slice a0.a a0.len a0.cap, .slice a1.a a1.len a1.cap] w (fun e w' => ∃ v, e = .returned v ∧ K v w') :=
  denFn_sound tt_ok mix Try.func6 (by kernel_rfl) (eq6 a0 a1 w K ▸ h)
theorem walk6 {w : World} {m : List Int} {p0 : Sl} (h0 : IsD w (Dat.sl 1 (m.map (Dat.int .u8))) [.slice p0.a p0.len p0.cap]) {ws : List DDiskWrite} {p1 : Sl} (h1 : IsD w (Dat.sl 2 (ws.map DDiskWrite.dat)) [.slice p1.a p1.len p1.cap]) : Calls Try.prog 6 #[.slice p0.a p0.len p0.cap, .slice p1.a p1.len p1.cap] w (fun e w' => ∃ v, e = .returned v ∧ (v = .bool true ∧ Ext w w')) := by
  refine goc6 ?_
  unfold W6
  refine BIf.dec (fun hn => ⟨rfl, Only.refl _ _⟩) (fun hpa0 => ?_)
  have sz0 : (Dat.sl 1 (m.map (Dat.int .u8))).sz ≤ 1048576 := by rw [sz_nums]; have := (isD_len h0).1; omega
  refine (c28 (ws_has ws) h1 (by omega) (by omega)).mono ?_
  rintro _ w2 ⟨⟨rw2, rfl, hrw2⟩, ew2⟩
  have e := ew2
  have zw2 := ew2.size
  refine ⟨_, rfl, ?_⟩
  refine BIf.dec (fun hn => ⟨rfl, e⟩) (fun hpw2 => ?_)
  have sz1 : (Dat.sl 2 (ws.map DDiskWrite.dat)).sz ≤ 1048576 := by omega
  refine (c30 (bytes_has m) (IsD.ext e _ _ h0) (by have := sz0; omega)).mono ?_
  rintro _ w5 ⟨yw5, rfl, fw5, ew5⟩
  have e := Only.trans e ew5
  have zw5 := ew5.size
  refine ⟨yw5, rfl, ?_⟩
  refine (c31 (ws_has ws) (IsD.ext e _ _ h1) (by have := sz1; omega)).mono ?_
  rintro _ w8 ⟨yw8, rfl, fw8, ew8⟩
  have fw5 := fw5.ext ew8
  have e := Only.trans e ew8
  have zw8 := ew8.size
  refine ⟨yw8, rfl, ?_⟩
  refine (specJnlPlan fw5.is fw8.is sz0 sz1).mono ?_
  rintro _ w11 ⟨yw11_0, rfl, fw11_0, ew11⟩
  have fw5 := fw5.ext ew11
  have fw8 := fw8.ext ew11
  have e := Only.trans e ew11
  have zw11 := ew11.size
  refine ⟨yw11_0, _, rfl, ?_⟩
  refine (c30 (bytes_has m) (IsD.ext e _ _ h0) (by have := sz0; omega)).mono ?_
  rintro _ w15 ⟨yw15, rfl, fw15, ew15⟩
  have fw5 := fw5.ext ew15
  have fw8 := fw8.ext ew15
  have fw11_0 := fw11_0.ext ew15
  have e := Only.trans e ew15
  have zw15 := ew15.size
  refine ⟨yw15, rfl, ?_⟩
  refine (c31 (ws_has ws) (IsD.ext e _ _ h1) (by have := sz1; omega)).mono ?_
  rintro _ w18 ⟨yw18, rfl, fw18, ew18⟩
  have fw5 := fw5.ext ew18
  have fw8 := fw8.ext ew18
  have fw11_0 := fw11_0.ext ew18
  have fw15 := fw15.ext ew18
  have e := Only.trans e ew18
  have zw18 := ew18.size
  refine ⟨yw18, rfl, ?_⟩
  refine (implJnlPlan fw15.is fw18.is sz0 sz1).mono ?_
  rintro _ w21 ⟨yw21_0, rfl, fw21_0, ew21⟩
  have fw5 := fw5.ext ew21
  have fw8 := fw8.ext ew21
  have fw11_0 := fw11_0.ext ew21
  have fw15 := fw15.ext ew21
  have fw18 := fw18.ext ew21
  have e := Only.trans e ew21
  have zw21 := ew21.size
  refine ⟨yw21_0, _, rfl, ?_⟩
  refine (c33 (plan_has m ws) fw21_0.is fw11_0.is).mono ?_
  rintro _ w25 ⟨rfl, ew25⟩
  have fw5 := fw5.ext ew25
  have fw8 := fw8.ext ew25
  have fw11_0 := fw11_0.ext ew25
  have fw15 := fw15.ext ew25
  have fw18 := fw18.ext ew25
  have fw21_0 := fw21_0.ext ew25
  have e := Only.trans e ew25
  have zw25 := ew25.size
  refine ⟨_, rfl, ?_⟩
  refine JoinW.each ?_
  refine BIf.f rfl ?_
  refine BIf.f (by first | (simp; done) | (simp; omega)) ?_
  refine (c30 (bytes_has m) (IsD.ext e _ _ h0) (by have := sz0; omega)).mono ?_
  rintro _ w31 ⟨yw31, rfl, fw31, ew31⟩
  have fw5 := fw5.ext ew31
  have fw8 := fw8.ext ew31
  have fw11_0 := fw11_0.ext ew31
  have fw15 := fw15.ext ew31
  have fw18 := fw18.ext ew31
  have fw21_0 := fw21_0.ext ew31
  have e := Only.trans e ew31
  have zw31 := ew31.size
  refine ⟨yw31, rfl, ?_⟩
  refine (c34 (bytes_has m) fw15.is fw31.is).mono ?_
  rintro _ w34 ⟨rfl, ew34⟩
  have fw5 := fw5.ext ew34
  have fw8 := fw8.ext ew34
  have fw11_0 := fw11_0.ext ew34
  have fw15 := fw15.ext ew34
  have fw18 := fw18.ext ew34
  have fw21_0 := fw21_0.ext ew34
  have fw31 := fw31.ext ew34
  have e := Only.trans e ew34
  have zw34 := ew34.size
  refine ⟨_, rfl, ?_⟩
  refine BIf.f rfl ?_
  refine (c31 (ws_has ws) (IsD.ext e _ _ h1) (by have := sz1; omega)).mono ?_
  rintro _ w37 ⟨yw37, rfl, fw37, ew37⟩
  have fw5 := fw5.ext ew37
  have fw8 := fw8.ext ew37
  have fw11_0 := fw11_0.ext ew37
  have fw15 := fw15.ext ew37
  have fw18 := fw18.ext ew37
  have fw21_0 := fw21_0.ext ew37
  have fw31 := fw31.ext ew37
  have e := Only.trans e ew37
  have zw37 := ew37.size
  refine ⟨yw37, rfl, ?_⟩
  refine (c33 (ws_has ws) fw18.is fw37.is).mono ?_
  rintro _ w40 ⟨rfl, ew40⟩
  have fw5 := fw5.ext ew40
  have fw8 := fw8.ext ew40
  have fw11_0 := fw11_0.ext ew40
  have fw15 := fw15.ext ew40
  have fw18 := fw18.ext ew40
  have fw21_0 := fw21_0.ext ew40
  have fw31 := fw31.ext ew40
  have fw37 := fw37.ext ew40
  have e := Only.trans e ew40
  have zw40 := ew40.size
  refine ⟨_, rfl, ?_⟩
  refine BIf.f rfl ?_
  obtain ⟨bsw43, oww43, ndw43, rgw43⟩ := fw15
  refine (c35 (bytes_has m) oww43 ndw43 (by omega) (by have := sz0; have := by_cnt sz0; (try simp only [Dat.cntT, Dat.cntTs] at *); omega)).mono ?_
  rintro _ w43 ⟨rfl, dw43, _, cnw43, hsw43, mkw43, oww43, ow43⟩
  have fw5 := fw5.only ow43 (fun k h1 h2 hk => by have := rgw43 k hk; omega)
  have fw8 := fw8.only ow43 (fun k h1 h2 hk => by have := rgw43 k hk; omega)
  have fw11_0 := fw11_0.only ow43 (fun k h1 h2 hk => by have := rgw43 k hk; omega)
  have fw18 := fw18.only ow43 (fun k h1 h2 hk => by have := rgw43 k hk; omega)
  have fw21_0 := fw21_0.only ow43 (fun k h1 h2 hk => by have := rgw43 k hk; omega)
  have fw31 := fw31.only ow43 (fun k h1 h2 hk => by have := rgw43 k hk; omega)
  have fw37 := fw37.only ow43 (fun k h1 h2 hk => by have := rgw43 k hk; omega)
  have e := Ext.own e ow43 (fun k hk => by have := rgw43 k hk; omega)
  have zw43 := ow43.size
  have fw43 : Fr _ _ w43 (.sl 1 dw43) _ := ⟨bsw43, oww43, ndw43, rgw43⟩
  refine ⟨_, rfl, ?_⟩
  obtain ⟨bsw46, oww46, ndw46, rgw46⟩ := fw18
  refine (c36 (ws_has ws) oww46 ndw46 (by omega) (by have := sz1; have := And.intro (by_cnt sz0) (ws_cnt sz1); (try simp only [Dat.cntT, Dat.cntTs] at *); omega)).mono ?_
  rintro _ w46 ⟨rfl, dw46, _, cnw46, hsw46, mkw46, oww46, ow46⟩
  have fw5 := fw5.only ow46 (fun k h1 h2 hk => by have := rgw46 k hk; omega)
  have fw8 := fw8.only ow46 (fun k h1 h2 hk => by have := rgw46 k hk; omega)
  have fw11_0 := fw11_0.only ow46 (fun k h1 h2 hk => by have := rgw46 k hk; omega)
  have fw21_0 := fw21_0.only ow46 (fun k h1 h2 hk => by have := rgw46 k hk; omega)
  have fw31 := fw31.only ow46 (fun k h1 h2 hk => by have := rgw46 k hk; omega)
  have fw37 := fw37.only ow46 (fun k h1 h2 hk => by have := rgw46 k hk; omega)
  have fw43 := fw43.only ow46 (fun k h1 h2 hk => by have := rgw46 k hk; omega)
  have e := Ext.own e ow46 (fun k hk => by have := rgw46 k hk; omega)
  have zw46 := ow46.size
  have fw46 : Fr _ _ w46 (.sl 2 dw46) _ := ⟨bsw46, oww46, ndw46, rgw46⟩
  refine ⟨_, rfl, ?_⟩
  refine JoinW.each ?_
  refine BIf.f (decide_eq_false (by omega)) ?_
  refine (c33 (plan_has m ws) fw21_0.is fw11_0.is).mono ?_
  rintro _ w80 ⟨rfl, ew80⟩
  have fw5 := fw5.ext ew80
  have fw8 := fw8.ext ew80
  have fw11_0 := fw11_0.ext ew80
  have fw21_0 := fw21_0.ext ew80
  have fw31 := fw31.ext ew80
  have fw37 := fw37.ext ew80
  have fw43 := fw43.ext ew80
  have fw46 := fw46.ext ew80
  have e := Only.trans e ew80
  have zw80 := ew80.size
  refine ⟨_, rfl, ?_⟩
  refine JoinW.each ?_
  refine BIf.f (by first | (simp; done) | (simp; omega)) ?_
  refine BIf.f (by first | (simp; done) | (simp; omega)) ?_
  obtain ⟨bsw55, oww55, ndw55, rgw55⟩ := fw21_0
  refine (c36 (plan_has m ws) oww55 ndw55 (by omega) (by have := plan_cnt (m := m) (ws := ws); omega)).mono ?_
  rintro _ w55 ⟨rfl, dw55, _, cnw55, hsw55, mkw55, oww55, ow55⟩
  have fw5 := fw5.only ow55 (fun k h1 h2 hk => by have := rgw55 k hk; omega)
  have fw8 := fw8.only ow55 (fun k h1 h2 hk => by have := rgw55 k hk; omega)
  have fw11_0 := fw11_0.only ow55 (fun k h1 h2 hk => by have := rgw55 k hk; omega)
  have fw31 := fw31.only ow55 (fun k h1 h2 hk => by have := rgw55 k hk; omega)
  have fw37 := fw37.only ow55 (fun k h1 h2 hk => by have := rgw55 k hk; omega)
  have fw43 := fw43.only ow55 (fun k h1 h2 hk => by have := rgw55 k hk; omega)
  have fw46 := fw46.only ow55 (fun k h1 h2 hk => by have := rgw55 k hk; omega)
  have e := Ext.own e ow55 (fun k hk => by have := rgw55 k hk; omega)
  have zw55 := ow55.size
  have fw55 : Fr _ _ w55 (.sl 2 dw55) _ := ⟨bsw55, oww55, ndw55, rgw55⟩
  refine ⟨_, rfl, ?_⟩
  refine (c37 hsw55 fw55.is mkw55 (by omega) (by have := cnw55; have := plan_cnt (m := m) (ws := ws); omega)).mono ?_
  rintro _ w58 ⟨rfl, ew58⟩
  have fw5 := fw5.ext ew58
  have fw8 := fw8.ext ew58
  have fw11_0 := fw11_0.ext ew58
  have fw31 := fw31.ext ew58
  have fw37 := fw37.ext ew58
  have fw43 := fw43.ext ew58
  have fw46 := fw46.ext ew58
  have fw55 := fw55.ext ew58
  have e := Only.trans e ew58
  have zw58 := ew58.size
  refine ⟨_, rfl, ?_⟩
  refine BIf.f (decide_eq_false (by omega)) ?_
  refine BIf.f (by first | (simp; done) | (simp; omega)) ?_
  refine (c30 (bytes_has m) (IsD.ext e _ _ h0) (by have := sz0; omega)).mono ?_
  rintro _ w61 ⟨yw61, rfl, fw61, ew61⟩
  have fw5 := fw5.ext ew61
  have fw8 := fw8.ext ew61
  have fw11_0 := fw11_0.ext ew61
  have fw31 := fw31.ext ew61
  have fw37 := fw37.ext ew61
  have fw43 := fw43.ext ew61
  have fw46 := fw46.ext ew61
  have fw55 := fw55.ext ew61
  have e := Only.trans e ew61
  have zw61 := ew61.size
  refine ⟨yw61, rfl, ?_⟩
  refine (c31 (ws_has ws) (IsD.ext e _ _ h1) (by have := sz1; omega)).mono ?_
  rintro _ w64 ⟨yw64, rfl, fw64, ew64⟩
  have fw5 := fw5.ext ew64
  have fw8 := fw8.ext ew64
  have fw11_0 := fw11_0.ext ew64
  have fw31 := fw31.ext ew64
  have fw37 := fw37.ext ew64
  have fw43 := fw43.ext ew64
  have fw46 := fw46.ext ew64
  have fw55 := fw55.ext ew64
  have fw61 := fw61.ext ew64
  have e := Only.trans e ew64
  have zw64 := ew64.size
  refine ⟨yw64, rfl, ?_⟩
  refine (implJnlPlan fw61.is fw64.is sz0 sz1).mono ?_
  rintro _ w67 ⟨yw67_0, rfl, fw67_0, ew67⟩
  have fw5 := fw5.ext ew67
  have fw8 := fw8.ext ew67
  have fw11_0 := fw11_0.ext ew67
  have fw31 := fw31.ext ew67
  have fw37 := fw37.ext ew67
  have fw43 := fw43.ext ew67
  have fw46 := fw46.ext ew67
  have fw55 := fw55.ext ew67
  have fw61 := fw61.ext ew67
  have fw64 := fw64.ext ew67
  have e := Only.trans e ew67
  have zw67 := ew67.size
  refine ⟨yw67_0, _, rfl, ?_⟩
  refine (c33 (plan_has m ws) fw67_0.is fw11_0.is).mono ?_
  rintro _ w71 ⟨rfl, ew71⟩
  have fw5 := fw5.ext ew71
  have fw8 := fw8.ext ew71
  have fw11_0 := fw11_0.ext ew71
  have fw31 := fw31.ext ew71
  have fw37 := fw37.ext ew71
  have fw43 := fw43.ext ew71
  have fw46 := fw46.ext ew71
  have fw55 := fw55.ext ew71
  have fw61 := fw61.ext ew71
  have fw64 := fw64.ext ew71
  have fw67_0 := fw67_0.ext ew71
  have e := Only.trans e ew71
  have zw71 := ew71.size
  refine ⟨_, rfl, ?_⟩
  refine JoinW.each ?_
  refine BIf.f rfl ?_
  refine BIf.f (by first | (simp; done) | (simp; omega)) ?_
  refine (c37 hsw55 fw55.is mkw55 (by omega) (by have := cnw55; have := plan_cnt (m := m) (ws := ws); omega)).mono ?_
  rintro _ w77 ⟨rfl, ew77⟩
  have fw5 := fw5.ext ew77
  have fw8 := fw8.ext ew77
  have fw11_0 := fw11_0.ext ew77
  have fw31 := fw31.ext ew77
  have fw37 := fw37.ext ew77
  have fw43 := fw43.ext ew77
  have fw46 := fw46.ext ew77
  have fw55 := fw55.ext ew77
  have fw61 := fw61.ext ew77
  have fw64 := fw64.ext ew77
  have fw67_0 := fw67_0.ext ew77
  have e := Only.trans e ew77
  have zw77 := ew77.size
  refine ⟨_, rfl, ?_⟩
  refine BIf.f (decide_eq_false (by omega)) ?_
  refine BIf.f (by first | (simp; done) | (simp; omega)) ?_
  exact ⟨by trivial, e⟩
open Go.RowKit in
theorem law_calls6 {w : World} {a0 : Option Addr} {len0 cap0 : Nat} {m : List Int} (h0 : (cSlice (cInt .u8)).is w [.slice a0 len0 cap0] m) {a1 : Option Addr} {len1 cap1 : Nat} {ws : List DDiskWrite} (h1 : (cSlice cDDiskWrite).is w [.slice a1 len1 cap1] ws) : Calls Try.prog 6 #[.slice a0 len0 cap0, .slice a1 len1 cap1] w (fun e w' => e = .returned (.bool true) ∧ Below w.heap.size w w') :=
  (walk6 (p0 := ⟨a0, len0, cap0⟩) (isD_mkSl (f := Dat.int .u8) h0 (fun es x hx => isD_mkInt hx)) (p1 := ⟨a1, len1, cap1⟩) (isD_mkSl (f := DDiskWrite.dat) h1 (fun es x hx => cDDiskWrite_dat hx))).mono (by rintro e w' ⟨v, rfl, rfl, he⟩; exact ⟨rfl, he.below⟩)
end Go.Proofs.Ytenhcpjlkmbedaa

/- The row of the law FnExactJnlPlan: what its walk shows is what the statement says. Conditions: none. -/
namespace Go.Proofs.Ytenhcpjlkmbedaa.fnExactJnlPlan
open Go.ChangeShapes Go.WideShapes Go.ChangeAt Go.RowKit
open Go.ChangeMaps (open_string shut_string)
set_option linter.unusedVariables false
theorem own : ownKnob Try.prog.godebug = none := by kernel_rfl
theorem laidOut : laidOutB Try.prog = true := by kernel_rfl
set_option maxRecDepth 100000 in
theorem lifted (os : Os) (started : os.Started) (H : Type) (enc : TypeId × Value → H) :
    ReturnsInHanded {} Try.checked os 6 .any (Rows.fnExactJnlPlanSpec.pre6 enc Try.prog Try.f6 Rows.fnExactJnlPlanRow.domain false) (Rows.fnExactJnlPlanSpec.post enc Try.prog Try.f6 false true false false) := by
  refine returnsInHanded_of_change_sized (C := Try.checked) own started (by kernel_rfl) Try.func6
    (ChangeSpec.witness6 (enc := enc) (C := Try.checked) false ⟨#[], #[.slice none 0 0, .slice none 0 0], []⟩ 8 (by kernel_rfl) (by kernel_rfl) (by kernel_rfl) (by kernel_rfl)) ?_
  intro W base args ds gs before hval0 hW hcnd hsz0 _
  have hsz : (DataW.weightsEach Try.prog (Try.f6.params.toList ++ Rows.fnExactJnlPlanSpec.plain.varTypes Try.prog) (ds ++ gs)).all (· ≤ reachBytes) = true := hsz0
  have hval : ∀ (j : Nat) t v, Try.f6.params[j]? = some t → args[j]? = some v → Value.okWide Try.prog W .any base t v := hval0
  have hW' := hW
  obtain ⟨p, q, hA0, hV, rfl, hfz, hnd⟩ := hW
  have hA : DataW.TrodAll enc Try.prog W 0 (fun _ => true) true Try.f6.params.toList args.toList ds p := hA0
  rw [Try.params6] at hA hval hsz
  obtain ⟨v0, vs0, d0, ds0, p0, q0, hargs, rfl, rfl, h0, r0⟩ := trodAll_cons hA
  obtain ⟨v1, vs1, d1, ds1, p1, q1, rfl, rfl, rfl, h1, r1⟩ := trodAll_cons r0
  obtain ⟨rfl, rfl, rfl⟩ := trodAll_nil r1
  obtain rfl : args = #[v0, v1] := by cases args; simp_all
  obtain ⟨rfl, rfl⟩ := trodVars_none hV
  have k0 := h0
  have lt0 : ∀ x ∈ p0, x.block < W.heap.size := by obtain ⟨m, hm⟩ := k0; exact DataW.trod_lt m _ _ _ hm
  obtain ⟨a0, len0, cap0, rfl⟩ := okWide_slice Try.underlying41 (hval 0 41 v0 rfl rfl)
  obtain ⟨x0, w0⟩ : ∃ x, (Go.Den.cSlice (Go.Den.cInt .u8)).is W [.slice a0 len0 cap0] x := by obtain ⟨fuel, hf⟩ := h0; exact ((o41).at_ enc W fuel _ _ hf).2
  have k1 := h1
  have lt1 : ∀ x ∈ p1, x.block < W.heap.size := by obtain ⟨m, hm⟩ := k1; exact DataW.trod_lt m _ _ _ hm
  obtain ⟨a1, len1, cap1, rfl⟩ := okWide_slice Try.underlying55 (hval 1 55 v1 rfl rfl)
  obtain ⟨x1, w1⟩ : ∃ x, (Go.Den.cSlice cDDiskWrite).is W [.slice a1 len1 cap1] x := by obtain ⟨fuel, hf⟩ := h1; exact ((o55).at_ enc W fuel _ _ hf).2
  clear hA0 hval0 hsz0 hsz
  refine (law_calls6 w0 w1).mono fun e W' ⟨he, bel⟩ => ?_
  subst he
  exact ⟨_, rfl, _, _, _, [], _, [], hW', trodAll_mk1 (shut_bool Try.underlying4 _), (trodAll_cons_mk (Below.trod laidOut (by kernel_rfl) (of_decide_eq_true (by kernel_rfl)) k0 bel lt0) (trodAll_cons_mk (Below.trod laidOut (by kernel_rfl) (of_decide_eq_true (by kernel_rfl)) k1 bel lt1) trodAll_mk0)), rfl, bel.frame _, fun h => by cases h⟩
theorem over : Rows.fnExactJnlPlanRow.holds Try.pinned (OpenSpec.ofChange Rows.fnExactJnlPlanSpec) :=
  OpenClaim.holds_of_wide 6 Try.f6 rfl rfl rfl rfl rfl rfl rfl ⟨rfl, rfl, rfl, rfl, rfl⟩ rfl rfl rfl rfl rfl (by kernel_rfl) Try.func6 (by kernel_rfl)
    (of_decide_eq_true (by kernel_rfl)) (by unfold Func.isWrapper; first | (rw [if_pos (by decide +kernel)]; kernel_rfl) | (rw [if_neg (by decide +kernel)]; exact ⟨rfl, rfl⟩))
    (fun os started H enc _ => lifted os started H enc)
theorem proved : Rows.FnExactJnlPlanSaid := over
#print axioms proved
end Go.Proofs.Ytenhcpjlkmbedaa.fnExactJnlPlan
namespace Go.Proofs.Ytenhcpjlkmbedaa
/-- The row, under a short name, for the claim. -/
theorem fnExactJnlPlan_holds : Rows.FnExactJnlPlanSaid := fnExactJnlPlan.proved
end Go.Proofs.Ytenhcpjlkmbedaa
