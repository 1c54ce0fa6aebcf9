/- Part 5 of 6: plain readings of code, rules for them, and a proof over them, joined by a program. Conditions: none. -/
import Derived.Test.YteigefjiifihpaaPG4
/- Processes, the reference's side: kill, action, group. Conditions: none. -/
set_option linter.unusedVariables false
set_option linter.unusedSimpArgs false
namespace Go.Proofs.Yteigefjiifihpaa
open Go Go.Den
abbrev popV (k id to_ n : Int) : List Value := [.int .i64 k, .int .i64 id, .int .i64 to_, .int .i64 n]
abbrev BO (b : Nat) (k id to_ n : Int) : Asr := aB b ((popV k id to_ n).map Ce.v)
theorem aimed_eq (me x : DProc) (to_ : Int) : aimed me to_ x = (if to_ < -1 then x.Group == IntKind.i64.wrap (0 - to_) else if to_ = -1 then (x.Id != 1 && x.Id != me.Id) else if to_ = 0 then x.Group == me.Group else x.Id == to_) := by
  unfold aimed meant
  by_cases h1 : to_ < -1
  · rw [if_pos h1, if_neg (by omega), if_neg (by omega), if_neg (by omega), show (to_ == -1) = false by simp; omega]; simp
  by_cases h2 : to_ = -1
  · subst h2; simp [bne]
  by_cases h3 : to_ = 0
  · subst h3; simp
  · simp only [if_neg h1, if_neg h2, if_neg h3, show to_ > 0 ↔ ¬ to_ < 0 by omega]
    by_cases h4 : to_ < 0
    · omega
    · simp [h4, h2]
def killX (me : DProc) (to_ n : Int) (y : DProc) : DProc := if n > 0 ∧ hit me to_ y = true then sendY n.toNat y else y
theorem killR_eq {l : List DProc} {me : DProc} {to_ n : Int} (hn : ¬ (n < 0 ∨ n > 15)) : killR l me to_ n = (if l.any (aimed me to_) = false then (l.map (killX me to_ n), 3, 0, 0) else if ((l.filter (hit me to_)).length : Int) = 0 then (l.map (killX me to_ n), 2, 0, 0) else (l.map (killX me to_ n), 0, (((l.filter (hit me to_)).length : Nat) : Int), 0) : PRes) := by
  unfold killR
  rw [if_neg hn]
  have hid : (l.filter (hit me to_)).length = 0 → l.map (killX me to_ n) = l := fun h0 => by
    have : ∀ y, y ∈ l → hit me to_ y = false := fun y hy => by
      have := List.filter_eq_nil_iff.1 (List.length_eq_zero_iff.1 h0) y hy
      simpa using this
    conv => rhs; rw [← List.map_id l]
    refine List.map_congr_left (fun y hy => ?_)
    unfold killX
    rw [this y hy]; simp
  by_cases h1 : l.any (aimed me to_) = false
  · rw [if_pos h1, if_pos h1, hid]
    refine List.length_eq_zero_iff.2 (List.filter_eq_nil_iff.2 (fun y hy => ?_))
    have := List.any_eq_false.1 h1 y hy
    unfold hit
    simp at this
    rw [this]; simp
  · rw [if_neg h1, if_neg h1]
    by_cases h2 : (l.filter (hit me to_)).length = 0
    · rw [if_pos h2, if_pos (by omega), hid h2]
    · rw [if_neg h2, if_neg (show ¬ (((l.filter (hit me to_)).length : Nat) : Int) = 0 by omega)]
      by_cases h3 : n > 0
      · rw [if_pos h3]
        congr 1
        refine List.map_congr_left (fun y hy => ?_)
        unfold killX
        by_cases h4 : hit me to_ y = true
        · rw [if_pos h4, if_pos ⟨h3, h4⟩]
        · rw [if_neg h4, if_neg (fun hh => h4 hh.2)]
      · rw [if_neg h3]
        congr 1
        conv => lhs; rw [← List.map_id l]
        refine List.map_congr_left (fun y hy => ?_)
        unfold killX
        rw [if_neg (fun hh => h3 hh.1)]; rfl
theorem filter_len {α : Type} (p : α → Bool) {l : List α} {m : Nat} {x : α} (hx : l[m]? = some x) : ((l.take (m + 1)).filter p).length = ((l.take m).filter p).length + (if p x = true then 1 else 0) := by
  rw [List.take_add_one, hx, List.filter_append, List.length_append]
  simp only [Option.toList_some, List.filter_cons, List.filter_nil]
  split <;> rfl
theorem s129 {w0 w : World} {F : List Asr} {t : Sl} {l : List DProc} {i : Nat} {x : DProc} {k id to_ n : Int} (h : SH w0 w (RP t l :: F)) (hv : PInv l) (hx : l[i]? = some x) :
    CallW Try.prog 129 #[pAgg t, .int .i64 (i : Int), .agg #[.int .i64 k, .int .i64 id, .int .i64 to_, .int .i64 n]] w (KPR w0 F (killR l x to_ n)) := by
  refine go129 ?_
  unfold W129
  have hlen := hv.len
  have htl := h.len 0 rfl
  rw [recs_len] at htl
  have hil := (List.getElem?_eq_some_iff.1 hx).1
  obtain ⟨q, hqa⟩ := h.rowQ 0 rfl hx
  refine h.alloc (fun w1 h e1 n1 => ?_)
  refine h.alloc (fun w2 h e2 n2 => ?_)
  refine h.alloc (fun w3 h e3 n3 => ?_)
  refine h.alloc (fun w4 h e4 n4 => ?_)
  refine ⟨_, h.cell 2 rfl rfl, ?_⟩
  refine join_or_ex _ (h.cell 2 rfl rfl) ?_
  refine BIf.of (fun hb => ?_) (fun hb => ?_)
  · simp only [Bool.or_eq_true, decide_eq_true_eq] at hb
    have hres : killR l x to_ n = (l, 1, 0, 0) := by unfold killR; rw [if_pos hb]
    rw [hres]
    exact retQ h 3 1 0 rfl rfl rfl rfl (by simp) (fun w2 h => ⟨t, rfl, ((((h.dropAt 3).dropAt 2).dropAt 1).dropAt 0)⟩)
  simp only [Bool.or_eq_false_iff, decide_eq_false_iff_not] at hb
  rw [killR_eq (by omega)]
  obtain ⟨sg, rfl⟩ := Int.eq_ofNat_of_zero_le (show 0 ≤ n by omega)
  simp only [Int.toNat_natCast]
  refine ⟨t, h.cell 3 rfl rfl, by omega, by omega, q, hqa, _, h.rdR 4 rfl hqa hx rfl, _, h.rdR 4 rfl hqa hx rfl, _, h.rdR 4 rfl hqa hx rfl, _, h.rdR 4 rfl hqa hx rfl, _, h.rdR 4 rfl hqa hx rfl, _, h.rdR 4 rfl hqa hx rfl, _, h.rdR 4 rfl hqa hx rfl, _, h.rdR 4 rfl hqa hx rfl, _, h.rdR 4 rfl hqa hx rfl, _, h.rdR 4 rfl hqa hx rfl, ?_⟩
  refine h.alloc (fun w28 h e28 n28 => ?_)
  refine h.put 0 rfl rfl rfl (fun w29 h n29 => ?_)
  have h : SH w0 w29 (BX w4.heap.size x :: aB w3.heap.size ((rs3 0 0 0).map Ce.v) :: aB w2.heap.size (ZT.map Ce.v) :: BO w1.heap.size k id to_ sg :: BS w.heap.size t :: RP t ((l.take 0).map (killX x to_ sg) ++ l.drop 0) :: F) := h
  refine LoopW.m3 (fun (b : Bool) (c i : Int) w' => ∃ m : Nat, i = m ∧ m ≤ l.length ∧ b = (l.take m).any (aimed x to_) ∧ c = (((l.take m).filter (hit x to_)).length : Nat) ∧ SH w0 w' (BX w4.heap.size x :: aB w3.heap.size ((rs3 0 0 0).map Ce.v) :: aB w2.heap.size (ZT.map Ce.v) :: BO w1.heap.size k id to_ sg :: BS w.heap.size t :: RP t ((l.take m).map (killX x to_ sg) ++ l.drop m) :: F)) (fun _ _ (i : Int) _ => (l.length - i).toNat) ⟨0, rfl, by omega, rfl, rfl, h⟩ ?_
  clear h
  rintro (b : Bool) (c : Int) (i' : Int) w34 ⟨m, rfl, hm, rfl, rfl, h⟩ J hJ
  have hcl : ((l.take m).filter (hit x to_)).length ≤ 32 := by
    have := List.length_filter_le (hit x to_) (l.take m)
    rw [List.length_take] at this
    omega
  refine ⟨t, h.cell 4 rfl rfl, BIf.dec (fun hlt => ?_) (fun hge => ?_)⟩
  · have hget : l[m]? = some l[m] := List.getElem?_eq_getElem (by omega)
    have hstep := any_step (aimed x to_) hget
    have hfl := filter_len (hit x to_) hget
    have hmg := mapTo_get (killX x to_ sg) hget
    have hms := mapTo_set (killX x to_ sg) hget
    have hyo := hv.ok _ (List.mem_of_getElem? hget)
    generalize l[m] = y at *
    simp only [Int.toNat_natCast]
    rw [w64 (n := (m : Int) + 1) (by omega) (by omega), w64 (n := ((((l.take m).filter (hit x to_)).length : Nat) : Int) + 1) (by omega) (by omega)]
    refine ⟨t, h.cell 4 rfl rfl, by omega, by omega, q, hqa, _, h.rdR 5 rfl hqa hmg rfl, _, h.rdR 5 rfl hqa hmg rfl, _, h.rdR 5 rfl hqa hmg rfl, _, h.rdR 5 rfl hqa hmg rfl, _, h.rdR 5 rfl hqa hmg rfl, _, h.rdR 5 rfl hqa hmg rfl, _, h.rdR 5 rfl hqa hmg rfl, _, h.rdR 5 rfl hqa hmg rfl, _, h.rdR 5 rfl hqa hmg rfl, _, h.rdR 5 rfl hqa hmg rfl, ?_⟩
    refine h.alloc (fun w48 h e48 n48 => ?_)
    refine h.put 0 rfl rfl rfl (fun w49 h n49 => ?_)
    refine ⟨_, h.cell 0 rfl rfl, _, h.cell 4 rfl rfl, JoinW.cut1 (fun (c : Bool) w' => c = (if to_ = 0 then y.Group == x.Group else y.Id == to_) ∧ w' = w49) ?_ ?_⟩
    · refine ⟨_, h.cell 4 rfl rfl, BIf.eq (fun h0 => ⟨_, h.cell 0 rfl rfl, _, h.cell 1 rfl rfl, ?_, rfl⟩) (fun h0 => ⟨?_, rfl⟩)⟩
      · rw [if_pos h0]
      · rw [if_neg h0]
    rintro (c1 : Bool) w54 ⟨rfl, rfl⟩
    refine JoinW.cut1 (fun (c : Bool) w' => c = (if to_ = -1 then (y.Id != 1 && y.Id != x.Id) else if to_ = 0 then y.Group == x.Group else y.Id == to_) ∧ w' = w54) ?_ ?_
    · refine ⟨_, h.cell 4 rfl rfl, BIf.eq (fun h0 => ⟨_, h.cell 0 rfl rfl, ?_⟩) (fun h0 => ⟨?_, rfl⟩)⟩
      · rw [if_pos h0]
        refine JoinW.each (BIf.of (fun hb => ⟨_, h.cell 0 rfl rfl, _, h.cell 1 rfl rfl, ?_, rfl⟩) (fun hb => ⟨?_, rfl⟩))
        · rw [hb]; rfl
        · rw [hb]; rfl
      · rw [if_neg h0]
    rintro (c2 : Bool) w57 ⟨rfl, rfl⟩
    refine JoinW.cut1 (fun (c : Bool) w' => c = aimed x to_ y ∧ w' = w57) ?_ ?_
    · rw [aimed_eq]
      refine ⟨_, h.cell 4 rfl rfl, BIf.dec (fun h0 => ⟨_, h.cell 0 rfl rfl, _, h.cell 4 rfl rfl, ?_, rfl⟩) (fun h0 => ⟨?_, rfl⟩)⟩
      · rw [if_pos h0]
      · rw [if_neg h0]
    rintro (c3 : Bool) w60 ⟨rfl, rfl⟩
    refine BIf.not (BIf.of (fun ha => ?_) (fun ha => ?_))
    · rw [ha, Bool.or_true] at hstep
      refine ⟨_, h.cell 1 rfl rfl, JoinW.cut1 (fun (c : Bool) w' => c = mayK x y ∧ w' = w60) (BIf.of (fun hu => ⟨?_, rfl⟩) (fun hu => ⟨_, h.cell 1 rfl rfl, _, h.cell 0 rfl rfl, ?_, rfl⟩)) ?_⟩
      · unfold mayK; rw [hu]; rfl
      · unfold mayK; rw [hu]; rfl
      rintro (c4 : Bool) w64' ⟨rfl, rfl⟩
      refine BIf.of (fun hk => ?_) (fun hk => ?_)
      · have hh : hit x to_ y = true := by unfold hit; rw [ha, hk]; rfl
        rw [if_pos hh] at hfl
        refine ⟨_, h.cell 4 rfl rfl, BIf.dec (fun hp => ?_) (fun hp => ?_)⟩
        · refine ⟨t, h.cell 5 rfl rfl, _, h.cell 4 rfl rfl, (s151 (i := m) (sig := sg) (h.front (n := 6) rfl) hmg hyo (by omega) (by omega) (by rw [mapTo_len]; omega)).mono ?_⟩
          rintro _ w69 ⟨rfl, h⟩
          have hkx : killX x to_ sg y = sendY sg y := by unfold killX; rw [if_pos ⟨hp, hh⟩, Int.toNat_natCast]
          rw [sendF_at hmg, ← hkx, hms] at h
          refine ⟨rfl, hJ _ _ _ _ ⟨m + 1, by omega, by omega, hstep.symm, by rw [hfl]; omega, ?_⟩ (by omega)⟩
          exact (((((h.dropAt 1).front (n := 5) rfl).front (n := 5) rfl).front (n := 5) rfl).front (n := 5) rfl).front (n := 5) rfl
        · have hkx : killX x to_ sg y = y := by unfold killX; rw [if_neg (fun e => hp e.1)]
          rw [hkx, ← set_at hmg] at hms
          exact hJ _ _ _ _ ⟨m + 1, by omega, by omega, hstep.symm, by rw [hfl]; omega, by rw [← hms]; exact h.drop⟩ (by omega)
      · have hh : ¬ hit x to_ y = true := by unfold hit; rw [hk]; simp
        rw [if_neg hh] at hfl
        have hkx : killX x to_ sg y = y := by unfold killX; rw [if_neg (fun e => hh e.2)]
        rw [hkx, ← set_at hmg] at hms
        exact hJ _ _ _ _ ⟨m + 1, by omega, by omega, hstep.symm, by rw [hfl]; rfl, by rw [← hms]; exact h.drop⟩ (by omega)
    · have hh : ¬ hit x to_ y = true := by unfold hit; rw [ha]; simp
      rw [if_neg hh] at hfl
      have hkx : killX x to_ sg y = y := by unfold killX; rw [if_neg (fun e => hh e.2)]
      rw [hkx, ← set_at hmg] at hms
      exact hJ _ _ _ _ ⟨m + 1, by omega, by omega, by rw [hstep, ha, Bool.or_false], by rw [hfl]; rfl, by rw [← hms]; exact h.drop⟩ (by omega)
  · have hmm : m = l.length := by omega
    subst hmm
    rw [List.drop_length, List.append_nil] at h
    simp only [List.take_length] at *
    refine BIf.not (BIf.of (fun ha => ?_) (fun ha => ?_))
    · rw [if_neg (by rw [ha]; decide)]
      refine BIf.eq (fun h0 => ?_) (fun h0 => ?_)
      · rw [if_pos h0]
        exact retQ h 4 2 1 rfl rfl rfl rfl (by simp) (fun w2 h => ⟨t, rfl, (((((h.dropAt 4).dropAt 3).dropAt 2).dropAt 1).dropAt 0)⟩)
      · rw [if_neg h0]
        exact retQ h 4 2 1 rfl rfl rfl rfl (by simp) (fun w2 h => ⟨t, rfl, (((((h.dropAt 4).dropAt 3).dropAt 2).dropAt 1).dropAt 0)⟩)
    · rw [if_pos ha]
      exact retQ h 4 2 1 rfl rfl rfl rfl (by simp) (fun w2 h => ⟨t, rfl, (((((h.dropAt 4).dropAt 3).dropAt 2).dropAt 1).dropAt 0)⟩)
theorem s132 {w0 w : World} {F : List Asr} {t : Sl} {l : List DProc} {i : Nat} {x : DProc} {k id to_ n : Int} (h : SH w0 w (RP t l :: F)) (hv : PInv l) (hx : l[i]? = some x) :
    CallW Try.prog 132 #[pAgg t, .int .i64 (i : Int), .agg #[.int .i64 k, .int .i64 id, .int .i64 to_, .int .i64 n]] w (KPR w0 F (actR l i x to_ n)) := by
  refine go132 ?_
  unfold W132
  have hlen := hv.len
  have ho := hv.ok x (List.mem_of_getElem? hx)
  have htl := h.len 0 rfl
  rw [recs_len] at htl
  have hil := (List.getElem?_eq_some_iff.1 hx).1
  obtain ⟨q, hqa⟩ := h.rowQ 0 rfl hx
  refine h.alloc (fun w1 h e1 n1 => ?_)
  refine h.alloc (fun w2 h e2 n2 => ?_)
  refine h.alloc (fun w3 h e3 n3 => ?_)
  refine h.alloc (fun w4 h e4 n4 => ?_)
  refine ⟨_, h.cell 2 rfl rfl, ?_⟩
  refine join_or_ex _ (h.cell 2 rfl rfl) ?_
  refine join_or_ex _ (h.cell 2 rfl rfl) ?_
  refine join_or_ex _ (h.cell 2 rfl rfl) ?_
  refine join_or_ex _ (h.cell 2 rfl rfl) ?_
  refine join_or_ex _ (h.cell 2 rfl rfl) ?_
  refine BIf.of (fun hb => ?_) (fun hb => ?_)
  · simp only [Bool.or_eq_true, decide_eq_true_eq, beq_iff_eq] at hb
    have hres : actR l i x to_ n = (l, 1, 0, 0) := by unfold actR; rw [if_pos (by omega)]
    rw [hres]
    exact retQ h 3 1 0 rfl rfl rfl rfl (by simp) (fun w2 h => ⟨t, rfl, ((((h.dropAt 3).dropAt 2).dropAt 1).dropAt 0)⟩)
  simp only [Bool.or_eq_false_iff, decide_eq_false_iff_not, beq_eq_false_iff_ne] at hb
  obtain ⟨sg, rfl⟩ := Int.eq_ofNat_of_zero_le (show 0 ≤ to_ by omega)
  have hres : actR l i x sg n = (l.set i (actX x sg n), 0, 0, 0) := by unfold actR; rw [if_neg (by omega), Int.toNat_natCast]
  rw [hres]
  have i1 := SS.less ho.ign (i := sg) (by omega)
  have c1 := SS.less ho.cau (i := sg) (by omega)
  simp only [Int.toNat_natCast]
  refine ⟨t, h.cell 3 rfl rfl, by omega, by omega, q, hqa, _, h.rdR 4 rfl hqa hx rfl, _, h.rdR 4 rfl hqa hx rfl, _, h.rdR 4 rfl hqa hx rfl, _, h.rdR 4 rfl hqa hx rfl, _, h.rdR 4 rfl hqa hx rfl, _, h.rdR 4 rfl hqa hx rfl, _, h.rdR 4 rfl hqa hx rfl, _, h.rdR 4 rfl hqa hx rfl, _, h.rdR 4 rfl hqa hx rfl, _, h.rdR 4 rfl hqa hx rfl, ?_⟩
  refine h.alloc (fun w40 h e40 n40 => ?_)
  refine h.put 0 rfl rfl rfl (fun w41 h n41 => ?_)
  refine ⟨_, h.cell 0 rfl rfl, _, h.cell 3 rfl rfl, (c131 (VS.small ho.ign.1).1 (VS.small ho.ign.1).2 (by omega)).mono ?_⟩
  rintro _ w45 ⟨rfl, rfl⟩
  refine ⟨_, rfl, ?_⟩
  refine h.setV 0 rfl rfl (fun w47 h n47 => ?_)
  refine ⟨_, h.cell 0 rfl rfl, _, h.cell 3 rfl rfl, (c131 (VS.small ho.cau.1).1 (VS.small ho.cau.1).2 (by omega)).mono ?_⟩
  rintro _ w51 ⟨rfl, rfl⟩
  refine ⟨_, rfl, ?_⟩
  refine h.setV 0 rfl rfl (fun w53 h n53 => ?_)
  refine JoinW.cut0 (fun w' => SH w0 w' (BX w4.heap.size ⟨x.Id, x.Parent, x.Group, x.User, x.State, x.Status, if n = 1 then lessS x.Pending sg else x.Pending, x.Mask, if n = 1 then withS (lessS x.Ignored sg) sg else lessS x.Ignored sg, lessS x.Caught sg⟩ :: aB w3.heap.size ((rs3 0 0 0).map Ce.v) :: aB w2.heap.size (ZT.map Ce.v) :: BO w1.heap.size k id sg n :: BS w.heap.size t :: RP t l :: F)) ?_ ?_
  · refine ⟨_, h.cell 3 rfl rfl, BIf.eq (fun h1 => ?_) (fun h1 => ?_)⟩
    · rw [if_pos h1, if_pos h1]
      refine ⟨_, h.cell 0 rfl rfl, _, h.cell 3 rfl rfl, (c154 i1.1.1 (by have := i1.1.2.1; omega) (by omega)).mono ?_⟩
      rintro _ w89 ⟨rfl, rfl⟩
      refine ⟨_, rfl, ?_⟩
      refine h.setV 0 rfl rfl (fun w91 h n91 => ?_)
      refine ⟨_, h.cell 0 rfl rfl, _, h.cell 3 rfl rfl, (c131 (VS.small ho.pend).1 (VS.small ho.pend).2 (by omega)).mono ?_⟩
      rintro _ w95 ⟨rfl, rfl⟩
      refine ⟨_, rfl, ?_⟩
      exact h.setV 0 rfl rfl (fun w97 h n97 => h)
    · rw [if_neg h1, if_neg h1]
      exact h
  clear h
  intro w55 h
  refine JoinW.cut0 (fun w' => SH w0 w' (BX w4.heap.size (actX x sg n) :: aB w3.heap.size ((rs3 0 0 0).map Ce.v) :: aB w2.heap.size (ZT.map Ce.v) :: BO w1.heap.size k id sg n :: BS w.heap.size t :: RP t l :: F)) ?_ ?_
  · refine ⟨_, h.cell 3 rfl rfl, BIf.eq (fun h1 => ?_) (fun h1 => ?_)⟩
    · refine ⟨_, h.cell 0 rfl rfl, _, h.cell 3 rfl rfl, (c154 c1.1.1 (by have := c1.1.2.1; omega) (by omega)).mono ?_⟩
      rintro _ w82 ⟨rfl, rfl⟩
      refine ⟨_, rfl, ?_⟩
      refine h.setV 0 rfl rfl (fun w84 h n84 => ?_)
      have he : actX x sg n = ⟨x.Id, x.Parent, x.Group, x.User, x.State, x.Status, if n = 1 then lessS x.Pending sg else x.Pending, x.Mask, if n = 1 then withS (lessS x.Ignored sg) sg else lessS x.Ignored sg, withS (lessS x.Caught sg) sg⟩ := by unfold actX; rw [if_pos h1]
      rw [he]; exact h
    · have he : actX x sg n = ⟨x.Id, x.Parent, x.Group, x.User, x.State, x.Status, if n = 1 then lessS x.Pending sg else x.Pending, x.Mask, if n = 1 then withS (lessS x.Ignored sg) sg else lessS x.Ignored sg, lessS x.Caught sg⟩ := by unfold actX; rw [if_neg h1]
      rw [he]; exact h
  clear h
  intro w57 h
  refine ⟨t, h.cell 4 rfl rfl, _, h.cell 0 rfl rfl, _, h.cell 0 rfl rfl, _, h.cell 0 rfl rfl, _, h.cell 0 rfl rfl, _, h.cell 0 rfl rfl, _, h.cell 0 rfl rfl, _, h.cell 0 rfl rfl, _, h.cell 0 rfl rfl, _, h.cell 0 rfl rfl, _, h.cell 0 rfl rfl, by omega, by omega, q, hqa, ?_⟩
  refine h.putR 5 (actX x sg n) rfl hqa hx rfl rfl rfl (fun w70 h n70 => ?_)
  exact retQ h 4 2 1 rfl rfl rfl rfl (by simp) (fun w2 h => ⟨t, rfl, (((((h.dropAt 4).dropAt 3).dropAt 2).dropAt 1).dropAt 0)⟩)
theorem s134 {w0 w : World} {F : List Asr} {t : Sl} {l : List DProc} {i k id to_ n : Int} (h : SH w0 w (RP t l :: F)) (hv : PInv l) :
    CallW Try.prog 134 #[pAgg t, .int .i64 i, .agg #[.int .i64 k, .int .i64 id, .int .i64 to_, .int .i64 n]] w (KPR w0 F (grpR l id to_ n)) := by
  refine go134 ?_
  unfold W134
  have hlen := hv.len
  have htl := h.len 0 rfl
  rw [recs_len] at htl
  refine h.alloc (fun w1 h e1 n1 => ?_)
  refine h.alloc (fun w2 h e2 n2 => ?_)
  refine h.alloc (fun w3 h e3 n3 => ?_)
  refine h.alloc (fun w4 h e4 n4 => ?_)
  refine ⟨t, h.cell 3 rfl rfl, _, h.cell 2 rfl rfl, (c102 (qatOf h 4 rfl (by omega))).mono ?_⟩
  rintro _ w8 ⟨rfl, e8⟩
  have h := (h.to e8).drew
  refine ⟨_, rfl, ?_⟩
  unfold grpR
  rcases ixP_find l to_ with ⟨g1, g2⟩ | ⟨j, y, g1, g2, g3⟩
  · rw [g1, g2]
    refine JoinW.each (BIf.t rfl (BIf.t rfl ?_))
    exact retQ h 3 1 0 rfl rfl rfl rfl (by simp) (fun w2 h => ⟨t, rfl, ((((h.dropAt 3).dropAt 2).dropAt 1).dropAt 0)⟩)
  have hjl := (List.getElem?_eq_some_iff.1 g2).1
  obtain ⟨q, hqa⟩ := h.rowQ 4 rfl g2
  rw [g1, g3]
  simp only [Int.toNat_natCast]
  refine JoinW.cut1 (fun (b : Bool) w' => (b = true ↔ (to_ ≠ id ∧ y.Parent ≠ id) ∨ y.State = 3) ∧ w' = w8.drew) ?_ ?_
  · refine BIf.f (decide_eq_false (by omega)) ⟨_, h.cell 2 rfl rfl, _, h.cell 2 rfl rfl, BIf.ne (fun hne => ?_) (fun heq => ⟨t, h.cell 3 rfl rfl, by omega, by omega, q, hqa, _, h.rdR 4 rfl hqa g2 rfl, ?_, rfl⟩)⟩
    · refine ⟨t, h.cell 3 rfl rfl, by omega, by omega, q, hqa, _, h.rdR 4 rfl hqa g2 rfl, _, h.cell 2 rfl rfl, BIf.ne (fun hne2 => ⟨iff_of_true rfl (.inl ⟨hne, hne2⟩), rfl⟩) (fun heq2 => ⟨t, h.cell 3 rfl rfl, by omega, by omega, q, hqa, _, h.rdR 4 rfl hqa g2 rfl, ?_, rfl⟩)⟩
      rw [beq_iff_eq]
      exact ⟨.inr, fun hh => hh.elim (fun e => absurd heq2 e.2) (fun e => e)⟩
    · rw [beq_iff_eq]
      exact ⟨.inr, fun hh => hh.elim (fun e => absurd heq e.1) (fun e => e)⟩
  rintro (b : Bool) w12 ⟨hb, rfl⟩
  refine BIf.of (fun ht => ?_) (fun hf => ?_)
  · rw [if_pos (hb.1 ht)]
    exact retQ h 3 1 0 rfl rfl rfl rfl (by simp) (fun w2 h => ⟨t, rfl, ((((h.dropAt 3).dropAt 2).dropAt 1).dropAt 0)⟩)
  rw [if_neg (fun hh => by rw [hb.2 hh] at hf; cases hf)]
  refine ⟨_, h.cell 2 rfl rfl, ?_⟩
  refine join_or_ex _ (h.cell 2 rfl rfl) ?_
  refine BIf.of (fun hb2 => ?_) (fun hb2 => ?_)
  · simp only [Bool.or_eq_true, decide_eq_true_eq] at hb2
    rw [if_pos hb2]
    exact retQ h 3 1 0 rfl rfl rfl rfl (by simp) (fun w2 h => ⟨t, rfl, ((((h.dropAt 3).dropAt 2).dropAt 1).dropAt 0)⟩)
  simp only [Bool.or_eq_false_iff, decide_eq_false_iff_not] at hb2
  rw [if_neg (by omega)]
  refine ⟨_, h.cell 2 rfl rfl, _, h.cell 2 rfl rfl, ?_⟩
  have hA : ∀ v, v = (n == to_) → v = (n == to_ || (l.take 0).any (fun z => z.Id != to_ && z.Group == n)) := fun v hv => by rw [hv]; simp
  refine LoopW.m2 (fun (b : Bool) (i : Int) w' => ∃ m : Nat, i = m ∧ m ≤ l.length ∧ b = (n == to_ || (l.take m).any (fun z => z.Id != to_ && z.Group == n)) ∧ SH w0 w' (aB w3.heap.size ((rs3 0 0 0).map Ce.v) :: aB w2.heap.size (ZT.map Ce.v) :: BO w1.heap.size k id to_ n :: BS w.heap.size t :: RP t l :: F)) (fun _ (i : Int) _ => (l.length - i).toNat) ⟨0, rfl, by omega, hA _ rfl, h⟩ ?_
  clear h
  rintro (b2 : Bool) (i' : Int) w36 ⟨m, rfl, hm, rfl, h⟩ J hJ
  refine ⟨t, h.cell 3 rfl rfl, BIf.dec (fun hlt => ?_) (fun hge => ?_)⟩
  · have hget : l[m]? = some l[m] := List.getElem?_eq_getElem (by omega)
    have hstep := any_step (fun z : DProc => z.Id != to_ && z.Group == n) hget
    generalize l[m] = z at *
    have h := h.drew
    simp only [Int.toNat_natCast]
    rw [w64 (n := (m : Int) + 1) (by omega) (by omega)]
    refine BIf.of (fun ht => hJ _ _ _ ⟨m + 1, by omega, by omega, ?_, h⟩ (by omega)) (fun hf => ?_)
    · rw [hstep, ← Bool.or_assoc, ht]; rfl
    refine ⟨t, h.cell 3 rfl rfl, by omega, by omega, q, hqa, _, h.rdR 4 rfl hqa hget rfl, _, h.cell 2 rfl rfl, BIf.of (fun h1 => ?_) (fun h1 => ?_)⟩
    · refine ⟨t, h.cell 3 rfl rfl, by omega, by omega, q, hqa, _, h.rdR 4 rfl hqa hget rfl, _, h.cell 2 rfl rfl, hJ _ _ _ ⟨m + 1, by omega, by omega, ?_, h⟩ (by omega)⟩
      rw [hstep, ← Bool.or_assoc, hf, h1]; rfl
    · refine hJ _ _ _ ⟨m + 1, by omega, by omega, ?_, h⟩ (by omega)
      rw [hstep, ← Bool.or_assoc, hf, h1]; rfl
  · have hmm : m = l.length := by omega
    subst hmm
    simp only [List.take_length] at *
    refine BIf.not (BIf.of (fun ht => ?_) (fun hf => ?_))
    · rw [if_pos (by simpa using ht)]
      refine ⟨t, h.cell 3 rfl rfl, _, h.cell 2 rfl rfl, by omega, by omega, q, hqa, ?_⟩
      rw [set_at g2] at h
      refine h.setR 4 (⟨y.Id, y.Parent, n, y.User, y.State, y.Status, y.Pending, y.Mask, y.Ignored, y.Caught⟩ : DProc) rfl hqa hjl (by show 2 < 10; omega) rfl (fun w56 h n56 => ?_)
      exact retQ h 3 1 0 rfl rfl rfl rfl (by simp) (fun w2 h => ⟨t, rfl, ((((h.dropAt 3).dropAt 2).dropAt 1).dropAt 0)⟩)
    · rw [if_neg (by rw [Bool.or_eq_false_iff, beq_eq_false_iff_ne] at hf; rintro (e | e); exact hf.1 e; rw [hf.2] at e; cases e)]
      exact retQ h 3 1 0 rfl rfl rfl rfl (by simp) (fun w2 h => ⟨t, rfl, ((((h.dropAt 3).dropAt 2).dropAt 1).dropAt 0)⟩)
end Go.Proofs.Yteigefjiifihpaa

/- Processes, the reference's side: a signal taken; one operation. Conditions: none. -/
set_option linter.unusedVariables false
set_option linter.unusedSimpArgs false
namespace Go.Proofs.Yteigefjiifihpaa
open Go Go.Den
theorem s133 {w0 w : World} {F : List Asr} {t : Sl} {l : List DProc} {i : Nat} {x : DProc} (h : SH w0 w (RP t l :: F)) (hv : PInv l) (hx : l[i]? = some x) (hz : x.State ≠ 3) :
    CallW Try.prog 133 #[pAgg t, .int .i64 (i : Int)] w (KPR w0 F (takeR l i x)) := by
  refine go133 ?_
  unfold W133
  have hlen := hv.len
  have ho := hv.ok x (List.mem_of_getElem? hx)
  have htl := h.len 0 rfl
  rw [recs_len] at htl
  have hil := (List.getElem?_eq_some_iff.1 hx).1
  obtain ⟨q, hqa⟩ := h.rowQ 0 rfl hx
  have hp := VS.small ho.pend
  have hm := VS.small ho.mask.1
  refine h.alloc (fun w1 h e1 n1 => ?_)
  refine h.alloc (fun w2 h e2 n2 => ?_)
  refine h.alloc (fun w3 h e3 n3 => ?_)
  simp only [Int.toNat_natCast]
  refine ⟨t, h.cell 2 rfl rfl, by omega, by omega, q, hqa, _, h.rdR 3 rfl hqa hx rfl, _, h.rdR 3 rfl hqa hx rfl, _, h.rdR 3 rfl hqa hx rfl, _, h.rdR 3 rfl hqa hx rfl, _, h.rdR 3 rfl hqa hx rfl, _, h.rdR 3 rfl hqa hx rfl, _, h.rdR 3 rfl hqa hx rfl, _, h.rdR 3 rfl hqa hx rfl, _, h.rdR 3 rfl hqa hx rfl, _, h.rdR 3 rfl hqa hx rfl, ?_⟩
  refine h.alloc (fun w16 h e16 n16 => ?_)
  refine h.put 0 rfl rfl rfl (fun w17 h n17 => ?_)
  have h : SH w0 w17 (BX w3.heap.size x :: aB w2.heap.size ((rs3 0 0 0).map Ce.v) :: aB w1.heap.size (ZT.map Ce.v) :: BS w.heap.size t :: RP t l :: F) := h
  refine LoopW.m2 (fun (g s : Int) w' => ∃ k : Nat, s = k ∧ k ≤ 15 ∧ g = (leastS x (15 - k) (k + 1) : Nat) ∧ w' = w17) (fun _ (s : Int) _ => s.toNat) ⟨15, rfl, by omega, rfl, rfl⟩ ?_
  rintro (g : Int) (s : Int) w21 ⟨k, rfl, hk, rfl, rfl⟩ J hJ
  refine BIf.dec (fun hge => ?_) (fun hlt => ?_)
  · refine ⟨_, h.cell 0 rfl rfl, (c143 hp.1 hp.2 (by omega)).mono ?_⟩
    rintro _ w24 ⟨rfl, rfl⟩
    refine ⟨_, rfl, JoinW.cut1 (fun (c : Bool) w' => c = decide (hasS x.Pending k = true ∧ hasS x.Mask k = false) ∧ w' = w24) ?_ ?_⟩
    · refine BIf.of (fun hb => ⟨_, h.cell 0 rfl rfl, (c143 hm.1 hm.2 (by omega)).mono ?_⟩) (fun hb => ⟨?_, rfl⟩)
      · rintro _ w31 ⟨rfl, rfl⟩
        refine ⟨_, rfl, ?_, rfl⟩
        rw [hb]
        cases hasS x.Mask k <;> rfl
      · rw [hb]; rfl
    rintro (c : Bool) w28 ⟨rfl, rfl⟩
    rw [w64 (by omega) (by omega)]
    have hstep : leastS x (15 - (k - 1)) (k - 1 + 1) = if hasS x.Pending k = true ∧ hasS x.Mask k = false then k else leastS x (15 - k) (k + 1) := by
      rw [show 15 - (k - 1) = (15 - k) + 1 by omega, show k - 1 + 1 = k by omega]
      rfl
    refine BIf.dec (fun hc => ?_) (fun hc => ?_)
    · rw [if_pos hc] at hstep
      exact hJ _ _ _ ⟨k - 1, by omega, by omega, by rw [hstep], rfl⟩ (by omega)
    · rw [if_neg hc] at hstep
      exact hJ _ _ _ ⟨k - 1, by omega, by omega, by rw [hstep], rfl⟩ (by omega)
  obtain rfl : k = 0 := by omega
  clear hJ J
  refine JoinW.cut1 (fun (g : Int) w' => g = (sigOf x : Nat) ∧ w' = w21) ?_ ?_
  · refine ⟨_, h.cell 0 rfl rfl, (c143 (n := 9) hp.1 hp.2 (by omega)).mono ?_⟩
    rintro _ w130 ⟨rfl, rfl⟩
    unfold sigOf
    refine ⟨_, rfl, BIf.of (fun hb => ?_) (fun hb => ?_)⟩
    · rw [if_pos hb]; exact ⟨rfl, rfl⟩
    · rw [if_neg (show ¬ hasS x.Pending 9 = true by rw [hb]; decide)]
      refine ⟨_, h.cell 0 rfl rfl, BIf.eq (fun h2 => ?_) (fun h2 => ?_)⟩
      · rw [if_pos h2]; exact ⟨rfl, rfl⟩
      · rw [if_neg h2]; exact ⟨rfl, rfl⟩
  rintro (g : Int) w35 ⟨rfl, rfl⟩
  obtain ⟨s1, s2⟩ := sigOf_le x
  have hdef : takeR l i x = takeR l i x := rfl
  conv at hdef => rhs; unfold takeR
  rw [hdef]
  clear hdef
  generalize sigOf x = sg at *
  refine BIf.eq (fun h0 => ?_) (fun h0 => ?_)
  · rw [if_pos (show sg = 0 by omega)]
    exact retQ h 3 2 1 rfl rfl rfl rfl (by simp) (fun w2 h => ⟨t, rfl, ((((h.dropAt 3).dropAt 2).dropAt 1).dropAt 0)⟩)
  rw [if_neg (show ¬ sg = 0 by omega)]
  have h := h.drew
  refine ⟨t, h.cell 3 rfl rfl, _, h.cell 0 rfl rfl, (c131 hp.1 hp.2 (by omega)).mono ?_⟩
  rintro _ w46 ⟨rfl, rfl⟩
  refine ⟨_, rfl, ⟨t, h.cell 3 rfl rfl, rfl⟩, by omega, by omega, q, hqa, ?_⟩
  rw [set_at hx] at h
  refine h.setR 4 (⟨x.Id, x.Parent, x.Group, x.User, x.State, x.Status, lessS x.Pending sg, x.Mask, x.Ignored, x.Caught⟩ : DProc) rfl hqa hil (by show 6 < 10; omega) rfl (fun w50 h n50 => ?_)
  have hl1 : VS (lessS x.Pending sg) := VS.less ho.pend (by omega)
  refine ⟨_, h.cell 0 rfl rfl, (c143 (VS.small ho.cau.1).1 (VS.small ho.cau.1).2 (by omega)).mono ?_⟩
  rintro _ w53 ⟨rfl, rfl⟩
  refine ⟨_, rfl, BIf.of (fun hb => ?_) (fun hb => ?_)⟩
  · rw [if_pos hb]
    have h := h.drew
    refine ⟨t, h.cell 3 rfl rfl, _, h.cell 0 rfl rfl, (c154 hm.1 (by have := ho.mask.1.2.1; omega) (by omega)).mono ?_⟩
    rintro _ w58 ⟨rfl, rfl⟩
    refine ⟨_, rfl, ⟨t, h.cell 3 rfl rfl, rfl⟩, by omega, by omega, q, hqa, ?_⟩
    refine h.setR 4 (⟨x.Id, x.Parent, x.Group, x.User, x.State, x.Status, lessS x.Pending sg, withS x.Mask sg, x.Ignored, x.Caught⟩ : DProc) rfl hqa hil (by show 7 < 10; omega) rfl (fun w62 h n62 => ?_)
    exact retQ h 3 2 1 rfl rfl rfl rfl (by simp) (fun w2 h => ⟨t, rfl, ((((h.dropAt 3).dropAt 2).dropAt 1).dropAt 0)⟩)
  rw [if_neg (show ¬ hasS x.Caught sg = true by rw [hb]; decide)]
  refine h.alloc (fun w70 h e70 n70 => ?_)
  refine h.put 0 rfl rfl rfl (fun w71 h n71 => ?_)
  refine BIf.eq (fun h12 => ?_) (fun h12 => ?_)
  · have h12' : sg = 12 := by omega
    subst h12'
    rw [if_pos rfl]
    refine ⟨t, h.cell 4 rfl rfl, by omega, by omega, q, hqa, ?_⟩
    refine h.setR 5 (⟨x.Id, x.Parent, x.Group, x.User, 2, x.Status, lessS x.Pending 12, x.Mask, x.Ignored, x.Caught⟩ : DProc) rfl hqa hil (by show 4 < 10; omega) rfl (fun w74 h n74 => ?_)
    have h := h.drew
    refine ⟨t, h.cell 4 rfl rfl, _, h.cell 0 rfl rfl, _, h.cell 0 rfl rfl, _, h.cell 0 rfl rfl, ?_⟩
    refine h.setV 3 rfl rfl (fun w79 h n79 => ⟨?_, ?_⟩)
    · exact ⟨_, h.cell 0 rfl rfl, _, h.cell 0 rfl rfl, _, h.cell 0 rfl rfl, rfl⟩
    refine h.put 2 rfl rfl rfl (fun w83 h n83 => ?_)
    refine ⟨t, h.cell 3 rfl rfl, _, h.cell 2 rfl rfl, _, h.cell 2 rfl rfl, _, h.cell 2 rfl rfl, ?_⟩
    exact ⟨t, rfl, (((((h.dropAt 4).dropAt 3).dropAt 2).dropAt 1).dropAt 0)⟩
  rw [if_neg (show ¬ sg = 12 by omega)]
  refine JoinW.cut1 (fun (c : Bool) w' => c = decide (sg = 14 ∨ sg = 13) ∧ w' = w71) ?_ ?_
  · refine BIf.eq (fun h14 => ⟨(decide_eq_true (.inl (by omega))).symm, rfl⟩) (fun h14 => ⟨?_, rfl⟩)
    show decide _ = _
    rw [decide_eq_decide]; omega
  rintro (c : Bool) w90 ⟨rfl, rfl⟩
  refine join_or_ex _ (h.cell 1 rfl rfl) ?_
  refine BIf.of (fun hb2 => ?_) (fun hb2 => ?_)
  · simp only [Bool.or_eq_true, decide_eq_true_eq, beq_iff_eq] at hb2
    rw [if_pos (show sg = 14 ∨ sg = 13 ∨ x.Id = 1 by omega)]
    have h := h.drew
    refine ⟨t, h.cell 4 rfl rfl, _, h.cell 0 rfl rfl, _, h.cell 0 rfl rfl, _, h.cell 0 rfl rfl, ?_⟩
    refine h.setV 3 rfl rfl (fun w79 h n79 => ⟨?_, ?_⟩)
    · exact ⟨_, h.cell 0 rfl rfl, _, h.cell 0 rfl rfl, _, h.cell 0 rfl rfl, rfl⟩
    refine h.put 2 rfl rfl rfl (fun w83 h n83 => ?_)
    refine ⟨t, h.cell 3 rfl rfl, _, h.cell 2 rfl rfl, _, h.cell 2 rfl rfl, _, h.cell 2 rfl rfl, ?_⟩
    exact ⟨t, rfl, (((((h.dropAt 4).dropAt 3).dropAt 2).dropAt 1).dropAt 0)⟩
  simp only [Bool.or_eq_false_iff, decide_eq_false_iff_not, beq_eq_false_iff_ne] at hb2
  rw [if_neg (show ¬ (sg = 14 ∨ sg = 13 ∨ x.Id = 1) by omega)]
  have hsim := hv.turn hx hz ho.grp ho.usr (ho.alive hz) hl1 ho.mask ho.ign ho.cau ho.apart
  have hv1 := hv.sim hsim
  have h := h.drew
  refine ⟨t, h.cell 4 rfl rfl, _, h.cell 1 rfl rfl, _, h.cell 0 rfl rfl, _, h.cell 0 rfl rfl, _, h.cell 0 rfl rfl, ?_⟩
  rw [w64 (n := 128 + (sg : Int)) (by omega) (by omega)]
  refine (s127 (status := 128 + (sg : Int)) (h.front (n := 5) rfl) hv1 (x := ⟨x.Id, x.Parent, x.Group, x.User, x.State, x.Status, lessS x.Pending sg, x.Mask, x.Ignored, x.Caught⟩) (List.getElem?_set_self hil) (fun e => hb2.2 e) ⟨by omega, by omega⟩).mono ?_
  rintro _ w113 ⟨t2, rfl, h⟩
  refine ⟨t2, rfl, ⟨_, h.cell 1 rfl rfl, _, h.cell 1 rfl rfl, _, h.cell 1 rfl rfl, rfl⟩, ?_⟩
  refine h.setV 4 rfl rfl (fun w118 h n118 => ⟨?_, ?_⟩)
  · exact ⟨_, h.cell 1 rfl rfl, _, h.cell 1 rfl rfl, _, h.cell 1 rfl rfl, rfl⟩
  refine h.put 3 rfl rfl rfl (fun w122 h n122 => ?_)
  refine ⟨t2, h.cell 4 rfl rfl, _, h.cell 3 rfl rfl, _, h.cell 3 rfl rfl, _, h.cell 3 rfl rfl, ?_⟩
  exact ⟨t2, rfl, (((((h.dropAt 5).dropAt 4).dropAt 3).dropAt 2).dropAt 1)⟩
end Go.Proofs.Yteigefjiifihpaa

/- Processes, the reference's side: one operation. Conditions: none. -/
set_option linter.unusedVariables false
set_option linter.unusedSimpArgs false
namespace Go.Proofs.Yteigefjiifihpaa
open Go Go.Den
theorem stepP_bad {l : List DProc} {k id to_ n : Int} (h : k < 1 ∨ k > 9) : stepP l k id to_ n = (l, 1, 0, 0) := by unfold stepP; rw [if_pos h]
theorem stepP_none {l : List DProc} (hv : PInv l) {k id to_ n : Int} (h : ¬ (k < 1 ∨ k > 9)) (hi : ixP l id = -1) : stepP l k id to_ n = (l, 3, 0, 0) := by
  unfold stepP
  rw [if_neg h, hi]
  split
  · rfl
  · rw [if_pos (by omega)]
theorem stepP_some {l : List DProc} {k id to_ n : Int} (h : ¬ (k < 1 ∨ k > 9)) {i : Nat} {x : DProc} (hi : ixP l id = (i : Int)) (hx : l[i]? = some x) : stepP l k id to_ n = if x.State = 3 then (l, 21, 0, 0) else prR l i x k id to_ n := by
  unfold stepP
  rw [if_neg h, hi, Int.toNat_natCast, hx]
  dsimp only
  rw [if_neg (by omega)]
theorem s91 {w0 w : World} {F : List Asr} {t : Sl} {l : List DProc} {k id to_ n : Int} (h : SH w0 w (RP t l :: F)) (hv : PInv l) :
    CallW Try.prog 91 #[pAgg t, .agg #[.int .i64 k, .int .i64 id, .int .i64 to_, .int .i64 n]] w (KPR w0 F (stepP l k id to_ n)) := by
  refine go91 ?_
  unfold W91
  have hlen := hv.len
  have htl := h.len 0 rfl
  rw [recs_len] at htl
  refine h.alloc (fun w1 h e1 n1 => ?_)
  refine h.alloc (fun w2 h e2 n2 => ?_)
  refine h.alloc (fun w3 h e3 n3 => ?_)
  refine h.alloc (fun w4 h e4 n4 => ?_)
  refine ⟨_, h.cell 2 rfl rfl, ?_⟩
  refine join_or_ex _ (h.cell 2 rfl rfl) ?_
  refine BIf.of (fun hb => ?_) (fun hb => ?_)
  · simp only [Bool.or_eq_true, decide_eq_true_eq] at hb
    rw [stepP_bad hb]
    exact retQ h 3 1 0 rfl rfl rfl rfl (by simp) (fun w2 h => ⟨t, rfl, ((((h.dropAt 3).dropAt 2).dropAt 1).dropAt 0)⟩)
  simp only [Bool.or_eq_false_iff, decide_eq_false_iff_not] at hb
  have hb : ¬ (k < 1 ∨ k > 9) := by omega
  refine ⟨t, h.cell 3 rfl rfl, _, h.cell 2 rfl rfl, (c102 (qatOf h 4 rfl (by omega))).mono ?_⟩
  rintro _ w19 ⟨rfl, e19⟩
  have h := h.to e19
  refine ⟨_, rfl, ?_⟩
  rcases ixP_find l id with ⟨g1, g2⟩ | ⟨i, x, g1, g2, g3⟩
  · rw [g1, stepP_none hv hb g1]
    refine BIf.t rfl ?_
    exact retQ h 3 1 0 rfl rfl rfl rfl (by simp) (fun w2 h => ⟨t, rfl, ((((h.dropAt 3).dropAt 2).dropAt 1).dropAt 0)⟩)
  have hil := (List.getElem?_eq_some_iff.1 g2).1
  have hxid := (prOf_some g3).2
  have ho := hv.ok x (List.mem_of_getElem? g2)
  obtain ⟨q, hqa⟩ := h.rowQ 4 rfl g2
  rw [g1, stepP_some hb g1 g2]
  simp only [Int.toNat_natCast]
  refine BIf.f (decide_eq_false (by omega)) ⟨t, h.cell 3 rfl rfl, by omega, by omega, q, hqa, _, h.rdR 4 rfl hqa g2 rfl, ?_⟩
  refine BIf.eq (fun hz => ?_) (fun hz => ?_)
  · rw [if_pos hz]
    exact retQ h 3 1 0 rfl rfl rfl rfl (by simp) (fun w2 h => ⟨t, rfl, ((((h.dropAt 3).dropAt 2).dropAt 1).dropAt 0)⟩)
  rw [if_neg hz]
  unfold prR
  refine ⟨_, h.cell 2 rfl rfl, BIf.eq (fun hk => ?_) (fun hk1 => ?_)⟩
  · rw [if_pos hk]
    refine ⟨t, h.cell 3 rfl rfl, (s126 (h.front (n := 4) rfl) hv g2 hz).mono ?_⟩
    rintro _ w41 ⟨t2, rfl, h⟩
    refine ⟨t2, _, _, _, rfl, ?_⟩
    exact retP h 2 1 rfl rfl rfl (by simp) (fun w2 h => ⟨t2, rfl, ((((h.dropAt 4).dropAt 3).dropAt 2).dropAt 1)⟩)
  rw [if_neg hk1]
  refine BIf.eq (fun hk => ?_) (fun hk2 => ?_)
  · rw [if_pos hk]
    refine ⟨_, h.cell 2 rfl rfl, ?_⟩
    refine join_or_ex _ (h.cell 2 rfl rfl) ?_
    refine BIf.of (fun hb => ?_) (fun hb => ?_)
    · simp only [Bool.or_eq_true, decide_eq_true_eq] at hb
      rw [if_pos hb]
      exact retQ h 3 1 0 rfl rfl rfl rfl (by simp) (fun w2 h => ⟨t, rfl, ((((h.dropAt 3).dropAt 2).dropAt 1).dropAt 0)⟩)
    simp only [Bool.or_eq_false_iff, decide_eq_false_iff_not] at hb
    rw [if_neg (show ¬ (n < 0 ∨ n > 255) by omega)]
    refine ⟨_, h.cell 2 rfl rfl, BIf.eq (fun h1 => ?_) (fun h1 => ?_)⟩
    · rw [if_pos h1]
      exact retQ h 3 1 0 rfl rfl rfl rfl (by simp) (fun w2 h => ⟨t, rfl, ((((h.dropAt 3).dropAt 2).dropAt 1).dropAt 0)⟩)
    rw [if_neg h1]
    refine ⟨t, h.cell 3 rfl rfl, _, h.cell 2 rfl rfl, _, h.cell 2 rfl rfl, ?_⟩
    rw [← hxid]
    refine (s127 (status := n) (h.front (n := 4) rfl) hv g2 (by omega) (by omega)).mono ?_
    rintro _ w75 ⟨t2, rfl, h⟩
    refine ⟨t2, rfl, ?_⟩
    exact retP h 2 1 rfl rfl rfl (by simp) (fun w2 h => ⟨t2, rfl, ((((h.dropAt 4).dropAt 3).dropAt 2).dropAt 1)⟩)
  rw [if_neg hk2]
  refine BIf.eq (fun hk => ?_) (fun hk3 => ?_)
  · rw [if_pos hk]
    refine ⟨t, h.cell 3 rfl rfl, _, h.cell 2 rfl rfl, (s128 (h.front (n := 4) rfl) hv g2).mono ?_⟩
    rintro _ w87 ⟨t2, rfl, h⟩
    refine ⟨t2, _, _, _, rfl, ?_⟩
    exact retP h 2 1 rfl rfl rfl (by simp) (fun w2 h => ⟨t2, rfl, ((((h.dropAt 4).dropAt 3).dropAt 2).dropAt 1)⟩)
  rw [if_neg hk3]
  refine BIf.eq (fun hk => ?_) (fun hk4 => ?_)
  · rw [if_pos hk]
    refine ⟨t, h.cell 3 rfl rfl, _, h.cell 2 rfl rfl, _, h.cell 2 rfl rfl, _, h.cell 2 rfl rfl, _, h.cell 2 rfl rfl, (s129 (h.front (n := 4) rfl) hv g2).mono ?_⟩
    rintro _ w104 ⟨t2, rfl, h⟩
    refine ⟨t2, _, _, _, rfl, ?_⟩
    exact retP h 2 1 rfl rfl rfl (by simp) (fun w2 h => ⟨t2, rfl, ((((h.dropAt 4).dropAt 3).dropAt 2).dropAt 1)⟩)
  rw [if_neg hk4]
  refine BIf.eq (fun hk => ?_) (fun hk5 => ?_)
  · rw [if_pos hk]
    unfold maskR
    refine ⟨_, h.cell 2 rfl rfl, c130.mono ?_⟩
    rintro _ w117 ⟨rfl, rfl⟩
    refine ⟨_, rfl, BIf.not (BIf.dec (fun hvs => ?_) (fun hvs => ?_))⟩
    · rw [if_pos hvs]
      have v0 := VS.small hvs
      have v1 := VS.small (VS.less hvs (i := 9) (by omega))
      refine ⟨t, h.cell 3 rfl rfl, by omega, by omega, q, hqa, _, h.rdR 4 rfl hqa g2 rfl, ?_⟩
      refine h.alloc (fun w129 h e129 n129 => ?_)
      refine h.put 0 rfl rfl rfl (fun w130 h n130 => ?_)
      have h := h.drew
      refine ⟨t, h.cell 4 rfl rfl, _, h.cell 3 rfl rfl, (c131 (n := 9) v0.1 v0.2 (by omega)).mono ?_⟩
      rintro _ w134 ⟨rfl, rfl⟩
      refine ⟨_, rfl, ⟨t, h.cell 4 rfl rfl, rfl⟩, (c131 (n := 12) v1.1 v1.2 (by omega)).mono ?_⟩
      rintro _ w138 ⟨rfl, rfl⟩
      refine ⟨_, rfl, ⟨t, h.cell 4 rfl rfl, rfl⟩, by omega, by omega, q, hqa, ?_⟩
      rw [set_at g2] at h
      refine h.setR 5 (⟨x.Id, x.Parent, x.Group, x.User, x.State, x.Status, x.Pending, lessS (lessS to_ 9) 12, x.Ignored, x.Caught⟩ : DProc) rfl hqa hil (by show 7 < 10; omega) rfl (fun w142 h n142 => ?_)
      have h := h.drew
      refine ⟨t, h.cell 4 rfl rfl, _, h.cell 0 rfl rfl, _, h.cell 0 rfl rfl, _, h.cell 0 rfl rfl, ?_⟩
      refine h.setV 2 rfl rfl (fun w147 h n147 => ⟨?_, ?_⟩)
      · exact ⟨_, h.cell 0 rfl rfl, _, h.cell 0 rfl rfl, _, h.cell 0 rfl rfl, rfl⟩
      refine h.put 1 rfl rfl rfl (fun w151 h n151 => ?_)
      refine ⟨t, h.cell 2 rfl rfl, _, h.cell 1 rfl rfl, _, h.cell 1 rfl rfl, _, h.cell 1 rfl rfl, ?_⟩
      exact ⟨t, rfl, (((((h.dropAt 4).dropAt 3).dropAt 2).dropAt 1).dropAt 0)⟩
    · rw [if_neg hvs]
      exact retQ h 3 1 0 rfl rfl rfl rfl (by simp) (fun w2 h => ⟨t, rfl, ((((h.dropAt 3).dropAt 2).dropAt 1).dropAt 0)⟩)
  rw [if_neg hk5]
  refine BIf.eq (fun hk => ?_) (fun hk6 => ?_)
  · rw [if_pos hk]
    refine ⟨t, h.cell 3 rfl rfl, _, h.cell 2 rfl rfl, _, h.cell 2 rfl rfl, _, h.cell 2 rfl rfl, _, h.cell 2 rfl rfl, (s132 (h.front (n := 4) rfl) hv g2).mono ?_⟩
    rintro _ w162 ⟨t2, rfl, h⟩
    refine ⟨t2, _, _, _, rfl, ?_⟩
    exact retP h 2 1 rfl rfl rfl (by simp) (fun w2 h => ⟨t2, rfl, ((((h.dropAt 4).dropAt 3).dropAt 2).dropAt 1)⟩)
  rw [if_neg hk6]
  refine BIf.eq (fun hk => ?_) (fun hk7 => ?_)
  · rw [if_pos hk]
    refine ⟨t, h.cell 3 rfl rfl, (s133 (h.front (n := 4) rfl) hv g2 hz).mono ?_⟩
    rintro _ w175 ⟨t2, rfl, h⟩
    refine ⟨t2, _, _, _, rfl, ?_⟩
    exact retP h 2 1 rfl rfl rfl (by simp) (fun w2 h => ⟨t2, rfl, ((((h.dropAt 4).dropAt 3).dropAt 2).dropAt 1)⟩)
  rw [if_neg hk7]
  refine BIf.eq (fun hk => ?_) (fun hk8 => ?_)
  · rw [if_pos hk]
    refine ⟨t, h.cell 3 rfl rfl, _, h.cell 2 rfl rfl, _, h.cell 2 rfl rfl, _, h.cell 2 rfl rfl, _, h.cell 2 rfl rfl, (s134 (h.front (n := 4) rfl) hv).mono ?_⟩
    rintro _ w192 ⟨t2, rfl, h⟩
    refine ⟨t2, _, _, _, rfl, ?_⟩
    exact retP h 2 1 rfl rfl rfl (by simp) (fun w2 h => ⟨t2, rfl, ((((h.dropAt 4).dropAt 3).dropAt 2).dropAt 1)⟩)
  rw [if_neg hk8]
  unfold usrR
  refine ⟨_, h.cell 2 rfl rfl, ?_⟩
  refine join_or_ex _ (h.cell 2 rfl rfl) ?_
  refine BIf.of (fun hb => ?_) (fun hb => ?_)
  · simp only [Bool.or_eq_true, decide_eq_true_eq] at hb
    rw [if_pos hb]
    exact retQ h 3 1 0 rfl rfl rfl rfl (by simp) (fun w2 h => ⟨t, rfl, ((((h.dropAt 3).dropAt 2).dropAt 1).dropAt 0)⟩)
  simp only [Bool.or_eq_false_iff, decide_eq_false_iff_not] at hb
  rw [if_neg (show ¬ (n < 0 ∨ n > 255) by omega)]
  have h := h.drew
  refine JoinW.cut1 (fun (c : Bool) w' => c = decide (x.User ≠ 0 ∧ x.User ≠ n) ∧ w' = w19.drew) ?_ ?_
  · refine ⟨t, h.cell 3 rfl rfl, by omega, by omega, q, hqa, _, h.rdR 4 rfl hqa g2 rfl, BIf.ne (fun hu => ⟨t, h.cell 3 rfl rfl, by omega, by omega, q, hqa, _, h.rdR 4 rfl hqa g2 rfl, _, h.cell 2 rfl rfl, ?_, rfl⟩) (fun hu => ⟨(decide_eq_false (fun hh => hh.1 hu)).symm, rfl⟩)⟩
    by_cases hn : x.User = n
    · rw [decide_eq_false (fun hh => hh.2 hn)]; simpa using hn
    · rw [decide_eq_true ⟨hu, hn⟩]; simpa using hn
  rintro (c : Bool) w216 ⟨rfl, rfl⟩
  refine BIf.dec (fun hc => ?_) (fun hc => ?_)
  · rw [if_pos hc]
    exact retQ h 3 1 0 rfl rfl rfl rfl (by simp) (fun w2 h => ⟨t, rfl, ((((h.dropAt 3).dropAt 2).dropAt 1).dropAt 0)⟩)
  rw [if_neg hc]
  refine ⟨t, h.cell 3 rfl rfl, _, h.cell 2 rfl rfl, by omega, by omega, q, hqa, ?_⟩
  rw [set_at g2] at h
  refine h.setR 4 (⟨x.Id, x.Parent, x.Group, n, x.State, x.Status, x.Pending, x.Mask, x.Ignored, x.Caught⟩ : DProc) rfl hqa hil (by show 3 < 10; omega) rfl (fun w227 h n227 => ?_)
  exact retQ h 3 1 0 rfl rfl rfl rfl (by simp) (fun w2 h => ⟨t, rfl, ((((h.dropAt 3).dropAt 2).dropAt 1).dropAt 0)⟩)
end Go.Proofs.Yteigefjiifihpaa

/- Processes, the reference's side: ProcStep, ProcRun. Conditions: none. -/
set_option linter.unusedVariables false
set_option linter.unusedSimpArgs false
namespace Go.Proofs.Yteigefjiifihpaa
open Go Go.Den
/-- Processes that are lent, laid anew. -/
theorem s94 {w0 w : World} {F : List Asr} {t : Sl} {l : List DProc} (h : SH w0 w F) (hs : QAt w t l) : CallW Try.prog 94 #[pAgg t] w (KP w0 F l) := by
  refine go94 ?_
  unfold W94
  have htl := hs.tl
  have few := hs.few
  have e0 := SH.start w
  refine (h.alloc (fun w1 h e1 n1 => ?_))
  refine h.alloc (fun w2 h e2 n2 => ?_)
  refine h.alloc (fun w3 h e3 n3 => ?_)
  have h := h.drop.nil (some ⟨w2.heap.size, 0, none⟩) 10
  refine ⟨t, h.cell 2 rfl rfl, ?_⟩
  refine SH.appendR (f := DProc.cells) (l := []) (us := l) h ((hs.ext e1).ext (Only.trans e2 e3)).tr (by omega) (fun _ => rfl) rfl rfl (by decide) (by show (_ + _) * 80 ≤ _; simp; omega) plain_pr (fun l5 w6 h hl5 _ => ?_)
  refine h.setV 1 rfl rfl (fun w7 h n7 => ?_)
  exact ⟨l5, h.cell 1 rfl rfl, l5, rfl, ((h.dropAt 2).dropAt 1)⟩
open Classical in
noncomputable def pstepR (l : List DProc) (k id to_ n : Int) : PRes := if PInv l then stepP l k id to_ n else ([], 0, 0, 0)
theorem s48 {w : World} {t : Sl} {l : List DProc} {k id to_ n : Int} (hs : QAt w t l) :
    CallW Try.prog 48 #[pAgg t, .agg #[.int .i64 k, .int .i64 id, .int .i64 to_, .int .i64 n]] w (KPR w [] (pstepR l k id to_ n)) := by
  refine go48 ?_
  unfold W48
  have h := SH.start w
  refine h.alloc (fun w1 h e1 n1 => ?_)
  refine h.alloc (fun w2 h e2 n2 => ?_)
  refine h.alloc (fun w3 h e3 n3 => ?_)
  refine h.alloc (fun w4 h e4 n4 => ?_)
  refine ⟨t, h.cell 3 rfl rfl, (c57 (hs.ext h.ext)).mono ?_⟩
  rintro _ w7 ⟨b, rfl, hiff, e7⟩
  have h := h.to e7
  refine ⟨_, rfl, BIf.of (fun hn => ?_) (fun hy => ?_)⟩
  · have hno : ¬ PInv l := fun hh => by rw [hiff.2 hh] at hn; cases hn
    refine retP (t := ⟨none, 0, 0⟩) h 1 0 rfl rfl rfl (by simp) (fun w2 h => ?_)
    unfold pstepR
    rw [if_neg hno]
    exact ⟨⟨none, 0, 0⟩, rfl, SH.nil (SH.start w |>.to h.ext) none 10⟩
  · have hv : PInv l := hiff.1 (by simpa using hy)
    have h := h.drew
    refine ⟨t, h.cell 3 rfl rfl, _, h.cell 2 rfl rfl, _, h.cell 2 rfl rfl, _, h.cell 2 rfl rfl, _, h.cell 2 rfl rfl, (s94 h (hs.ext h.ext)).mono ?_⟩
    rintro _ w21 ⟨t2, rfl, h⟩
    refine ⟨t2, rfl, ⟨_, h.cell 3 rfl rfl, _, h.cell 3 rfl rfl, _, h.cell 3 rfl rfl, _, h.cell 3 rfl rfl, rfl⟩, (s91 h hv).mono ?_⟩
    rintro _ w28 ⟨t3, rfl, h⟩
    refine ⟨t3, _, _, _, rfl, ?_⟩
    refine retP h 2 1 rfl rfl rfl (by simp) (fun w2 h => ?_)
    unfold pstepR
    rw [if_pos hv]
    exact ⟨t3, rfl, ((((h.dropAt 4).dropAt 3).dropAt 2).dropAt 1)⟩
/-! ## ProcRun -/
def proc1 : DProc := ⟨1, 0, 1, 0, 1, 0, 0, 0, 0, 0⟩
theorem new_inv : PInv [proc1] := by
  refine ⟨List.pairwise_singleton _ _, fun x hx => ?_, ⟨proc1, rfl, rfl, rfl, by decide⟩, fun x hx h1 => ?_, ⟨fun _ => 0, fun x hx h1 => ?_⟩⟩
  · obtain rfl := List.mem_singleton.1 hx
    exact ⟨by decide, by decide, by decide, by decide, by decide, fun _ => rfl, ss_zero.1, ss_zero, ss_zero, ss_zero, fun i _ => has_zero i, fun _ => ⟨rfl, rfl, rfl, rfl⟩⟩
  · obtain rfl := List.mem_singleton.1 hx
    exact absurd rfl h1
  · obtain rfl := List.mem_singleton.1 hx
    exact absurd rfl h1
theorem s90 {w0 w : World} {F : List Asr} (h : SH w0 w F) : CallW Try.prog 90 #[] w (KP w0 F [proc1]) := by
  refine go90 ?_
  unfold W90
  refine h.alloc (fun w1 h e1 n1 => ?_)
  refine h.alloc (fun w2 h e2 n2 => ?_)
  have h : SH w0 w2 (RP ⟨some ⟨w1.heap.size, 0, none⟩, 1, 1⟩ [proc1] :: aB w.heap.size (ZT.map Ce.v) :: F) := h.toRow (ys := [proc1.cells]) (n := 1) (z := 10) rfl rfl (fun u hu => by obtain rfl := List.mem_singleton.1 hu; rfl)
  refine h.setV 1 rfl rfl (fun w3 h n3 => ?_)
  exact ⟨⟨some ⟨w1.heap.size, 0, none⟩, 1, 1⟩, h.cell 1 rfl rfl, ⟨some ⟨w1.heap.size, 0, none⟩, 1, 1⟩, rfl, (h.dropAt 1)⟩
end Go.Proofs.Yteigefjiifihpaa

/- Processes, the program's side: at, the check. Conditions: none. -/
set_option linter.unusedVariables false
set_option linter.unusedSimpArgs false
namespace Go.Proofs.Yteigefjiifihpaa
open Go Go.Den
theorem c104 {s : Addr} {t : Sl} {l : List DProc} {id : Int} {w : World} (hs : w.cell? (s.add 0) = some (.slice t.a t.len t.cap)) (h : QAt w t l) : CallW Try.prog 104 #[.pointer (some s), .int .i64 id] w (fun v w' => v = .pointer (ptrAt t.a 10 (ixP l id)) ∧ w' = w) := by
  refine go104 ?_
  unfold W104
  have hfew := h.few
  have htl := h.tl
  refine ⟨s, rfl, t, hs, ?_⟩
  refine LoopW.m1 (fun (i : Int) w' => 0 ≤ i ∧ i ≤ t.len ∧ idxFrom (fun x : DProc => x.Id == id) (l.drop i.toNat) i.toNat = ixP l id ∧ w' = w) (fun (i : Int) _ => (t.len - i).toNat) ⟨by omega, by omega, rfl, rfl⟩ ?_
  rintro (i : Int) w ⟨hi0, hi1, hr, rfl⟩ J hJ
  obtain ⟨k, rfl⟩ := Int.eq_ofNat_of_zero_le hi0
  rw [Int.toNat_natCast] at hr ⊢
  refine BIf.dec (fun hlt => ?_) (fun hge => ?_)
  · have hk : k < l.length := by omega
    have hget : l[k]? = some l[k] := List.getElem?_eq_getElem hk
    obtain ⟨p, hp, hc⟩ := h.pr hget
    rw [idxFrom_step _ _ _ hk] at hr
    refine ⟨s, rfl, t, hs, hi0, hlt, p, hp, _, hc 0 _ rfl, BIf.eq (fun e => ?_) (fun e => ?_)⟩
    · rw [if_pos (by simpa using e)] at hr
      refine ⟨s, rfl, t, hs, hi0, hlt, p, hp, ?_, rfl⟩
      unfold ptrAt
      rw [← hr, if_neg (by omega), hp, Int.toNat_natCast]; rfl
    · rw [if_neg (by simpa using e)] at hr
      rw [w64 (by omega) (by omega)]
      exact hJ _ _ ⟨by omega, by omega, hr, rfl⟩ (by omega)
  · rw [idxFrom_end _ _ _ (by omega)] at hr
    refine ⟨?_, rfl⟩
    unfold ptrAt
    rw [← hr]; rfl
theorem c136 {n : Int} {w : World} : CallW Try.prog 136 #[.int .i64 n] w (fun v w' => v = .agg #[.int .i64 n, .int .i64 0, .int .i64 0] ∧ Ext w w') := by
  refine go136 ?_
  unfold W136
  have h := SH.start w
  refine h.alloc (fun w1 h e1 n1 => ?_)
  refine h.put 0 rfl rfl rfl (fun w2 h n2 => ?_)
  exact ⟨_, h.cell 0 rfl rfl, _, h.cell 0 rfl rfl, _, h.cell 0 rfl rfl, rfl, h.ext⟩
theorem c137 {y me : DProc} {to_ : Int} {c0 c1 px : Addr} {w : World} (h0 : w.cell? (c0.add 2) = some (.int .i64 to_)) (h1 : w.cell? c1 = some (.pointer (some px))) (h2 : w.cell? (px.add 2) = some (.int .i64 me.Group)) :
    CallW Try.prog 137 #[.agg ⟨y.cells⟩, .pointer (some c0), .pointer (some c1)] w (fun v w' => v = .bool (meant me to_ y) ∧ Ext w w') := by
  refine go137 ?_
  unfold W137
  have h := SH.start w
  refine h.alloc (fun w1 h e1 n1 => ?_)
  unfold meant
  refine ⟨_, e1.cell h0, BIf.dec (fun hp => ?_) (fun hp => ?_)⟩
  · rw [if_pos hp]
    exact ⟨_, h.cell 0 rfl rfl, _, e1.cell h0, rfl, e1⟩
  rw [if_neg hp]
  refine ⟨_, e1.cell h0, BIf.eq (fun hz => ?_) (fun hz => ?_)⟩
  · rw [if_pos hz]
    have h := h.drew
    have e2 := h.ext
    exact ⟨_, h.cell 0 rfl rfl, _, e2.cell h1, px, rfl, _, e2.cell h2, rfl, e2⟩
  rw [if_neg hz]
  refine ⟨_, e1.cell h0, BIf.eq (fun hm => ?_) (fun hm => ?_)⟩
  · rw [if_pos hm]
    exact ⟨rfl, e1⟩
  rw [if_neg hm]
  exact ⟨_, h.cell 0 rfl rfl, _, e1.cell h0, rfl, e1⟩
/-! ## Sets of signals, bit by bit -/
abbrev inR (s : Int) : Prop := -9223372036854775808 ≤ s ∧ s ≤ 9223372036854775807
structure Rng (x : DProc) : Prop where
  p : inR x.Pending
  m : inR x.Mask
  i : inR x.Ignored
  c : inR x.Caught
theorem PrOk.rng {x : DProc} (h : PrOk x) : Rng x := by
  have h1 := VS.small h.pend
  have h2 := VS.small h.mask.1
  have h3 := VS.small h.ign.1
  have h4 := VS.small h.cau.1
  exact ⟨⟨by omega, by omega⟩, ⟨by omega, by omega⟩, ⟨by omega, by omega⟩, ⟨by omega, by omega⟩⟩
theorem and_apart {a b : Int} (ha : VS a) (hb : VS b) : andI .i64 a b = 0 ↔ ∀ i, hasS a i = true → hasS b i = false := by
  obtain ⟨n, rfl⟩ := Int.eq_ofNat_of_zero_le ha.1
  obtain ⟨m, rfl⟩ := Int.eq_ofNat_of_zero_le hb.1
  have h1 := ha.2.1
  have h2 := hb.2.1
  rw [andI_nat (by omega) (by omega)]
  unfold hasS
  simp only [Int.toNat_natCast]
  constructor
  · intro h i hi
    have h0 : n &&& m = 0 := by omega
    have := congrArg (Nat.testBit · i) h0
    simp only [Nat.testBit_and, Nat.zero_testBit, hi, Bool.true_and] at this
    exact this
  · intro h
    have : n &&& m = 0 := Nat.eq_of_testBit_eq (fun i => by
      rw [Nat.testBit_and, Nat.zero_testBit]
      rcases hh : n.testBit i with _ | _
      · rfl
      · rw [h i hh]; rfl)
    omega
theorem or_zero {a b c d : Int} (ha : VS a) (hb : VS b) (hc : VS c) (hd : VS d) : orI .i64 (orI .i64 (orI .i64 a b) c) d = 0 ↔ a = 0 ∧ b = 0 ∧ c = 0 ∧ d = 0 := by
  obtain ⟨n, rfl⟩ := Int.eq_ofNat_of_zero_le ha.1
  obtain ⟨m, rfl⟩ := Int.eq_ofNat_of_zero_le hb.1
  obtain ⟨k, rfl⟩ := Int.eq_ofNat_of_zero_le hc.1
  obtain ⟨j, rfl⟩ := Int.eq_ofNat_of_zero_le hd.1
  have h1 := ha.2.1
  have h2 := hb.2.1
  have h3 := hc.2.1
  have h4 := hd.2.1
  have b1 : n ||| m < 9223372036854775808 := or_lt63 (by omega) (by omega)
  have b2 : n ||| m ||| k < 9223372036854775808 := or_lt63 b1 (by omega)
  rw [orI_nat (by omega) (by omega), orI_nat b1 (by omega), orI_nat b2 (by omega)]
  have : (n ||| m ||| k ||| j = 0) ↔ n = 0 ∧ m = 0 ∧ k = 0 ∧ j = 0 := by
    rw [Nat.or_eq_zero_iff, Nat.or_eq_zero_iff, Nat.or_eq_zero_iff]
    constructor
    · rintro ⟨⟨⟨h1, h2⟩, h3⟩, h4⟩; exact ⟨h1, h2, h3, h4⟩
    · rintro ⟨h1, h2, h3, h4⟩; exact ⟨⟨⟨h1, h2⟩, h3⟩, h4⟩
  omega
theorem c59 {t : Sl} {l : List DProc} {w : World} (h : QAt w t l) (hrng : ∀ x, x ∈ l → Rng x) : CallW Try.prog 59 #[.agg #[.slice t.a t.len t.cap]] w (KPr l w) := by
  refine go59 ?_
  unfold W59
  have htl := h.tl
  have hfew := h.few
  have hs := SH.start w
  refine hs.alloc (fun w1 hs e1 n1 => ?_)
  have h1 := h.ext hs.ext
  refine ⟨t, hs.cell 0 rfl rfl, ?_⟩
  refine join_or_ex t (hs.cell 0 rfl rfl) ?_
  refine BIf.of (fun hb => KPr.no (fun hh => ?_) hs.ext) (fun hb => ?_)
  · have := hh.len
    simp only [Bool.or_eq_true, decide_eq_true_eq] at hb
    omega
  simp only [Bool.or_eq_false_iff, decide_eq_false_iff_not] at hb
  refine ⟨t, hs.cell 0 rfl rfl, ?_⟩
  refine LoopW.m2 (fun (last i : Int) w' => ∃ m : Nat, i = m ∧ m ≤ l.length ∧ (m = 0 → last = 0) ∧ (∀ z, 0 < m → l[m - 1]? = some z → last = z.Id) ∧ (∀ (j : Nat) x, j < m → l[j]? = some x → OneP l j x ∧ (0 < j → livesP l x.Parent = true) ∧ (j = 0 → x.Id = 1 ∧ x.Parent = 0 ∧ x.State ≠ 3)) ∧ SH w w' [BS w.heap.size t]) (fun _ (i : Int) _ => (l.length - i).toNat) ⟨0, rfl, by omega, fun _ => rfl, (fun z hz => absurd hz (Nat.lt_irrefl _)), (fun j x hj => absurd hj (Nat.not_lt_zero _)), hs⟩ ?_
  clear hs
  rintro (last : Int) (i : Int) w10 ⟨m, rfl, hm, hl0, hlz, hall, hs⟩ J hJ
  refine BIf.dec (fun hlt => ?_) (fun hge => ?_)
  · have hget : l[m]? = some l[m] := List.getElem?_eq_getElem (by omega)
    have hxr := hrng _ (List.mem_of_getElem? hget)
    generalize l[m] = x at *
    obtain ⟨q, hq, hc⟩ := (h.ext hs.ext).pr hget
    simp only [Int.toNat_natCast]
    rw [w64 (n := (m : Int) + 1) (by omega) (by omega)]
    refine ⟨by omega, hlt, q, hq, _, hc 0 _ rfl, _, hc 1 _ rfl, _, hc 2 _ rfl, _, hc 3 _ rfl, _, hc 4 _ rfl, _, hc 5 _ rfl, _, hc 6 _ rfl, _, hc 7 _ rfl, _, hc 8 _ rfl, _, hc 9 _ rfl, ?_⟩
    refine hs.alloc (fun w22 hs e22 n22 => ?_)
    refine hs.put 0 rfl rfl rfl (fun w23 hs n23 => ?_)
    have h := h.ext hs.ext
    have hlast : last < x.Id ↔ (1 ≤ x.Id ∧ ∀ z, 0 < m → l[m - 1]? = some z → z.Id < x.Id) := by
      rcases Nat.eq_zero_or_pos m with rfl | hp
      · rw [hl0 rfl]
        exact ⟨fun hh => ⟨by omega, fun z hz => absurd hz (Nat.lt_irrefl _)⟩, fun hh => by omega⟩
      · have hgz : l[m - 1]? = some l[m - 1] := List.getElem?_eq_getElem (by omega)
        have h1 := (hall (m - 1) _ (by omega) hgz).1.1.id
        have h2 := hlz _ hp hgz
        constructor
        · intro hh
          exact ⟨by omega, fun z _ hz => by rw [hgz] at hz; cases hz; omega⟩
        · rintro ⟨_, hh⟩
          have := hh _ hp hgz
          omega
    refine ⟨_, hs.cell 0 rfl rfl, ?_⟩
    refine join_or_ex _ (hs.cell 0 rfl rfl) ?_
    refine join_or_ex _ (hs.cell 0 rfl rfl) ?_
    refine join_or_ex _ (hs.cell 0 rfl rfl) ?_
    refine join_or_ex _ (hs.cell 0 rfl rfl) ?_
    refine join_or_ex _ (hs.cell 0 rfl rfl) ?_
    refine join_or_ex _ (hs.cell 0 rfl rfl) ?_
    refine join_or_ex _ (hs.cell 0 rfl rfl) ?_
    refine join_or_ex _ (hs.cell 0 rfl rfl) ?_
    refine join_or_ex _ (hs.cell 0 rfl rfl) ?_
    refine JoinW.cut1 (fun (b : Bool) w' => (b = true ↔ ¬ (Num1 l m x ∧ Num2 x)) ∧ w' = w23) ?_ ?_
    · refine BIf.of (fun hbt => ⟨iff_of_true rfl (fun hh => ?_), rfl⟩) (fun hbf => ⟨_, hs.cell 0 rfl rfl, BIf.ne (fun hz => ⟨_, hs.cell 0 rfl rfl, ?_, rfl⟩) (fun hz => ⟨?_, rfl⟩)⟩)
      · obtain ⟨⟨g1, g2, g3, g4, g5, g6⟩, g7, g8, g9⟩ := hh
        have := hlast.2 ⟨g1, g3⟩
        simp only [Bool.or_eq_true, decide_eq_true_eq] at hbt
        omega
      · simp only [Bool.or_eq_false_iff, decide_eq_false_iff_not] at hbf
        have := hlast.1 (by omega)
        rw [bne_iff_ne]
        exact ⟨fun hh h => hh (h.2.2.2 hz), fun hh h0 => hh ⟨⟨this.1, by omega, this.2, by omega, by omega, by omega⟩, by omega, by omega, fun _ => h0⟩⟩
      · simp only [Bool.or_eq_false_iff, decide_eq_false_iff_not] at hbf
        have := hlast.1 (by omega)
        exact ⟨(fun hh => nomatch hh), fun hh => absurd ⟨⟨this.1, by omega, this.2, by omega, by omega, by omega⟩, by omega, by omega, fun e => absurd hz e⟩ hh⟩
    rintro (b : Bool) w54 ⟨hb1, rfl⟩
    refine BIf.of (fun hbt => KPr.no (fun hh => hb1.1 hbt ⟨(hh.one m x hget).num1, (hh.one m x hget).num2⟩) hs.ext) (fun hbf => ?_)
    have hn12 : Num1 l m x ∧ Num2 x := Classical.byContradiction (fun hn => by rw [hb1.2 hn] at hbf; cases hbf)
    obtain ⟨hn1, hn2⟩ := hn12
    refine ⟨_, hs.cell 0 rfl rfl, _, hs.cell 0 rfl rfl, ?_⟩
    refine JoinW.cut1 (fun (b : Bool) w' => (b = true ↔ ¬ (VS x.Pending ∧ SS x.Mask ∧ SS x.Ignored ∧ SS x.Caught)) ∧ w' = w54) ?_ ?_
    · refine BIf.ne (fun hne => ⟨iff_of_true rfl (fun hh => hne ((vs_mask hxr.p.1 hxr.p.2).2 hh.1)), rfl⟩) (fun heq => ⟨_, hs.cell 0 rfl rfl, _, hs.cell 0 rfl rfl, _, hs.cell 0 rfl rfl, ?_, rfl⟩)
      have hvp := (vs_mask hxr.p.1 hxr.p.2).1 heq
      rw [bne_iff_ne]
      exact ⟨fun hh g => hh ((ss_mask hxr.m hxr.i hxr.c).2 g.2), fun hh e => hh ⟨hvp, (ss_mask hxr.m hxr.i hxr.c).1 e⟩⟩
    rintro (b : Bool) w59 ⟨hb2, rfl⟩
    refine JoinW.cut1 (fun (b : Bool) w' => (b = true ↔ ¬ ((VS x.Pending ∧ SS x.Mask ∧ SS x.Ignored ∧ SS x.Caught) ∧ ∀ i, hasS x.Ignored i = true → hasS x.Caught i = false)) ∧ w' = w59) ?_ ?_
    · refine BIf.of (fun ht => ⟨iff_of_true rfl (fun hh => hb2.1 ht hh.1), rfl⟩) (fun hf => ⟨_, hs.cell 0 rfl rfl, _, hs.cell 0 rfl rfl, ?_, rfl⟩)
      have hv4 : VS x.Pending ∧ SS x.Mask ∧ SS x.Ignored ∧ SS x.Caught := Classical.byContradiction (fun hn => by rw [hb2.2 hn] at hf; cases hf)
      rw [bne_iff_ne, Ne, and_apart hv4.2.2.1.1 hv4.2.2.2.1]
      exact ⟨fun hh g => hh g.2, fun hh e => hh ⟨hv4, e⟩⟩
    rintro (b : Bool) w62 ⟨hb3, rfl⟩
    refine BIf.of (fun hbt => KPr.no (fun hh => hb3.1 hbt ?_) hs.ext) (fun hbf => ?_)
    · have := hh.ok x (List.mem_of_getElem? hget)
      exact ⟨⟨this.pend, this.mask, this.ign, this.cau⟩, this.apart⟩
    have hv5 : (VS x.Pending ∧ SS x.Mask ∧ SS x.Ignored ∧ SS x.Caught) ∧ ∀ i, hasS x.Ignored i = true → hasS x.Caught i = false := Classical.byContradiction (fun hn => by rw [hb3.2 hn] at hbf; cases hbf)
    obtain ⟨⟨s1, s2, s3, s4⟩, hap⟩ := hv5
    have hor := or_zero s1 s2.1 s3.1 s4.1
    refine ⟨_, hs.cell 0 rfl rfl, JoinW.cut1 (fun (b : Bool) w' => (b = true ↔ ¬ (x.State = 3 → x.Pending = 0 ∧ x.Mask = 0 ∧ x.Ignored = 0 ∧ x.Caught = 0)) ∧ w' = w62) ?_ ?_⟩
    · refine BIf.eq (fun hz => ⟨_, hs.cell 0 rfl rfl, _, hs.cell 0 rfl rfl, _, hs.cell 0 rfl rfl, _, hs.cell 0 rfl rfl, ?_, rfl⟩) (fun hz => ⟨⟨(fun hh => nomatch hh), fun hh => absurd (fun e => absurd e hz) hh⟩, rfl⟩)
      rw [bne_iff_ne, Ne, hor]
      exact ⟨fun hh g => hh (g hz), fun hh g => hh (fun _ => g)⟩
    rintro (b : Bool) w66 ⟨hb4, rfl⟩
    refine BIf.of (fun hbt => KPr.no (fun hh => hb4.1 hbt (hh.ok x (List.mem_of_getElem? hget)).zom) hs.ext) (fun hbf => ?_)
    have hzom : x.State = 3 → x.Pending = 0 ∧ x.Mask = 0 ∧ x.Ignored = 0 ∧ x.Caught = 0 := Classical.byContradiction (fun hn => by rw [hb4.2 hn] at hbf; cases hbf)
    have hone : OneP l m x := ⟨⟨⟨hn1.1, hn1.2.1⟩, hn1.2.2.2.1, hn1.2.2.2.2, hn2.1, hn2.2.1, hn2.2.2, s1, s2, s3, s4, hap, hzom⟩, hn1.2.2.1⟩
    have hnext : ∀ (P : (0 < m → livesP l x.Parent = true) ∧ (m = 0 → x.Id = 1 ∧ x.Parent = 0 ∧ x.State ≠ 3)), ∀ (j : Nat) y, j < m + 1 → l[j]? = some y → OneP l j y ∧ (0 < j → livesP l y.Parent = true) ∧ (j = 0 → y.Id = 1 ∧ y.Parent = 0 ∧ y.State ≠ 3) := fun P j y hj hy => by
      rcases Nat.lt_or_eq_of_le (Nat.le_of_lt_succ hj) with hlt | rfl
      · exact hall j y hlt hy
      · rw [hget] at hy; cases hy; exact ⟨hone, P.1, P.2⟩
    refine BIf.eq (fun hm0 => ?_) (fun hm0 => ?_)
    · obtain rfl : m = 0 := by omega
      have hhead : PInv l → x.Id = 1 ∧ x.Parent = 0 ∧ x.State ≠ 3 := fun hh => by
        obtain ⟨y, hy, g⟩ := hh.head
        rw [hget] at hy; cases hy; exact g
      refine ⟨_, hs.cell 0 rfl rfl, ?_⟩
      refine join_or_ex _ (hs.cell 0 rfl rfl) ?_
      refine join_or_ex _ (hs.cell 0 rfl rfl) ?_
      refine BIf.of (fun hbt => KPr.no (fun hh => ?_) hs.ext) (fun hbf => ?_)
      · obtain ⟨g1, g2, g3⟩ := hhead hh
        simp only [Bool.or_eq_true, bne_iff_ne, beq_iff_eq, ne_eq] at hbt
        omega
      · simp only [Bool.or_eq_false_iff, bne_eq_false_iff_eq, beq_eq_false_iff_ne, ne_eq] at hbf
        refine hJ _ _ _ ⟨1, rfl, by omega, (fun e => by omega), (fun z _ hz => ?_), hnext ⟨fun e => absurd e (Nat.lt_irrefl _), fun _ => ⟨hbf.1.1, hbf.2, hbf.1.2⟩⟩, hs.drop⟩ (by omega)
        rw [hget] at hz; cases hz; rfl
    · refine ⟨_, hs.cell 0 rfl rfl, (c104 (hs.cellP 1 rfl rfl) h).mono ?_⟩
      rintro _ w78 ⟨rfl, rfl⟩
      have hs := hs.drew
      have h := h.ext (ext_drew w78)
      refine ⟨_, rfl, JoinW.cut1 (fun (b : Bool) w' => (b = false → livesP l x.Parent = true) ∧ (PInv l → b = false) ∧ w' = w78.drew) ?_ ?_⟩
      · rcases ixP_find l x.Parent with ⟨g1, g2⟩ | ⟨j, y, g1, g2, g3⟩
        · rw [g1, ptr_none]
          refine BIf.t rfl ⟨(fun e => nomatch e), fun hh => ?_, rfl⟩
          obtain ⟨z, hz, _⟩ := livesP_iff.1 (hh.lives m x hget (by omega))
          rw [g2] at hz; cases hz
        · obtain ⟨p, hp, hcy⟩ := h.pr g2
          rw [g1, ptr_some hp]
          have hy := prOf_some g3
          refine BIf.f rfl ⟨_, rfl, _, hcy 0 _ rfl, _, hs.cell 0 rfl rfl, BIf.eq (fun he => ⟨(fun e => nomatch e), fun hh => ?_, rfl⟩) (fun he => ⟨_, rfl, _, hcy 4 _ rfl, ?_, ?_, rfl⟩)⟩
          · obtain ⟨r, hr⟩ := hh.rank
            have h1 : x.Id ≠ 1 := by have := hh.fill hget; omega
            have := hr x (List.mem_of_getElem? hget) h1
            rw [← hy.2, he] at this
            exact absurd this (Nat.lt_irrefl _)
          · intro e
            exact livesP_iff.2 ⟨y, g3, by simpa using e⟩
          · intro hh
            obtain ⟨z, hz, h3⟩ := livesP_iff.1 (hh.lives m x hget (by omega))
            rw [g3] at hz; cases hz
            simpa using h3
      · rintro (b : Bool) w82 ⟨hbl, hbi, rfl⟩
        refine BIf.of (fun hbt => KPr.no (fun hh => by rw [hbi hh] at hbt; cases hbt) hs.ext) (fun hbf => ?_)
        refine hJ _ _ _ ⟨m + 1, by omega, by omega, (fun e => by omega), (fun z _ hz => ?_), hnext ⟨fun _ => hbl hbf, fun e => by omega⟩, hs.drop⟩ (by omega)
        rw [Nat.add_sub_cancel, hget] at hz; cases hz; rfl
  · have hmm : m = l.length := by omega
    subst hmm
    have hone : ∀ (j : Nat) x, l[j]? = some x → OneP l j x ∧ (0 < j → livesP l x.Parent = true) ∧ (j = 0 → x.Id = 1 ∧ x.Parent = 0 ∧ x.State ≠ 3) := fun j x hx => hall j x (List.getElem?_eq_some_iff.1 hx).1 hx
    clear hJ J hall hlz hl0
    have hsrt : Srt DProc.Id l := srt_of (fun i y hy z h0 hz => (hone i y hy).1.2 z h0 hz)
    have hg0 : l[0]? = some l[0] := List.getElem?_eq_getElem (by omega)
    have h0head := (hone 0 _ hg0).2.2 rfl
    generalize l[0] = x0 at *
    refine ⟨t, hs.cell 0 rfl rfl, ?_⟩
    refine LoopW.m1 (fun (i : Int) w' => ∃ m : Nat, i = m ∧ m ≤ l.length ∧ (∀ (j : Nat) x, j < m → l[j]? = some x → reachP l 33 x.Id) ∧ SH w w' [BS w.heap.size t]) (fun (i : Int) _ => (l.length - i).toNat) ⟨0, rfl, by omega, (fun j x hj => absurd hj (Nat.not_lt_zero _)), hs⟩ ?_
    clear hs
    rintro (i : Int) w35 ⟨m, rfl, hm, hall, hs⟩ J hJ
    refine BIf.dec (fun hlt => ?_) (fun hge => ?_)
    · have hget : l[m]? = some l[m] := List.getElem?_eq_getElem (by omega)
      generalize l[m] = x at *
      obtain ⟨q, hq, hc⟩ := (h.ext hs.ext).pr hget
      simp only [Int.toNat_natCast]
      rw [w64 (n := (m : Int) + 1) (by omega) (by omega)]
      refine ⟨by omega, hlt, q, hq, _, hc 0 _ rfl, _, hc 1 _ rfl, _, hc 2 _ rfl, _, hc 3 _ rfl, _, hc 4 _ rfl, _, hc 5 _ rfl, _, hc 6 _ rfl, _, hc 7 _ rfl, _, hc 8 _ rfl, _, hc 9 _ rfl, ?_⟩
      refine hs.alloc (fun w123 hs e123 n123 => ?_)
      refine hs.put 0 rfl rfl rfl (fun w124 hs n124 => ?_)
      have h := h.ext hs.ext
      refine LoopW.m2 (fun (p : Option Addr) (n : Int) w' => ∃ (k : Nat) (y : DProc) (py : Addr), n = k ∧ k ≤ 33 ∧ p = some py ∧ y ∈ l ∧ w124.cell? (py.add 0) = some (.int .i64 y.Id) ∧ w124.cell? (py.add 1) = some (.int .i64 y.Parent) ∧ (reachP l 33 x.Id ↔ reachP l (33 - k) y.Id) ∧ w' = w124) (fun _ (n : Int) _ => (33 - n).toNat) ⟨0, x, _, rfl, by omega, rfl, List.mem_of_getElem? hget, hs.cellP 0 rfl rfl, hs.cellP 0 rfl rfl, Iff.rfl, rfl⟩ ?_
      rintro (p : Option Addr) (n : Int) w128 ⟨k, y, py, rfl, hk, rfl, hy, hy0, hy1, hrc, rfl⟩ J2 hJ2
      refine ⟨_, rfl, _, hy0, BIf.ne (fun hne => ?_) (fun heq => ?_)⟩
      · refine ⟨_, rfl, _, hy1, (c104 (hs.cellP 1 rfl rfl) h).mono ?_⟩
        rintro _ w134 ⟨rfl, rfl⟩
        have hpa : parP l y.Id = y.Parent := by
          unfold parP
          rw [show prOf l y.Id = some y from hsrt.find hy]
        rw [w64 (by omega) (by omega)]
        have hbad : k > 32 → ¬ PInv l := fun hk2 hh => by
          have := hrc.1 ((hh.okL (k := 33) (by have := hh.len; omega)).reach m x hget)
          rw [show 33 - k = 0 by omega] at this
          exact hne this
        refine ⟨_, rfl, ?_⟩
        refine join_or.2 ?_
        rcases ixP_find l y.Parent with ⟨g1, g2⟩ | ⟨j, z, g1, g2, g3⟩
        · rw [g1, ptr_none]
          refine BIf.t rfl (KPr.no (fun hh => ?_) hs.ext)
          obtain ⟨_, u, _, _, _, _, hu⟩ := hh.up hy hne
          rw [g2] at hu; cases hu
        · obtain ⟨pz, hpz, hcz⟩ := h.pr g2
          rw [g1, ptr_some hpz]
          rw [show (Option.isNone (some (pz.add (j * 10))) || decide ((k : Int) > 32)) = decide ((k : Int) > 32) from rfl]
          refine BIf.dec (fun hk2 => KPr.no (hbad (by omega)) hs.ext) (fun hk2 => ?_)
          refine hJ2 _ _ _ ⟨k + 1, z, _, by omega, by omega, rfl, List.mem_of_getElem? g2, hcz 0 _ rfl, hcz 1 _ rfl, ?_, rfl⟩ (by omega)
          rw [hrc, show 33 - k = (33 - (k + 1)) + 1 by omega]
          show (y.Id = 1 ∨ reachP l _ (parP l y.Id)) ↔ _
          rw [hpa, (prOf_some g3).2]
          exact ⟨fun hh => hh.resolve_left hne, .inr⟩
      · refine hJ _ _ ⟨m + 1, by omega, by omega, fun j z hj hz => ?_, hs.drop⟩ (by omega)
        rcases Nat.lt_or_eq_of_le (Nat.le_of_lt_succ hj) with hlt | rfl
        · exact hall j z hlt hz
        · rw [hget] at hz; cases hz
          refine hrc.2 ?_
          rw [heq]; exact reachP_one l _
    · exact ⟨true, rfl, iff_of_true rfl (POkL.inv (k := 33) ⟨by omega, fun j x hx => (hone j x hx).1, ⟨x0, hg0, h0head⟩, fun j x hx hj => (hone j x hx).2.1 hj, fun j x hx => hall j x (by have := (List.getElem?_eq_some_iff.1 hx).1; omega) hx⟩), hs.ext⟩
end Go.Proofs.Yteigefjiifihpaa

/- Processes, the program's side: send, gone, end. Conditions: none. -/
set_option linter.unusedVariables false
set_option linter.unusedSimpArgs false
namespace Go.Proofs.Yteigefjiifihpaa
open Go Go.Den
/-- What the program's state is: the cell at b holds the row. -/
abbrev PSt (b : Nat) (t : Sl) (l : List DProc) (F : List Asr) : List Asr := BS b t :: RP t l :: F
theorem s140 {w0 w : World} {F : List Asr} {b : Nat} {t : Sl} {l : List DProc} {i : Nat} {x : DProc} {sig : Nat} (h : SH w0 w (PSt b t l F)) (hx : l[i]? = some x) (hix : ixP l x.Id = (i : Int)) (ho : PrOk x) (hs1 : 1 ≤ sig) (hs2 : sig ≤ 15) (hf : l.length ≤ 1048576) :
    CallW Try.prog 140 #[.pointer (some ⟨b, 0, none⟩), .int .i64 x.Id, .int .i64 (sig : Int)] w (fun v w' => v = .tuple #[] ∧ SH w0 w' (PSt b t (sendF l i sig) F)) := by
  refine go140 ?_
  unfold W140
  have hil := (List.getElem?_eq_some_iff.1 hx).1
  obtain ⟨q, hqa⟩ := h.rowQ 1 rfl hx
  obtain ⟨v1, v2⟩ := pend_vs ho sig
  have hp := VS.small ho.pend
  have hi := VS.small ho.ign.1
  rw [sendF_at hx]
  refine (c104 (h.cellP 0 rfl rfl) (qatOf h 1 rfl hf)).mono ?_
  rintro _ w ⟨rfl, rfl⟩
  rw [hix, ptr_some hqa]
  refine ⟨_, rfl, JoinW.each (BIf.f rfl ⟨_, rfl, _, h.rdR 1 rfl hqa hx rfl, BIf.eq (fun hz => ⟨rfl, ?_⟩) (fun hz => ?_)⟩)⟩
  · unfold sendY
    rw [if_pos hz, ← set_at hx]
    exact h
  have hy : sendY sig x = ⟨x.Id, x.Parent, x.Group, x.User, if sig = 13 then 1 else x.State, x.Status, pend3 x sig, x.Mask, x.Ignored, x.Caught⟩ := by
    unfold sendY; rw [if_neg hz, pend_eq]
  rw [hy]
  have e12 : (4096 : Int) = ((2 ^ 12 : Nat) : Int) := rfl
  have e13 : (8192 : Int) = ((2 ^ 13 : Nat) : Int) := rfl
  rw [set_at hx] at h
  refine JoinW.cut0 (fun w' => SH w0 w' (PSt b t (l.set i ⟨x.Id, x.Parent, x.Group, x.User, if sig = 13 then 1 else x.State, x.Status, pend2 x sig, x.Mask, x.Ignored, x.Caught⟩) F)) ?_ ?_
  · refine BIf.eq (fun h13 => ?_) (fun h13 => ?_)
    · have hs13 : sig = 13 := by omega
      subst hs13
      refine ⟨_, rfl, ?_⟩
      refine h.setR 1 (⟨x.Id, x.Parent, x.Group, x.User, 1, x.Status, x.Pending, x.Mask, x.Ignored, x.Caught⟩ : DProc) rfl hqa hil (by show 4 < 10; omega) rfl (fun w16 h n16 => ?_)
      have hx2 : (l.set i (⟨x.Id, x.Parent, x.Group, x.User, 1, x.Status, x.Pending, x.Mask, x.Ignored, x.Caught⟩ : DProc))[i]? = some ⟨x.Id, x.Parent, x.Group, x.User, 1, x.Status, x.Pending, x.Mask, x.Ignored, x.Caught⟩ := List.getElem?_set_self hil
      refine ⟨_, rfl, _, h.rdR 1 rfl hqa hx2 rfl, _, rfl, ?_⟩
      exact h.setR 1 (⟨x.Id, x.Parent, x.Group, x.User, 1, x.Status, lessS x.Pending 12, x.Mask, x.Ignored, x.Caught⟩ : DProc) rfl hqa hil (by show 6 < 10; omega) (by rw [e12, less_bit hp.1 hp.2 (by omega)]; rfl) (fun w20 h n20 => h)
    · refine BIf.eq (fun h12 => ?_) (fun h12 => ?_)
      · have hs12 : sig = 12 := by omega
        subst hs12
        have hx2 : (l.set i x)[i]? = some x := List.getElem?_set_self hil
        refine ⟨_, rfl, _, h.rdR 1 rfl hqa hx2 rfl, _, rfl, ?_⟩
        exact h.setR 1 (⟨x.Id, x.Parent, x.Group, x.User, x.State, x.Status, lessS x.Pending 13, x.Mask, x.Ignored, x.Caught⟩ : DProc) rfl hqa hil (by show 6 < 10; omega) (by rw [e13, less_bit hp.1 hp.2 (by omega)]; rfl) (fun w20 h n20 => h)
      · have hp2 : pend2 x sig = x.Pending := by unfold pend2 pend1; rw [if_neg (show ¬ sig = 12 by omega), if_neg (show ¬ sig = 13 by omega)]
        rw [hp2, if_neg (show ¬ sig = 13 by omega)]
        exact h
  clear h
  intro w8 h
  have hx2 : (l.set i (⟨x.Id, x.Parent, x.Group, x.User, if sig = 13 then 1 else x.State, x.Status, pend2 x sig, x.Mask, x.Ignored, x.Caught⟩ : DProc))[i]? = some ⟨x.Id, x.Parent, x.Group, x.User, if sig = 13 then 1 else x.State, x.Status, pend2 x sig, x.Mask, x.Ignored, x.Caught⟩ := List.getElem?_set_self hil
  refine ⟨_, rfl, _, h.rdR 1 rfl hqa hx2 rfl, by omega, ?_⟩
  rw [has_one hi.1 hi.2 (by omega)]
  unfold pend3
  rcases hh : hasS x.Ignored sig with _ | _
  · refine BIf.t rfl ⟨_, rfl, _, h.drew.rdR 1 rfl hqa hx2 rfl, by omega, _, rfl, ?_⟩
    refine h.drew.setR 1 (⟨x.Id, x.Parent, x.Group, x.User, if sig = 13 then 1 else x.State, x.Status, withS (pend2 x sig) sig, x.Mask, x.Ignored, x.Caught⟩ : DProc) rfl hqa hil (by show 6 < 10; omega) (by rw [shlI_one (by omega), with_bit v2.1 (by have := v2.2.1; omega) (by omega)]; rfl) (fun w14 h n14 => ⟨rfl, h⟩)
  · exact BIf.f rfl ⟨rfl, h⟩
theorem s139 {w0 w : World} {F : List Asr} {b : Nat} {t : Sl} {l : List DProc} {id : Int} (h : SH w0 w (PSt b t l F)) (hf : l.length ≤ 1048576) :
    CallW Try.prog 139 #[.pointer (some ⟨b, 0, none⟩), .int .i64 id] w (fun v w' => v = .tuple #[] ∧ ∃ t', SH w0 w' (PSt b t' (l.filter (fun y => y.Id != id)) F)) := by
  refine go139 ?_
  unfold W139
  have htl := h.len 1 rfl
  rw [recs_len] at htl
  refine ⟨_, rfl, t, h.cellP 0 rfl rfl, ?_⟩
  have h : SH w0 w (RP ⟨none, 0, 0⟩ ((l.take 0).filter (fun y => y.Id != id)) :: PSt b t l F) := SH.nil h none 10
  refine LoopW.m2 (fun (s : Sl) (i : Int) w' => ∃ m : Nat, i = m ∧ m ≤ l.length ∧ SH w0 w' (RP s ((l.take m).filter (fun y => y.Id != id)) :: PSt b t l F)) (fun _ (i : Int) _ => (l.length - i).toNat) ⟨0, rfl, by omega, h⟩ ?_
  clear h
  rintro (s : Sl) (i : Int) w6 ⟨m, rfl, hmm, h⟩ J hJ
  refine BIf.dec (fun hlt => ?_) (fun hge => ?_)
  · have hget : l[m]? = some l[m] := List.getElem?_eq_getElem (by omega)
    obtain ⟨r, hra⟩ := h.rowQ 2 rfl hget
    have hlen := List.length_filter_le (fun y : DProc => y.Id != id) (l.take m)
    rw [List.length_take] at hlen
    have hfs : (l.take (m + 1)).filter (fun y : DProc => y.Id != id) = (l.take m).filter (fun y => y.Id != id) ++ (if (l[m].Id != id) = true then [l[m]] else []) := by
      rw [List.take_add_one, hget, List.filter_append]
      simp only [Option.toList_some, List.filter_cons, List.filter_nil]
    generalize l[m] = y at *
    simp only [Int.toNat_natCast]
    rw [w64 (n := (m : Int) + 1) (by omega) (by omega)]
    refine ⟨by omega, by omega, r, hra, _, h.rdR 2 rfl hra hget rfl, _, h.rdR 2 rfl hra hget rfl, _, h.rdR 2 rfl hra hget rfl, _, h.rdR 2 rfl hra hget rfl, _, h.rdR 2 rfl hra hget rfl, _, h.rdR 2 rfl hra hget rfl, _, h.rdR 2 rfl hra hget rfl, _, h.rdR 2 rfl hra hget rfl, _, h.rdR 2 rfl hra hget rfl, _, h.rdR 2 rfl hra hget rfl, ?_⟩
    refine h.alloc (fun w18 h e18 n18 => ?_)
    refine h.put 0 rfl rfl rfl (fun w19 h n19 => ?_)
    refine ⟨_, h.cell 0 rfl rfl, BIf.of (fun hc => ?_) (fun hc => ?_)⟩
    · refine ⟨_, h.cell 0 rfl rfl, _, h.cell 0 rfl rfl, _, h.cell 0 rfl rfl, _, h.cell 0 rfl rfl, _, h.cell 0 rfl rfl, _, h.cell 0 rfl rfl, _, h.cell 0 rfl rfl, _, h.cell 0 rfl rfl, _, h.cell 0 rfl rfl, _, h.cell 0 rfl rfl, ?_⟩
      refine LetW_iff.2 (SH.appendR1 (f := DProc.cells) (x := y) h.drop rfl rfl rfl (by decide) (by show _ * 80 ≤ _; omega) (plain_pr _) (fun l32 w33 h hl32 _ => ?_))
      rw [if_pos hc] at hfs
      exact hJ _ _ _ ⟨m + 1, by omega, by omega, by rw [hfs]; exact h⟩ (by omega)
    · rw [if_neg (by rw [hc]; decide), List.append_nil] at hfs
      exact hJ _ _ _ ⟨m + 1, by omega, by omega, by rw [hfs]; exact h.drop⟩ (by omega)
  · rw [show m = l.length by omega, List.take_length] at h
    refine ⟨_, rfl, ?_⟩
    refine h.setVP 1 rfl rfl (fun w35 h n35 => ⟨rfl, s, ?_⟩)
    exact ((h.dropAt 2).front (n := 1) rfl)
theorem s138 {w0 w : World} {F : List Asr} {b : Nat} {t : Sl} {l : List DProc} {i : Nat} {x : DProc} {status : Int} (h : SH w0 w (PSt b t l F)) (hv : PInv l) (hx : l[i]? = some x) (hx1 : x.Id ≠ 1) (hs : 0 ≤ status ∧ status ≤ 255) :
    CallW Try.prog 138 #[.pointer (some ⟨b, 0, none⟩), .int .i64 x.Id, .int .i64 status] w (fun v w' => v = .tuple #[] ∧ ∃ t', SH w0 w' (PSt b t' (endF l x.Id status) F)) := by
  refine go138 ?_
  unfold W138
  have hlen := hv.len
  have htl := h.len 1 rfl
  rw [recs_len] at htl
  have hid := (hv.ok x (List.mem_of_getElem? hx)).id
  have hid1 : 1 < x.Id := by omega
  refine ⟨_, rfl, t, h.cellP 0 rfl rfl, ?_⟩
  have h : SH w0 w (PSt b t ((l.take 0).map (reP x.Id) ++ l.drop 0) F) := h
  generalize hidd : x.Id = id at *
  refine LoopW.m2 (fun (b3 : Bool) (i : Int) w' => ∃ m : Nat, i = m ∧ m ≤ l.length ∧ b3 = (l.take m).any (fun x => x.Parent == id && x.State == 3) ∧ SH w0 w' (PSt b t ((l.take m).map (reP id) ++ l.drop m) F)) (fun _ (i : Int) _ => (l.length - i).toNat) ⟨0, rfl, by omega, rfl, h⟩ ?_
  clear h
  rintro (b3 : Bool) (i' : Int) w6 ⟨m, rfl, hm, rfl, h⟩ J hJ
  refine BIf.dec (fun hlt => ?_) (fun hge => ?_)
  · have hget : l[m]? = some l[m] := List.getElem?_eq_getElem (by omega)
    have hstep := any_step (fun x : DProc => x.Parent == id && x.State == 3) hget
    have hmg := mapTo_get (reP id) hget
    have hms := mapTo_set (reP id) hget
    generalize l[m] = y at *
    obtain ⟨q, hqa⟩ := h.rowQ 1 rfl hmg
    simp only [Int.toNat_natCast]
    rw [w64 (n := (m : Int) + 1) (by omega) (by omega)]
    refine ⟨_, rfl, t, h.cellP 0 rfl rfl, by omega, by omega, q, hqa, _, rfl, _, h.rdR 1 rfl hqa hmg rfl, BIf.eq (fun hpar => ?_) (fun hpar => ?_)⟩
    · have hre : reP id y = ⟨y.Id, 1, y.Group, y.User, y.State, y.Status, y.Pending, y.Mask, y.Ignored, y.Caught⟩ := by unfold reP; rw [if_pos hpar]
      refine ⟨_, rfl, ?_⟩
      rw [set_at hmg] at h
      refine h.setR 1 (reP id y) rfl hqa (by rw [mapTo_len]; omega) (by show 1 < 10; omega) (by rw [hre]; rfl) (fun w13 h n13 => ?_)
      rw [hms] at h
      have hmg2 : ((l.take (m + 1)).map (reP id) ++ l.drop (m + 1))[m]? = some (reP id y) := by rw [← hms]; exact List.getElem?_set_self (by rw [mapTo_len]; omega)
      refine JoinW.cut1 (fun (b3 : Bool) w' => b3 = (l.take (m + 1)).any (fun x => x.Parent == id && x.State == 3) ∧ w' = w13) ?_ ?_
      · rw [hstep, hpar]
        refine BIf.of (fun hb => ⟨by rw [hb]; rfl, rfl⟩) (fun hb => ⟨_, rfl, _, h.rdR 1 rfl hqa hmg2 rfl, ?_, rfl⟩)
        rw [hb, hre]; simp
      · rintro (b3 : Bool) w16 ⟨hb, rfl⟩
        exact hJ _ _ _ ⟨m + 1, by omega, by omega, hb, h⟩ (by omega)
    · have hre : reP id y = y := by unfold reP; rw [if_neg hpar]
      rw [hre] at hms
      rw [← set_at hmg] at hms
      refine hJ _ _ _ ⟨m + 1, by omega, by omega, ?_, by rw [← hms]; exact h⟩ (by omega)
      rw [hstep, show (y.Parent == id) = false by simpa using hpar]; simp
  · clear hJ J
    have hmm : m = l.length := by omega
    subst hmm
    rw [List.take_length, List.drop_length, List.append_nil] at h
    rw [List.take_length]
    obtain ⟨r1, r2⟩ := hv.reP hid1
    obtain ⟨g1, g2, g3⟩ := hv.endA hid1
    have glen := g1.len
    refine JoinW.cut0 (fun w' => SH w0 w' (PSt b t (endA l id) F)) ?_ ?_
    · unfold endA
      have hdk : l.any (fun x => x.Parent == id && x.State == 3) = deadKid l id := rfl
      rw [hdk]
      refine BIf.of (fun hb => ?_) (fun hb => ?_)
      · rw [if_pos hb]
        obtain ⟨x1, hx1', hid1', _⟩ := r1.head
        have hix := (r1.ix hx1').1
        have key := s140 (sig := 14) h hx1' hix (r1.ok _ (List.mem_of_getElem? hx1')) (by omega) (by omega) (by simp; omega)
        rw [hid1'] at key
        refine key.mono ?_
        rintro _ w50 ⟨rfl, h⟩
        exact ⟨rfl, h⟩
      · rw [if_neg (by rw [hb]; decide)]
        exact h
    clear h
    intro w20 h
    have hlen2 : (endA l id).length ≤ 1048576 := by omega
    obtain ⟨y, hy, hyid⟩ := g3 i x hx
    rw [hidd] at hyid
    obtain ⟨f1, f2⟩ := g1.ix hy
    rw [hyid] at f1 f2
    obtain ⟨j, u, hj, u1, u2, u3, u4⟩ := g1.up (List.mem_of_getElem? hy) (by omega)
    have hij : i ≠ j := by
      rintro rfl
      rw [hy] at hj; cases hj
      exact g2 y (List.mem_of_getElem? hy) (by omega)
    have hfin : endF l id status = if hasS u.Ignored 14 = true then (endA l id).filter (fun y => y.Id != id) else sendF ((endA l id).set i (zomb y status)) j 14 := by
      unfold endF endB
      rw [f2]; dsimp only; rw [u4]; dsimp only; rw [f1, u3, Int.toNat_natCast, Int.toNat_natCast]
    have hil := (List.getElem?_eq_some_iff.1 hy).1
    have huo := g1.ok u (List.mem_of_getElem? hj)
    have hz := g1.zomb hy (by omega) (fun z hz => by rw [hyid]; exact g2 z hz) hs
    rw [hfin]
    clear hfin g3
    generalize endA l id = l' at *
    obtain ⟨q, hqa⟩ := h.rowQ 1 rfl hy
    refine (c104 (h.cellP 0 rfl rfl) (qatOf h 1 rfl hlen2)).mono ?_
    rintro _ w22 ⟨rfl, rfl⟩
    rw [f1, ptr_some hqa]
    refine ⟨_, rfl, _, rfl, _, h.rdR 1 rfl hqa hy rfl, (c104 (h.cellP 0 rfl rfl) (qatOf h 1 rfl hlen2)).mono ?_⟩
    rintro _ w27 ⟨rfl, rfl⟩
    rw [u3, ptr_some hqa]
    refine ⟨_, rfl, _, rfl, _, h.rdR 1 rfl hqa hj rfl, by decide, ?_⟩
    rw [show (14 : Int) = ((14 : Nat) : Int) from rfl, has_one (VS.small huo.ign.1).1 (VS.small huo.ign.1).2 (by omega)]
    rcases hh : hasS u.Ignored 14 with _ | _
    · refine BIf.f rfl ⟨_, rfl, ?_⟩
      rw [if_neg (by decide)]
      rw [set_at hy] at h
      refine h.setR 1 (⟨y.Id, y.Parent, y.Group, y.User, 3, y.Status, y.Pending, y.Mask, y.Ignored, y.Caught⟩ : DProc) rfl hqa hil (by show 4 < 10; omega) rfl (fun w34 h n34 => ⟨_, rfl, ?_⟩)
      refine h.setR 1 (⟨y.Id, y.Parent, y.Group, y.User, 3, status, y.Pending, y.Mask, y.Ignored, y.Caught⟩ : DProc) rfl hqa hil (by show 5 < 10; omega) rfl (fun w36 h n36 => ⟨_, rfl, ?_⟩)
      refine h.setR 1 (⟨y.Id, y.Parent, y.Group, y.User, 3, status, 0, y.Mask, y.Ignored, y.Caught⟩ : DProc) rfl hqa hil (by show 6 < 10; omega) rfl (fun w38 h n38 => ⟨_, rfl, ?_⟩)
      refine h.setR 1 (⟨y.Id, y.Parent, y.Group, y.User, 3, status, 0, 0, y.Ignored, y.Caught⟩ : DProc) rfl hqa hil (by show 7 < 10; omega) rfl (fun w40 h n40 => ⟨_, rfl, ?_⟩)
      refine h.setR 1 (⟨y.Id, y.Parent, y.Group, y.User, 3, status, 0, 0, 0, y.Caught⟩ : DProc) rfl hqa hil (by show 8 < 10; omega) rfl (fun w42 h n42 => ⟨_, rfl, ?_⟩)
      refine h.setR 1 (zomb y status) rfl hqa hil (by show 9 < 10; omega) rfl (fun w44 h n44 => ⟨_, rfl, ?_⟩)
      have hj2 : (l'.set i (zomb y status))[j]? = some u := by rw [List.getElem?_set_ne hij]; exact hj
      refine ⟨_, h.rdR 1 rfl hqa hj2 rfl, (s140 (i := j) (sig := 14) h hj2 (hz.ix hj2).1 huo (by omega) (by omega) (by simp; omega)).mono ?_⟩
      rintro _ w48 ⟨rfl, h⟩
      exact ⟨rfl, rfl, t, h⟩
    · refine BIf.t rfl ((s139 h hlen2).mono ?_)
      rintro _ w32 ⟨rfl, t2, h⟩
      rw [if_pos rfl]
      exact ⟨rfl, rfl, t2, h⟩
end Go.Proofs.Yteigefjiifihpaa

/- Processes, the program's side: what its numbers and lists come to; plain. Conditions: none. -/
set_option linter.unusedVariables false
set_option linter.unusedSimpArgs false
namespace Go.Proofs.Yteigefjiifihpaa
open Go Go.Den
theorem hasS_andNot {a b : Int} (ha : VS a) (hb : VS b) (j : Nat) : hasS (andNotI .i64 a b) j = (hasS a j && !hasS b j) ∧ 0 ≤ andNotI .i64 a b ∧ andNotI .i64 a b ≤ 65535 := by
  obtain ⟨n, rfl⟩ := Int.eq_ofNat_of_zero_le ha.1
  obtain ⟨m, rfl⟩ := Int.eq_ofNat_of_zero_le hb.1
  have h1 := ha.2.1
  have h2 := hb.2.1
  rw [andNotI_nat (by omega) (by omega)]
  have hl : ldiffN n m < 65536 := Nat.xor_lt_two_pow (n := 16) (show n < 2 ^ 16 by omega) (Nat.lt_of_le_of_lt Nat.and_le_left (show n < 2 ^ 16 by omega))
  refine ⟨?_, by omega, by omega⟩
  unfold hasS
  rw [Int.toNat_natCast, Int.toNat_natCast, Int.toNat_natCast, ldiffN_bit]
theorem vs_hard : VS 4608 := ⟨by decide, by decide, by decide⟩
theorem hard_bit {j : Nat} (hj : j < 16) : hasS 4608 j = (j == 9 || j == 12) := by
  have : ∀ j, j < 16 → hasS 4608 j = (j == 9 || j == 12) := by decide
  exact this j hj
theorem mask_hard {s : Int} (h : VS s) : andNotI .i64 s 4608 = lessS (lessS s 9) 12 := by
  have h9 := VS.less h (i := 9) (by omega)
  have h0 := VS.small h
  have h1 := VS.small h9
  refine vs_ext (hasS_andNot h vs_hard 0).2.1 (VS.less h9 (by omega)).1 (fun j => ?_)
  rw [(hasS_andNot h vs_hard j).1, (hasS_less h1.1 h1.2 (by omega) j).1, (hasS_less h0.1 h0.2 (by omega) j).1]
  rcases hj : hasS s j with _ | _
  · rfl
  · have := (h.bit hj).2
    rw [hard_bit (by omega)]
    by_cases e9 : j = 9
    · subst e9; rfl
    · by_cases e12 : j = 12
      · subst e12; rfl
      · have a1 : (j == 9) = false := by simpa using e9
        have a2 : (j == 12) = false := by simpa using e12
        have a3 : (9 != j) = true := by simp; omega
        have a4 : (12 != j) = true := by simp; omega
        rw [a1, a2, a3, a4]; rfl
theorem bit_512 (j : Nat) : hasS 512 j = (j == 9) := by
  unfold hasS
  rw [show (512 : Int).toNat = 2 ^ 9 from rfl, Nat.testBit_two_pow]
  by_cases h : 9 = j
  · subst h; rfl
  · rw [decide_eq_false h]
    symm; simp; omega
/-- What may be taken, as the program counts it. -/
def takeS (x : DProc) : Int := if x.State = 2 then andI .i64 (andNotI .i64 x.Pending x.Mask) 512 else andNotI .i64 x.Pending x.Mask
theorem takeS_bits {x : DProc} (h : PrOk x) (j : Nat) : hasS (takeS x) j = (hasS x.Pending j && !hasS x.Mask j && (x.State != 2 || j == 9)) ∧ 0 ≤ takeS x ∧ takeS x ≤ 65535 := by
  obtain ⟨b1, b2, b3⟩ := hasS_andNot h.pend h.mask.1 j
  unfold takeS
  by_cases hs : x.State = 2
  · rw [if_pos hs, show (x.State != 2) = false by simpa using hs]
    obtain ⟨n, hn⟩ := Int.eq_ofNat_of_zero_le b2
    rw [hn] at b1 b3 ⊢
    rw [show (512 : Int) = ((512 : Nat) : Int) from rfl, andI_nat (by omega) (by decide)]
    have hl : n &&& 512 ≤ n := Nat.and_le_left
    refine ⟨?_, by omega, by omega⟩
    have h5 := bit_512 j
    unfold hasS at b1 h5 ⊢
    rw [Int.toNat_natCast] at b1 ⊢
    rw [Nat.testBit_and, b1, Bool.false_or, ← h5]; rfl
  · rw [if_neg hs, show (x.State != 2) = true by simpa using hs]
    exact ⟨by rw [b1, Bool.true_or, Bool.and_true], b2, b3⟩
theorem zero_bits {s : Int} (h : 0 ≤ s) : s = 0 ↔ ∀ j, hasS s j = false := by
  constructor
  · rintro rfl j; exact has_zero j
  · intro hj
    exact vs_ext h (Int.le_refl 0) (fun j => by rw [hj j, has_zero j])
theorem leastS_zero {x : DProc} : ∀ (k s : Nat), 1 ≤ s → (leastS x k s = 0 ↔ ∀ j, s ≤ j → j < s + k → (hasS x.Pending j && !hasS x.Mask j) = false)
  | 0, s, hs => ⟨fun _ j h1 h2 => by omega, fun _ => rfl⟩
  | k + 1, s, hs => by
    unfold leastS
    by_cases h : hasS x.Pending s = true ∧ hasS x.Mask s = false
    · rw [if_pos h]
      refine ⟨fun e => by omega, fun hall => ?_⟩
      have := hall s (Nat.le_refl _) (by omega)
      rw [h.1, h.2] at this; cases this
    · rw [if_neg h, leastS_zero k (s + 1) (by omega)]
      have hs0 : (hasS x.Pending s && !hasS x.Mask s) = false := by
        rcases h1 : hasS x.Pending s with _ | _
        · rfl
        · rcases h2 : hasS x.Mask s with _ | _
          · exact absurd ⟨h1, h2⟩ h
          · rfl
      constructor
      · intro hall j h1 h2
        rcases Nat.lt_or_eq_of_le h1 with h3 | rfl
        · exact hall j h3 (by omega)
        · exact hs0
      · exact fun hall j h1 h2 => hall j (by omega) (by omega)
theorem takeS_zero {x : DProc} (h : PrOk x) : takeS x = 0 ↔ sigOf x = 0 := by
  rw [zero_bits (takeS_bits h 0).2.1]
  unfold sigOf
  by_cases h9 : hasS x.Pending 9 = true
  · rw [if_pos h9]
    refine ⟨fun hall => ?_, fun e => absurd e (by decide)⟩
    have := hall 9
    rw [(takeS_bits h 9).1, h9, h.mask.2.1] at this
    simp at this
  rw [if_neg h9]
  have h9' : hasS x.Pending 9 = false := by simpa using h9
  by_cases h2 : x.State = 2
  · rw [if_pos h2]
    refine iff_of_true (fun j => ?_) rfl
    rw [(takeS_bits h j).1, show (x.State != 2) = false by simpa using h2, Bool.false_or]
    by_cases hj : j = 9
    · subst hj; rw [h9']; rfl
    · rw [show (j == 9) = false by simpa using hj, Bool.and_false]
  · rw [if_neg h2, leastS_zero 15 1 (by omega)]
    have e2 : (x.State != 2) = true := by simpa using h2
    constructor
    · intro hall j _ _
      have := hall j
      rw [(takeS_bits h j).1, e2, Bool.true_or, Bool.and_true] at this
      exact this
    · intro hall j
      rw [(takeS_bits h j).1, e2, Bool.true_or, Bool.and_true]
      rcases hj : hasS x.Pending j with _ | _
      · rfl
      · have := h.pend.bit hj
        have := hall j (by omega) (by omega)
        rw [hj] at this
        exact this
theorem takeS_nine {x : DProc} (h : PrOk x) : hasS (takeS x) 9 = hasS x.Pending 9 := by
  rw [(takeS_bits h 9).1, h.mask.2.1]; simp
/-- Sent to those whose numbers are told. -/
def sendS (sg : Nat) (ids : List Int) (l : List DProc) : List DProc := l.map (fun y => if y.Id ∈ ids then sendY sg y else y)
theorem sendS_sim {l : List DProc} (h : PInv l) {sg : Nat} (h1 : 1 ≤ sg) (h2 : sg ≤ 15) (ids : List Int) : PInv (sendS sg ids l) := by
  refine h.sim (PSim.map (fun z hz => ?_))
  split
  · exact sendY_ok (h.ok z hz) h1 h2
  · exact ⟨rfl, rfl, Iff.rfl, h.ok z hz⟩
theorem sendS_step {l : List DProc} (h : PInv l) {sg : Nat} {ids : List Int} {j : Nat} {z : DProc} (hz : l[j]? = some z) (hn : z.Id ∉ ids) : (sendS sg ids l)[j]? = some z ∧ sendF (sendS sg ids l) j sg = sendS sg (ids ++ [z.Id]) l := by
  have hg : (sendS sg ids l)[j]? = some z := by
    unfold sendS
    rw [List.getElem?_map, hz]
    simp only [Option.map_some, if_neg hn]
  refine ⟨hg, ?_⟩
  rw [sendF_at hg]
  refine List.ext_getElem? (fun i => ?_)
  by_cases hij : j = i
  · subst hij
    rw [List.getElem?_set_self (List.getElem?_eq_some_iff.1 hg).1]
    unfold sendS
    rw [List.getElem?_map, hz]
    simp
  · rw [List.getElem?_set_ne hij]
    unfold sendS
    rw [List.getElem?_map, List.getElem?_map]
    rcases hi : l[i]? with _ | y
    · rfl
    · simp only [Option.map_some]
      have hne : y.Id ≠ z.Id := fun e => by
        rcases Nat.lt_trichotomy i j with hlt | heq | hgt
        · have := h.srt.lt hi hz hlt; omega
        · exact hij heq.symm
        · have := h.srt.lt hz hi hgt; omega
      congr 1
      by_cases hy : y.Id ∈ ids
      · rw [if_pos hy, if_pos (List.mem_append.2 (.inl hy))]
      · rw [if_neg hy, if_neg (by simp [hy, hne])]
theorem sendS_nil (l : List DProc) (sg : Nat) : sendS sg [] l = l := by unfold sendS; simp
theorem sendS_all {l : List DProc} (h : PInv l) {me : DProc} {to_ : Int} {sg : Nat} (hp : (sg : Int) > 0) : sendS sg ((l.filter (hit me to_)).map DProc.Id) l = l.map (killX me to_ sg) := by
  unfold sendS
  refine List.map_congr_left (fun y hy => ?_)
  unfold killX
  have hiff : y.Id ∈ (l.filter (hit me to_)).map DProc.Id ↔ hit me to_ y = true := by
    constructor
    · intro hm
      obtain ⟨z, hz, he⟩ := List.mem_map.1 hm
      obtain ⟨h1, h2⟩ := List.mem_filter.1 hz
      rw [← h.srt.uniq h1 hy he]; exact h2
    · exact fun hh => List.mem_map.2 ⟨y, List.mem_filter.2 ⟨hy, hh⟩, rfl⟩
  by_cases hh : hit me to_ y = true
  · rw [if_pos (hiff.2 hh), if_pos ⟨hp, hh⟩, Int.toNat_natCast]
  · rw [if_neg (fun e => hh (hiff.1 e)), if_neg (fun e => hh e.2)]
theorem hits_nodup {l : List DProc} (h : PInv l) (p : DProc → Bool) : ((l.filter p).map DProc.Id).Nodup := (h.srt.filter p).nodup
theorem filter_step {α : Type} (p : α → Bool) {l : List α} {m : Nat} {x : α} (hx : l[m]? = some x) : (l.take (m + 1)).filter p = (l.take m).filter p ++ (if p x = true then [x] else []) := by
  rw [List.take_add_one, hx, List.filter_append]
  simp only [Option.toList_some, List.filter_cons, List.filter_nil]
end Go.Proofs.Yteigefjiifihpaa

/- Processes, the program's side: an operation on processes at an address. Conditions: none. -/
set_option linter.unusedVariables false
set_option linter.unusedSimpArgs false
namespace Go.Proofs.Yteigefjiifihpaa
open Go Go.Den
theorem retV3 {w0 w : World} {As : List Asr} (h : SH w0 w As) (j : Nat) {c : Nat} {us : List Value} {x y z : Int} {K : Value → World → Prop} (hc : As[j]? = some (aB c (us.map Ce.v))) (hu : us.length = 3)
    (hk : ∀ w2, SH w0 w2 (As.set j (aB c ((rs3 x y z).map Ce.v))) → K (.agg #[.int .i64 x, .int .i64 y, .int .i64 z]) w2) :
    MayN w ⟨c, 0, none⟩ 3 ∧ LetW (Den.puts w ⟨c, 0, none⟩ 0 [.int .i64 x, .int .i64 y, .int .i64 z]) fun w14 => ∃ n19 : Int, w14.cell? ⟨c, 0, none⟩ = some (.int .i64 n19) ∧ ∃ n20 : Int, w14.cell? ⟨c, 1, none⟩ = some (.int .i64 n20) ∧ ∃ n21 : Int, w14.cell? ⟨c, 2, none⟩ = some (.int .i64 n21) ∧ K (.agg #[.int .i64 n19, .int .i64 n20, .int .i64 n21]) w14 := by
  refine h.put j hc rfl hu (fun w14 h nw => ?_)
  have hj := (List.getElem?_eq_some_iff.1 hc).1
  have g2 : (As.set j (aB c ((rs3 x y z).map Ce.v)))[j]? = some (aB c ((rs3 x y z).map Ce.v)) := List.getElem?_set_self hj
  exact ⟨x, h.cell j g2 rfl, y, h.cell j g2 rfl, z, h.cell j g2 rfl, hk _ h⟩
theorem retE {w0 w : World} {As : List Asr} (h : SH w0 w As) (j : Nat) {c : Nat} {us : List Value} {e : Int} {K : Value → World → Prop} (hc : As[j]? = some (aB c (us.map Ce.v))) (hu : us.length = 3)
    (hk : ∀ w2, SH w0 w2 (As.set j (aB c ((rs3 e 0 0).map Ce.v))) → K (.agg #[.int .i64 e, .int .i64 0, .int .i64 0]) w2) :
    CallW Try.prog 136 #[.int .i64 e] w fun v7 w8 => ∃ n9 : Int, ∃ n10 : Int, ∃ n11 : Int, v7 = .agg #[.int .i64 n9, .int .i64 n10, .int .i64 n11] ∧ MayN w8 ⟨c, 0, none⟩ 3 ∧ LetW (Den.puts w8 ⟨c, 0, none⟩ 0 [.int .i64 n9, .int .i64 n10, .int .i64 n11]) fun w14 => ∃ n19 : Int, w14.cell? ⟨c, 0, none⟩ = some (.int .i64 n19) ∧ ∃ n20 : Int, w14.cell? ⟨c, 1, none⟩ = some (.int .i64 n20) ∧ ∃ n21 : Int, w14.cell? ⟨c, 2, none⟩ = some (.int .i64 n21) ∧ K (.agg #[.int .i64 n19, .int .i64 n20, .int .i64 n21]) w14 := by
  refine c136.mono ?_
  rintro _ w8 ⟨rfl, e⟩
  exact ⟨_, _, _, rfl, retV3 (h.to e) j hc hu hk⟩
abbrev BP (b : Nat) (p : Addr) : Asr := aB b ([Value.pointer (some p)].map Ce.v)
def KM (w0 : World) (F : List Asr) (b : Nat) (r : PRes) (v : Value) (w' : World) : Prop := v = .agg #[.int .i64 r.2.1, .int .i64 r.2.2.1, .int .i64 r.2.2.2] ∧ ∃ t, SH w0 w' (PSt b t r.1 F)
abbrev intC (n : Int) : List Value := [.int .i64 n]
theorem plain_int (n : Int) : ∀ v, v ∈ intC n → plainB v = true := by intro v hv; obtain rfl := List.mem_singleton.1 hv; rfl
theorem s96 {w0 w : World} {F : List Asr} {b : Nat} {t : Sl} {l : List DProc} {k id to_ n : Int} (h : SH w0 w (PSt b t l F)) (hv : PInv l) (hto : inR to_) :
    CallW Try.prog 96 #[.pointer (some ⟨b, 0, none⟩), .agg #[.int .i64 k, .int .i64 id, .int .i64 to_, .int .i64 n]] w (KM w0 F b (stepP l k id to_ n)) := by
  refine go96 ?_
  unfold W96
  have hlen := hv.len
  have htl := h.len 1 rfl
  rw [recs_len] at htl
  have htc := h.lenCap 1 rfl
  refine h.alloc (fun w1 h e1 n1 => ?_)
  refine h.alloc (fun w2 h e2 n2 => ?_)
  refine ⟨_, h.cell 1 rfl rfl, ?_⟩
  refine join_or_ex _ (h.cell 1 rfl rfl) ?_
  refine BIf.of (fun hb => ?_) (fun hb => ?_)
  · simp only [Bool.or_eq_true, decide_eq_true_eq] at hb
    rw [stepP_bad hb]
    exact retE h 0 rfl rfl (fun w2 h => ⟨rfl, t, ((h.dropAt 1).dropAt 0)⟩)
  simp only [Bool.or_eq_false_iff, decide_eq_false_iff_not] at hb
  have hb : ¬ (k < 1 ∨ k > 9) := by omega
  refine ⟨_, h.cell 1 rfl rfl, (c104 (h.cellP 2 rfl rfl) (qatOf h 3 rfl (by omega))).mono ?_⟩
  rintro _ w18 ⟨rfl, rfl⟩
  refine ⟨_, rfl, ?_⟩
  refine h.alloc (fun w20 h e20 n20 => ?_)
  refine h.setV 0 rfl rfl (fun w21 h n21 => ?_)
  rcases ixP_find l id with ⟨g1, g2⟩ | ⟨i, x, g1, g2, g3⟩
  · rw [g1, ptr_none] at h
    rw [stepP_none hv hb g1]
    refine ⟨_, h.cell 0 rfl rfl, BIf.t rfl ?_⟩
    exact retE h 1 rfl rfl (fun w2 h => ⟨rfl, t, (((h.dropAt 2).dropAt 1).dropAt 0)⟩)
  have hil := (List.getElem?_eq_some_iff.1 g2).1
  have hxid := (prOf_some g3).2
  have ho := hv.ok x (List.mem_of_getElem? g2)
  obtain ⟨q, hqa⟩ := h.rowQ 4 rfl g2
  rw [g1, ptr_some hqa] at h
  have hstep := stepP_some (to_ := to_) (n := n) hb g1 g2
  generalize stepP l k id to_ n = r at *
  have h : SH w0 w21 (BP w18.heap.size (q.add (i * 10)) :: aB w1.heap.size ((rs3 0 0 0).map Ce.v) :: BO w.heap.size k id to_ n :: BS b t :: RP t l :: F) := h
  generalize w18.heap.size = pb at *
  generalize w1.heap.size = rb at *
  generalize w.heap.size = ob at *
  refine ⟨_, h.cell 0 rfl rfl, BIf.f rfl ⟨_, h.cell 0 rfl rfl, _, rfl, _, h.rdR 4 rfl hqa g2 rfl, ?_⟩⟩
  refine BIf.eq (fun hz => ?_) (fun hz => ?_)
  · rw [if_pos hz] at hstep
    rw [hstep]
    exact retE h 1 rfl rfl (fun w2 h => ⟨rfl, t, (((h.dropAt 2).dropAt 1).dropAt 0)⟩)
  rw [if_neg hz] at hstep
  unfold prR at hstep
  refine JoinW.cut0 (fun w' => ∃ t', SH w0 w' (aB rb ((rs3 r.2.1 r.2.2.1 r.2.2.2).map Ce.v) :: BS b t' :: RP t' r.1 :: F)) ?_ ?_
  rotate_left
  · rintro w45 ⟨t', h⟩
    refine ⟨_, h.cell 0 rfl rfl, _, h.cell 0 rfl rfl, _, h.cell 0 rfl rfl, ?_⟩
    exact retV3 h 0 rfl rfl (fun w2 h => ⟨rfl, t', (h.dropAt 0)⟩)
  refine ⟨_, h.cell 2 rfl rfl, BIf.eq (fun hk => ?_) (fun hk1 => ?_)⟩
  · -- fork
    rw [if_pos hk] at hstep
    have hfull := hv.full
    obtain ⟨q0, q1, q2, q3⟩ := hv.gap
    refine ⟨_, rfl, t, h.cellP 3 rfl rfl, BIf.eq (fun h32 => ?_) (fun h32 => ?_)⟩
    · rw [if_pos (by omega)] at hstep
      rw [hstep]
      exact retE h 1 rfl rfl (fun w2 h => ⟨rfl, t, (((h.dropAt 2).dropAt 1).dropAt 0)⟩)
    rw [if_neg (by omega)] at hstep
    have hff : forkF l x = [] ++ l.take (gapQ l 0) ++ [child (gapQ l 0) x] ++ l.drop (gapQ l 0) := by unfold forkF; simp
    rw [hff] at hstep
    refine LoopW.m1 (fun (i' : Int) w' => ∃ m : Nat, i' = m ∧ m ≤ gapQ l 0 ∧ SH w0 w' (BP pb (q.add (i * 10)) :: aB rb ((rs3 0 0 0).map Ce.v) :: BO ob k id to_ n :: BS b t :: RP t l :: F)) (fun (i' : Int) _ => (40 - i').toNat) ⟨0, rfl, by omega, h⟩ ?_
    clear h
    rintro (i' : Int) w67 ⟨m, rfl, hmg, h⟩ J hJ
    rw [w64 (n := (m : Int) + 1) (by omega) (by omega)]
    refine ⟨_, rfl, t, h.cellP 3 rfl rfl, ?_⟩
    refine JoinW.cut1 (fun (c : Bool) w' => c = decide (m < gapQ l 0) ∧ w' = w67) ?_ ?_
    · refine BIf.dec (fun hlt => ?_) (fun hge => ⟨(decide_eq_false (by omega)).symm, rfl⟩)
      have hget : l[m]? = some l[m] := List.getElem?_eq_getElem (by omega)
      simp only [Int.toNat_natCast]
      refine ⟨_, rfl, t, h.cellP 3 rfl rfl, by omega, by omega, q, hqa, _, h.rdR 4 rfl hqa hget rfl, ?_, trivial⟩
      by_cases hm2 : m < gapQ l 0
      · rw [decide_eq_true hm2, q2 m _ hm2 hget]; simp
      · have := q3 m _ (by omega) hget
        rw [decide_eq_false hm2]
        simp; omega
    rintro (c : Bool) w72 ⟨rfl, rfl⟩
    refine BIf.dec (fun hc => hJ _ _ ⟨m + 1, by omega, by omega, h⟩ (by omega)) (fun hc => ?_)
    clear hJ J
    obtain rfl : m = gapQ l 0 := by omega
    generalize gapQ l 0 = m at *
    simp only [Int.toNat_natCast]
    refine ⟨_, h.cell 0 rfl rfl, _, rfl, _, h.rdR 4 rfl hqa g2 rfl, _, h.rdR 4 rfl hqa g2 rfl, _, h.rdR 4 rfl hqa g2 rfl, _, h.rdR 4 rfl hqa g2 rfl, _, h.rdR 4 rfl hqa g2 rfl, _, h.rdR 4 rfl hqa g2 rfl, _, h.rdR 4 rfl hqa g2 rfl, _, h.rdR 4 rfl hqa g2 rfl, _, h.rdR 4 rfl hqa g2 rfl, _, h.rdR 4 rfl hqa g2 rfl, ?_⟩
    refine h.alloc (fun w85 h e85 n85 => ?_)
    refine h.put 0 rfl rfl rfl (fun w86 h n86 => ?_)
    have h := h.drew
    refine ⟨_, h.cell 1 rfl rfl, _, rfl, _, h.rdR 5 rfl hqa g2 rfl, ?_⟩
    refine h.setV 0 rfl rfl (fun w90 h n90 => ⟨⟨_, h.rdR 5 rfl hqa g2 rfl, rfl⟩, ⟨_, h.cell 1 rfl rfl, rfl⟩, ?_⟩)
    refine h.setV 0 rfl rfl (fun w93 h n93 => ?_)
    refine h.setV 0 rfl rfl (fun w94 h n94 => ?_)
    refine h.setV 0 rfl rfl (fun w95 h n95 => ?_)
    have h : SH w0 w95 (BX w72.heap.size (child m x) :: BP pb (q.add (i * 10)) :: aB rb ((rs3 0 0 0).map Ce.v) :: BO ob k id to_ n :: BS b t :: RP t l :: F) := h
    refine ⟨_, rfl, t, h.cellP 4 rfl rfl, by omega, by omega, ?_⟩
    have hrow := h.rowR 5 rfl
    have h := SH.nil h none 10
    refine SH.appendR (f := DProc.cells) (l := []) (us := l.take m) h (hrow.pre (fun _ => rfl) (by omega)) (by simp; omega) (fun _ => rfl) rfl rfl (by decide) (by show (_ + _) * 80 ≤ _; simp; omega) plain_pr (fun l98 w99 h hl98 _ => ?_)
    have h := h.drew
    refine ⟨_, h.cell 1 rfl rfl, _, h.cell 1 rfl rfl, _, h.cell 1 rfl rfl, _, h.cell 1 rfl rfl, _, h.cell 1 rfl rfl, _, h.cell 1 rfl rfl, _, h.cell 1 rfl rfl, _, h.cell 1 rfl rfl, _, h.cell 1 rfl rfl, _, h.cell 1 rfl rfl, _, rfl, t, h.cellP 5 rfl rfl, by omega, by omega, ?_⟩
    refine LetW_iff.2 ?_
    have hfact := (h.to (ext_alloc w99.drew (.cells ⟨(child m x).cells⟩ 100))).cellP 5 (i := 0) rfl rfl
    refine ⟨⟨t, hfact, rfl⟩, ?_⟩
    refine SH.appendR1 (f := DProc.cells) (x := child m x) h rfl rfl rfl (by decide) (by show _ * 80 ≤ _; simp; omega) (plain_pr _) (fun l114 w115 h hl114 _ => ?_)
    refine ⟨⟨t, h.cellP 5 rfl rfl, rfl⟩, ?_⟩
    have hrow := h.rowR 6 rfl
    refine SH.appendR (f := DProc.cells) (us := l.drop m) h (hrow.suf (fun _ => rfl) htl htc (by omega)) (by simp; omega) (fun _ => rfl) rfl rfl (by decide) (by show (_ + _) * 80 ≤ _; simp; omega) plain_pr (fun l117 w118 h hl117 _ => ?_)
    refine ⟨_, rfl, ?_⟩
    refine h.setVP 5 rfl rfl (fun w120 h n120 => ⟨_, h.cell 1 rfl rfl, ?_⟩)
    refine h.setV 3 rfl rfl (fun w122 h n122 => ⟨l117, ?_⟩)
    rw [hstep]
    exact ((((((h.dropAt 6).dropAt 4).dropAt 2).dropAt 1).front (n := 2) rfl).front (n := 2) rfl)
  rw [if_neg hk1] at hstep
  refine BIf.eq (fun hk => ?_) (fun hk2 => ?_)
  · -- exit
    rw [if_pos hk] at hstep
    refine ⟨_, h.cell 2 rfl rfl, ?_⟩
    refine join_or_ex _ (h.cell 2 rfl rfl) ?_
    refine BIf.of (fun hb => ?_) (fun hb => ?_)
    · simp only [Bool.or_eq_true, decide_eq_true_eq] at hb
      rw [if_pos hb] at hstep
      rw [hstep]
      exact retE h 1 rfl rfl (fun w2 h => ⟨rfl, t, (((h.dropAt 2).dropAt 1).dropAt 0)⟩)
    simp only [Bool.or_eq_false_iff, decide_eq_false_iff_not] at hb
    rw [if_neg (show ¬ (n < 0 ∨ n > 255) by omega)] at hstep
    refine ⟨_, h.cell 2 rfl rfl, BIf.eq (fun h1 => ?_) (fun h1 => ?_)⟩
    · rw [if_pos h1] at hstep
      rw [hstep]
      exact retE h 1 rfl rfl (fun w2 h => ⟨rfl, t, (((h.dropAt 2).dropAt 1).dropAt 0)⟩)
    rw [if_neg h1] at hstep
    refine ⟨_, h.cell 2 rfl rfl, _, h.cell 2 rfl rfl, ?_⟩
    have key := s138 (status := n) ((h.front (n := 4) rfl).front (n := 4) rfl) hv g2 (by omega) (by omega)
    rw [hxid] at key
    refine key.mono ?_
    rintro _ w153 ⟨rfl, t2, h⟩
    refine ⟨rfl, t2, ?_⟩
    rw [hstep]
    exact (((h.dropAt 4).dropAt 2).front (n := 2) rfl)
  rw [if_neg hk2] at hstep
  refine BIf.eq (fun hk => ?_) (fun hk3 => ?_)
  · -- wait
    rw [if_pos hk] at hstep
    refine ⟨_, rfl, t, h.cellP 3 rfl rfl, ?_⟩
    refine LoopW.m2 (fun (b3 : Bool) (i' : Int) w' => ∃ m : Nat, i' = m ∧ m ≤ l.length ∧ b3 = (l.take m).any (fun y => y.Parent == x.Id && meant x to_ y) ∧ (∀ y, y ∈ l.take m → (y.Parent == x.Id && meant x to_ y && y.State == 3) = false) ∧ SH w0 w' (BP pb (q.add (i * 10)) :: aB rb ((rs3 0 0 0).map Ce.v) :: BO ob k id to_ n :: BS b t :: RP t l :: F)) (fun _ (i' : Int) _ => (l.length - i').toNat) ⟨0, rfl, by omega, rfl, (fun y hy => by simp at hy), h⟩ ?_
    clear h
    rintro (b3 : Bool) (i' : Int) w160 ⟨m, rfl, hm, rfl, hall, h⟩ J hJ
    refine BIf.dec (fun hlt => ?_) (fun hge => ?_)
    · have hget : l[m]? = some l[m] := List.getElem?_eq_getElem (by omega)
      have hstp := any_step (fun y : DProc => y.Parent == x.Id && meant x to_ y) hget
      have hmem : ∀ z, z ∈ l.take (m + 1) → z ∈ l.take m ∨ z = l[m] := fun z hz => by
        rw [List.take_add_one, hget] at hz
        rcases List.mem_append.1 hz with hz | hz
        · exact .inl hz
        · exact .inr (by simpa using hz)
      generalize l[m] = y at *
      simp only [Int.toNat_natCast]
      rw [w64 (n := (m : Int) + 1) (by omega) (by omega)]
      refine ⟨by omega, by omega, q, hqa, _, h.rdR 4 rfl hqa hget rfl, _, h.rdR 4 rfl hqa hget rfl, _, h.rdR 4 rfl hqa hget rfl, _, h.rdR 4 rfl hqa hget rfl, _, h.rdR 4 rfl hqa hget rfl, _, h.rdR 4 rfl hqa hget rfl, _, h.rdR 4 rfl hqa hget rfl, _, h.rdR 4 rfl hqa hget rfl, _, h.rdR 4 rfl hqa hget rfl, _, h.rdR 4 rfl hqa hget rfl, ?_⟩
      refine h.alloc (fun w172 h e172 n172 => ?_)
      refine h.put 0 rfl rfl rfl (fun w173 h n173 => ?_)
      refine ⟨_, h.cell 0 rfl rfl, _, h.cell 3 rfl rfl, ?_⟩
      refine JoinW.cut1 (fun (c : Bool) w' => c = !(y.Parent == x.Id && meant x to_ y) ∧ SH w0 w' (BX w160.heap.size y :: BP pb (q.add (i * 10)) :: aB rb ((rs3 0 0 0).map Ce.v) :: BO ob k id to_ n :: BS b t :: RP t l :: F)) ?_ ?_
      · refine BIf.ne (fun hne => ⟨?_, h⟩) (fun heq => ?_)
        · rw [show (y.Parent == x.Id) = false by rw [hxid]; simpa using hne]; rfl
        · refine ⟨_, h.cell 0 rfl rfl, _, h.cell 0 rfl rfl, _, h.cell 0 rfl rfl, _, h.cell 0 rfl rfl, _, h.cell 0 rfl rfl, _, h.cell 0 rfl rfl, _, h.cell 0 rfl rfl, _, h.cell 0 rfl rfl, _, h.cell 0 rfl rfl, _, h.cell 0 rfl rfl, (c137 (y := y) (me := x) (h.cellP 3 rfl rfl) (h.cell 1 rfl rfl) (h.rdR 5 rfl hqa g2 rfl)).mono ?_⟩
          rintro _ w200 ⟨rfl, e200⟩
          refine ⟨_, rfl, ?_, h.to e200⟩
          rw [show (y.Parent == x.Id) = true by rw [hxid]; simpa using heq]; rfl
      clear h
      rintro (c : Bool) w178 ⟨rfl, h⟩
      refine BIf.not (BIf.of (fun hyes => ?_) (fun hno => ?_))
      · refine ⟨_, h.cell 0 rfl rfl, BIf.eq (fun hst => ?_) (fun hst => ?_)⟩
        · have hres : waitR l x to_ = (l.filter (fun u => u.Id != y.Id), 0, y.Id, y.Status) := by
            unfold waitR
            have hf : l.find? (fun x_1 => x_1.Parent == x.Id && meant x to_ x_1 && x_1.State == 3) = some y := by
              rw [← List.take_append_drop m l, List.find?_append, List.find?_eq_none.2 (fun z hz => by rw [hall z hz]; decide), List.drop_eq_getElem_cons (by omega : m < l.length)]
              have : l[m] = y := (List.getElem?_eq_some_iff.1 hget).2
              rw [this, Option.none_or, List.find?_cons_of_pos]
              rw [hyes, hst]; rfl
            rw [hf]
          rw [hres] at hstep
          refine ⟨_, h.cell 0 rfl rfl, (s139 (id := y.Id) ((h.front (n := 5) rfl).front (n := 5) rfl) (by omega)).mono ?_⟩
          rintro _ w182 ⟨rfl, t2, h⟩
          refine ⟨rfl, _, h.cell 2 rfl rfl, _, h.cell 2 rfl rfl, ?_⟩
          rw [hstep]
          exact retV3 h 4 rfl rfl (fun w2 h => ⟨rfl, t2, ((((h.dropAt 5).dropAt 4).dropAt 3).dropAt 2)⟩)
        · refine hJ _ _ _ ⟨m + 1, by omega, by omega, by rw [hstp, hyes, Bool.or_true], fun z hz => ?_, h.drop⟩ (by omega)
          rcases hmem z hz with hz | rfl
          · exact hall z hz
          · rw [hyes]; simpa using hst
      · refine hJ _ _ _ ⟨m + 1, by omega, by omega, by rw [hstp, hno, Bool.or_false], fun z hz => ?_, h.drop⟩ (by omega)
        rcases hmem z hz with hz | rfl
        · exact hall z hz
        · rw [hno]; rfl
    · have hmm : m = l.length := by omega
      subst hmm
      simp only [List.take_length] at *
      have hres : waitR l x to_ = if l.any (fun y => y.Parent == x.Id && meant x to_ y) = true then (l, 9, 0, 0) else (l, 11, 0, 0) := by
        unfold waitR
        rw [List.find?_eq_none.2 (fun z hz => by rw [hall z hz]; decide)]
      rw [hres] at hstep
      refine BIf.not (BIf.of (fun ht => ?_) (fun hf => ?_))
      · rw [if_pos ht] at hstep
        rw [hstep]
        exact retE h 1 rfl rfl (fun w2 h => ⟨rfl, t, (((h.dropAt 2).dropAt 1).dropAt 0)⟩)
      · rw [if_neg (by rw [hf]; decide)] at hstep
        rw [hstep]
        exact retE h 1 rfl rfl (fun w2 h => ⟨rfl, t, (((h.dropAt 2).dropAt 1).dropAt 0)⟩)
  rw [if_neg hk3] at hstep
  refine BIf.eq (fun hk => ?_) (fun hk4 => ?_)
  · -- kill
    rw [if_pos hk] at hstep
    refine ⟨_, h.cell 2 rfl rfl, ?_⟩
    refine join_or_ex _ (h.cell 2 rfl rfl) ?_
    refine BIf.of (fun hb => ?_) (fun hb => ?_)
    · simp only [Bool.or_eq_true, decide_eq_true_eq] at hb
      have hres : killR l x to_ n = (l, 1, 0, 0) := by unfold killR; rw [if_pos hb]
      rw [hres] at hstep
      rw [hstep]
      exact retE h 1 rfl rfl (fun w2 h => ⟨rfl, t, (((h.dropAt 2).dropAt 1).dropAt 0)⟩)
    simp only [Bool.or_eq_false_iff, decide_eq_false_iff_not] at hb
    have hb : ¬ (n < 0 ∨ n > 15) := by omega
    obtain ⟨sg, rfl⟩ := Int.eq_ofNat_of_zero_le (show 0 ≤ n by omega)
    refine ⟨_, rfl, t, h.cellP 3 rfl rfl, ?_⟩
    have h : SH w0 w21 (aRow ⟨none, 0, 0⟩ 1 (recs intC (((l.take 0).filter (hit x to_)).map DProc.Id)) :: BP pb (q.add (i * 10)) :: aB rb ((rs3 0 0 0).map Ce.v) :: BO ob k id to_ sg :: BS b t :: RP t l :: F) := SH.nil h none 1
    refine LoopW.m3 (fun (b3 : Bool) (s : Sl) (i' : Int) w' => ∃ m : Nat, i' = m ∧ m ≤ l.length ∧ b3 = (l.take m).any (aimed x to_) ∧ SH w0 w' (aRow s 1 (recs intC (((l.take m).filter (hit x to_)).map DProc.Id)) :: BP pb (q.add (i * 10)) :: aB rb ((rs3 0 0 0).map Ce.v) :: BO ob k id to_ sg :: BS b t :: RP t l :: F)) (fun _ _ (i' : Int) _ => (l.length - i').toNat) ⟨0, rfl, by omega, rfl, h⟩ ?_
    clear h
    rintro (b3 : Bool) (s : Sl) (i' : Int) w239 ⟨m, rfl, hm, rfl, h⟩ J hJ
    refine BIf.dec (fun hlt => ?_) (fun hge => ?_)
    · have hget : l[m]? = some l[m] := List.getElem?_eq_getElem (by omega)
      have hstp := any_step (aimed x to_) hget
      have hfs := filter_step (hit x to_) hget
      have hcl : ((l.take m).filter (hit x to_)).length ≤ 32 := by
        have := List.length_filter_le (hit x to_) (l.take m)
        rw [List.length_take] at this
        omega
      generalize l[m] = y at *
      simp only [Int.toNat_natCast]
      rw [w64 (n := (m : Int) + 1) (by omega) (by omega)]
      refine ⟨by omega, by omega, q, hqa, _, h.rdR 5 rfl hqa hget rfl, _, h.rdR 5 rfl hqa hget rfl, _, h.rdR 5 rfl hqa hget rfl, _, h.rdR 5 rfl hqa hget rfl, _, h.rdR 5 rfl hqa hget rfl, _, h.rdR 5 rfl hqa hget rfl, _, h.rdR 5 rfl hqa hget rfl, _, h.rdR 5 rfl hqa hget rfl, _, h.rdR 5 rfl hqa hget rfl, _, h.rdR 5 rfl hqa hget rfl, ?_⟩
      refine h.alloc (fun w251 h e251 n251 => ?_)
      refine h.put 0 rfl rfl rfl (fun w252 h n252 => ?_)
      refine ⟨_, h.cell 0 rfl rfl, _, h.cell 0 rfl rfl, _, h.cell 0 rfl rfl, _, h.cell 0 rfl rfl, _, h.cell 0 rfl rfl, _, h.cell 0 rfl rfl, _, h.cell 0 rfl rfl, _, h.cell 0 rfl rfl, _, h.cell 0 rfl rfl, _, h.cell 0 rfl rfl, (c137 (y := y) (me := x) (h.cellP 4 rfl rfl) (h.cell 2 rfl rfl) (h.rdR 6 rfl hqa g2 rfl)).mono ?_⟩
      rintro _ w264 ⟨rfl, e264⟩
      have h := h.to e264
      refine ⟨_, rfl, JoinW.cut1 (fun (c : Bool) w' => c = !(aimed x to_ y) ∧ w' = w264) ?_ ?_⟩
      · unfold aimed
        refine BIf.not (BIf.of (fun hmt => ⟨_, h.cell 4 rfl rfl, BIf.of (fun hm1 => ?_) (fun hm1 => ?_)⟩) (fun hmt => ⟨?_, rfl⟩))
        · rw [hmt, hm1, hxid]
          refine ⟨_, h.cell 0 rfl rfl, BIf.of (fun hi1 => ?_) (fun hi1 => ⟨_, h.cell 0 rfl rfl, _, h.cell 4 rfl rfl, ?_, rfl⟩)⟩
          · rw [hi1]; exact ⟨rfl, rfl⟩
          · rw [hi1]; simp
        · rw [hmt, hm1]; exact ⟨rfl, rfl⟩
        · rw [hmt]; rfl
      rintro (c : Bool) w268 ⟨rfl, rfl⟩
      refine BIf.not (BIf.of (fun ha => ?_) (fun ha => ?_))
      · rw [ha, Bool.or_true] at hstp
        have h := h.drew
        refine JoinW.cut1 (fun (c : Bool) w' => c = mayK x y ∧ w' = w268.drew) ?_ ?_
        · unfold mayK
          refine ⟨_, h.cell 2 rfl rfl, _, rfl, _, h.rdR 6 rfl hqa g2 rfl, BIf.of (fun hu => ⟨?_, rfl⟩) (fun hu => ⟨_, h.cell 2 rfl rfl, _, rfl, _, h.rdR 6 rfl hqa g2 rfl, _, h.cell 0 rfl rfl, ?_, rfl⟩)⟩
          · rw [hu]; rfl
          · rw [hu]; rfl
        rintro (c4 : Bool) w271 ⟨rfl, rfl⟩
        refine BIf.of (fun hk => ?_) (fun hk => ?_)
        · have hh : hit x to_ y = true := by unfold hit; rw [ha, hk]; rfl
          rw [if_pos hh] at hfs
          refine ⟨_, h.cell 0 rfl rfl, ?_⟩
          refine LetW_iff.2 (SH.appendR1 (f := intC) (x := y.Id) h.drop rfl rfl rfl (by decide) (by show _ * 8 ≤ _; rw [List.length_map]; omega) (plain_int _) (fun l274 w275 h hl274 _ => ?_))
          refine hJ _ _ _ _ ⟨m + 1, by omega, by omega, hstp.symm, ?_⟩ (by omega)
          rw [hfs, List.map_append]
          exact h
        · have hh : ¬ hit x to_ y = true := by unfold hit; rw [hk]; simp
          rw [if_neg hh, List.append_nil] at hfs
          exact hJ _ _ _ _ ⟨m + 1, by omega, by omega, hstp.symm, by rw [hfs]; exact h.drop⟩ (by omega)
      · have hh : ¬ hit x to_ y = true := by unfold hit; rw [ha]; simp
        rw [if_neg hh, List.append_nil] at hfs
        exact hJ _ _ _ _ ⟨m + 1, by omega, by omega, by rw [hstp, ha, Bool.or_false], by rw [hfs]; exact h.drop⟩ (by omega)
    · have hmm : m = l.length := by omega
      subst hmm
      clear hJ J
      simp only [List.take_length] at *
      have hsl := h.len 0 rfl
      rw [recs_len, List.length_map] at hsl
      have hcl := List.length_filter_le (hit x to_) l
      unfold killR at hstep
      rw [if_neg hb] at hstep
      refine BIf.not (BIf.of (fun ha => ?_) (fun ha => ?_))
      · rw [if_neg (show ¬ l.any (aimed x to_) = false by rw [ha]; decide)] at hstep
        refine BIf.eq (fun h0 => ?_) (fun h0 => ?_)
        · rw [if_pos (by omega)] at hstep
          rw [hstep]
          exact retE h 2 rfl rfl (fun w2 h => ⟨rfl, t, ((((h.dropAt 3).dropAt 2).dropAt 1).dropAt 0)⟩)
        · rw [if_neg (by omega)] at hstep
          have hidl : ((l.filter (hit x to_)).map DProc.Id).length ≤ 32 := by rw [List.length_map]; omega
          refine JoinW.cut0 (fun w' => SH w0 w' (BS b t :: RP t (if (sg : Int) > 0 then l.map (killX x to_ sg) else l) :: aRow s 1 (recs intC ((l.filter (hit x to_)).map DProc.Id)) :: BP pb (q.add (i * 10)) :: aB rb ((rs3 0 0 0).map Ce.v) :: BO ob k id to_ sg :: F)) ?_ ?_
          · have h : SH w0 w239 (BS b t :: RP t l :: aRow s 1 (recs intC ((l.filter (hit x to_)).map DProc.Id)) :: BP pb (q.add (i * 10)) :: aB rb ((rs3 0 0 0).map Ce.v) :: BO ob k id to_ sg :: F) := (h.front (n := 5) rfl).front (n := 5) rfl
            refine ⟨_, h.cell 5 rfl rfl, BIf.dec (fun hp => ?_) (fun hp => ?_)⟩
            · rw [if_pos hp]
              have h : SH w0 w239 (BS b t :: RP t (sendS sg (((l.filter (hit x to_)).map DProc.Id).take 0) l) :: aRow s 1 (recs intC ((l.filter (hit x to_)).map DProc.Id)) :: BP pb (q.add (i * 10)) :: aB rb ((rs3 0 0 0).map Ce.v) :: BO ob k id to_ sg :: F) := by
                rw [List.take_zero, sendS_nil]; exact h
              refine LoopW.m1 (fun (i' : Int) w' => ∃ m : Nat, i' = m ∧ m ≤ ((l.filter (hit x to_)).map DProc.Id).length ∧ SH w0 w' (BS b t :: RP t (sendS sg (((l.filter (hit x to_)).map DProc.Id).take m) l) :: aRow s 1 (recs intC ((l.filter (hit x to_)).map DProc.Id)) :: BP pb (q.add (i * 10)) :: aB rb ((rs3 0 0 0).map Ce.v) :: BO ob k id to_ sg :: F)) (fun (i' : Int) _ => (((l.filter (hit x to_)).map DProc.Id).length - i').toNat) ⟨0, rfl, by omega, h⟩ ?_
              clear h
              rintro (i' : Int) w311 ⟨m, rfl, hm2, h⟩ J hJ
              refine BIf.dec (fun hlt => ?_) (fun hge => ?_)
              · have hml : m < ((l.filter (hit x to_)).map DProc.Id).length := by rw [List.length_map]; omega
                have hget : ((l.filter (hit x to_)).map DProc.Id)[m]? = some ((l.filter (hit x to_)).map DProc.Id)[m] := List.getElem?_eq_getElem hml
                obtain ⟨r', hra⟩ := h.rowQ 2 rfl hget
                have htk : ((l.filter (hit x to_)).map DProc.Id).take (m + 1) = ((l.filter (hit x to_)).map DProc.Id).take m ++ [((l.filter (hit x to_)).map DProc.Id)[m]] := by rw [List.take_add_one, hget]; rfl
                have hnot : ((l.filter (hit x to_)).map DProc.Id)[m] ∉ ((l.filter (hit x to_)).map DProc.Id).take m := fun hmem => by
                  obtain ⟨j, hj⟩ := List.getElem?_of_mem hmem
                  have hjm : j < m := by have := (List.getElem?_eq_some_iff.1 hj).1; rw [List.length_take] at this; omega
                  rw [List.getElem?_take_of_lt hjm] at hj
                  obtain ⟨hj1, hj2⟩ := List.getElem?_eq_some_iff.1 hj
                  exact List.pairwise_iff_getElem.1 (hits_nodup hv (hit x to_)) j m hj1 hml hjm hj2
                have hzin : ∃ z, z ∈ l ∧ z.Id = ((l.filter (hit x to_)).map DProc.Id)[m] := by
                  obtain ⟨z, hz, he⟩ := List.mem_map.1 (List.mem_of_getElem? hget)
                  exact ⟨z, (List.mem_filter.1 hz).1, he⟩
                have hgr := h.rdR 2 rfl hra hget rfl (j := 0)
                generalize ((l.filter (hit x to_)).map DProc.Id)[m] = zid at *
                obtain ⟨z, hzl, hzid⟩ := hzin
                obtain ⟨j, hj⟩ := List.getElem?_of_mem hzl
                rw [← hzid] at hnot htk
                obtain ⟨hs1, hs2⟩ := sendS_step hv (sg := sg) hj hnot
                have hsinv := sendS_sim hv (sg := sg) (by omega) (by omega) (((l.filter (hit x to_)).map DProc.Id).take m)
                have hslen : (sendS sg (((l.filter (hit x to_)).map DProc.Id).take m) l).length = l.length := by unfold sendS; rw [List.length_map]
                simp only [Int.toNat_natCast]
                rw [w64 (n := (m : Int) + 1) (by omega) (by omega)]
                refine ⟨by omega, by omega, r', hra, _, hgr, _, h.cell 5 rfl rfl, ?_⟩
                have key := s140 (sig := sg) h hs1 (hsinv.ix hs1).1 (hv.ok z hzl) (by omega) (by omega) (by omega)
                rw [hzid] at key
                refine key.mono ?_
                rintro _ w316 ⟨rfl, h⟩
                rw [hs2, ← htk] at h
                exact ⟨rfl, hJ _ _ ⟨m + 1, by omega, by omega, h⟩ (by omega)⟩
              · rw [List.take_of_length_le (by rw [List.length_map] at *; omega), sendS_all hv hp] at h
                exact h
            · rw [if_neg hp]
              exact h
          · clear h
            intro w306 h
            refine h.setV 4 rfl rfl (fun w307 h n307 => ⟨t, ?_⟩)
            have hfin : r = ((if (sg : Int) > 0 then l.map (killX x to_ sg) else l, 0, (((l.filter (hit x to_)).length : Nat) : Int), 0) : PRes) := by
              rw [hstep]
              by_cases hp : (sg : Int) > 0
              · rw [if_pos hp, if_pos hp]
                congr 1
                refine List.map_congr_left (fun y hy => ?_)
                unfold killX
                by_cases h4 : hit x to_ y = true
                · rw [if_pos h4, if_pos ⟨hp, h4⟩]
                · rw [if_neg h4, if_neg (fun hh => h4 hh.2)]
              · rw [if_neg hp, if_neg hp]
            rw [hfin]
            rw [hsl] at h
            exact (((h.dropAt 5).dropAt 3).dropAt 2).front (n := 2) rfl
      · rw [if_pos ha] at hstep
        rw [hstep]
        exact retE h 2 rfl rfl (fun w2 h => ⟨rfl, t, ((((h.dropAt 3).dropAt 2).dropAt 1).dropAt 0)⟩)
  rw [if_neg hk4] at hstep
  refine BIf.eq (fun hk => ?_) (fun hk5 => ?_)
  · -- mask
    rw [if_pos hk] at hstep
    unfold maskR at hstep
    refine ⟨_, h.cell 2 rfl rfl, BIf.ne (fun hne => ?_) (fun heq => ?_)⟩
    · rw [if_neg (fun hh => hne ((vs_mask hto.1 hto.2).2 hh))] at hstep
      rw [hstep]
      exact retE h 1 rfl rfl (fun w2 h => ⟨rfl, t, (((h.dropAt 2).dropAt 1).dropAt 0)⟩)
    · have hvs := (vs_mask hto.1 hto.2).1 heq
      rw [if_pos hvs] at hstep
      refine ⟨_, h.cell 0 rfl rfl, _, rfl, _, h.rdR 4 rfl hqa g2 rfl, ?_⟩
      refine h.setV 1 rfl rfl (fun w331 h n331 => ⟨_, h.cell 0 rfl rfl, _, h.cell 2 rfl rfl, _, rfl, ?_⟩)
      rw [set_at g2] at h
      refine h.setR 4 (⟨x.Id, x.Parent, x.Group, x.User, x.State, x.Status, x.Pending, lessS (lessS to_ 9) 12, x.Ignored, x.Caught⟩ : DProc) rfl hqa hil (by show 7 < 10; omega) (by rw [mask_hard hvs]; rfl) (fun w335 h n335 => ⟨t, ?_⟩)
      rw [hstep]
      exact ((h.dropAt 2).dropAt 0)
  rw [if_neg hk5] at hstep
  refine BIf.eq (fun hk => ?_) (fun hk6 => ?_)
  · -- action
    rw [if_pos hk] at hstep
    refine ⟨_, h.cell 2 rfl rfl, ?_⟩
    refine join_or_ex _ (h.cell 2 rfl rfl) ?_
    refine join_or_ex _ (h.cell 2 rfl rfl) ?_
    refine join_or_ex _ (h.cell 2 rfl rfl) ?_
    refine join_or_ex _ (h.cell 2 rfl rfl) ?_
    refine join_or_ex _ (h.cell 2 rfl rfl) ?_
    refine BIf.of (fun hb => ?_) (fun hb => ?_)
    · simp only [Bool.or_eq_true, decide_eq_true_eq, beq_iff_eq] at hb
      have hres : actR l i x to_ n = (l, 1, 0, 0) := by unfold actR; rw [if_pos (by omega)]
      rw [hres] at hstep
      rw [hstep]
      exact retE h 1 rfl rfl (fun w2 h => ⟨rfl, t, (((h.dropAt 2).dropAt 1).dropAt 0)⟩)
    simp only [Bool.or_eq_false_iff, decide_eq_false_iff_not, beq_eq_false_iff_ne] at hb
    obtain ⟨sg, rfl⟩ := Int.eq_ofNat_of_zero_le (show 0 ≤ to_ by omega)
    have hres : actR l i x sg n = (l.set i (actX x sg n), 0, 0, 0) := by unfold actR; rw [if_neg (by omega), Int.toNat_natCast]
    rw [hres] at hstep
    have i0 := VS.small ho.ign.1
    have c0 := VS.small ho.cau.1
    have p0 := VS.small ho.pend
    have i1 := (SS.less ho.ign (i := sg) (by omega)).1
    have c1 := (SS.less ho.cau (i := sg) (by omega)).1
    refine ⟨_, h.cell 2 rfl rfl, by omega, _, h.cell 0 rfl rfl, _, rfl, _, h.rdR 4 rfl hqa g2 rfl, _, rfl, ?_⟩
    rw [shlI_one (by omega)]
    rw [set_at g2] at h
    refine h.setR 4 (⟨x.Id, x.Parent, x.Group, x.User, x.State, x.Status, x.Pending, x.Mask, lessS x.Ignored sg, x.Caught⟩ : DProc) rfl hqa hil (by show 8 < 10; omega) (by rw [less_bit i0.1 i0.2 (by omega)]; rfl) (fun w366 h n366 => ?_)
    have hx2 : (l.set i (⟨x.Id, x.Parent, x.Group, x.User, x.State, x.Status, x.Pending, x.Mask, lessS x.Ignored sg, x.Caught⟩ : DProc))[i]? = some ⟨x.Id, x.Parent, x.Group, x.User, x.State, x.Status, x.Pending, x.Mask, lessS x.Ignored sg, x.Caught⟩ := List.getElem?_set_self hil
    refine ⟨_, h.cell 0 rfl rfl, _, rfl, _, h.rdR 4 rfl hqa hx2 rfl, _, rfl, ?_⟩
    refine h.setR 4 (⟨x.Id, x.Parent, x.Group, x.User, x.State, x.Status, x.Pending, x.Mask, lessS x.Ignored sg, lessS x.Caught sg⟩ : DProc) rfl hqa hil (by show 9 < 10; omega) (by rw [less_bit c0.1 c0.2 (by omega)]; rfl) (fun w371 h n371 => ?_)
    have hx3 : (l.set i (⟨x.Id, x.Parent, x.Group, x.User, x.State, x.Status, x.Pending, x.Mask, lessS x.Ignored sg, lessS x.Caught sg⟩ : DProc))[i]? = some ⟨x.Id, x.Parent, x.Group, x.User, x.State, x.Status, x.Pending, x.Mask, lessS x.Ignored sg, lessS x.Caught sg⟩ := List.getElem?_set_self hil
    refine ⟨_, h.cell 2 rfl rfl, BIf.eq (fun h1 => ?_) (fun h1 => ?_)⟩
    · have he : actX x sg n = ⟨x.Id, x.Parent, x.Group, x.User, x.State, x.Status, lessS x.Pending sg, x.Mask, withS (lessS x.Ignored sg) sg, lessS x.Caught sg⟩ := by unfold actX; rw [if_pos h1, if_pos h1, if_neg (show ¬ n = 2 by omega)]
      rw [he] at hstep
      refine ⟨_, h.cell 0 rfl rfl, _, rfl, _, h.rdR 4 rfl hqa hx3 rfl, _, rfl, ?_⟩
      refine h.setR 4 (⟨x.Id, x.Parent, x.Group, x.User, x.State, x.Status, x.Pending, x.Mask, withS (lessS x.Ignored sg) sg, lessS x.Caught sg⟩ : DProc) rfl hqa hil (by show 8 < 10; omega) (by rw [with_bit i1.1 (by have := i1.2.1; omega) (by omega)]; rfl) (fun w377 h n377 => ?_)
      have hx4 : (l.set i (⟨x.Id, x.Parent, x.Group, x.User, x.State, x.Status, x.Pending, x.Mask, withS (lessS x.Ignored sg) sg, lessS x.Caught sg⟩ : DProc))[i]? = some ⟨x.Id, x.Parent, x.Group, x.User, x.State, x.Status, x.Pending, x.Mask, withS (lessS x.Ignored sg) sg, lessS x.Caught sg⟩ := List.getElem?_set_self hil
      refine ⟨_, h.cell 0 rfl rfl, _, rfl, _, h.rdR 4 rfl hqa hx4 rfl, _, rfl, ?_⟩
      refine h.setR 4 (⟨x.Id, x.Parent, x.Group, x.User, x.State, x.Status, lessS x.Pending sg, x.Mask, withS (lessS x.Ignored sg) sg, lessS x.Caught sg⟩ : DProc) rfl hqa hil (by show 6 < 10; omega) (by rw [less_bit p0.1 p0.2 (by omega)]; rfl) (fun w382 h n382 => ⟨t, ?_⟩)
      rw [hstep]
      exact ((h.dropAt 2).dropAt 0)
    · refine BIf.eq (fun h2 => ?_) (fun h2 => ?_)
      · have he : actX x sg n = ⟨x.Id, x.Parent, x.Group, x.User, x.State, x.Status, x.Pending, x.Mask, lessS x.Ignored sg, withS (lessS x.Caught sg) sg⟩ := by unfold actX; rw [if_neg h1, if_neg h1, if_pos h2]
        rw [he] at hstep
        refine ⟨_, h.cell 0 rfl rfl, _, rfl, _, h.rdR 4 rfl hqa hx3 rfl, _, rfl, ?_⟩
        refine h.setR 4 (⟨x.Id, x.Parent, x.Group, x.User, x.State, x.Status, x.Pending, x.Mask, lessS x.Ignored sg, withS (lessS x.Caught sg) sg⟩ : DProc) rfl hqa hil (by show 9 < 10; omega) (by rw [with_bit c1.1 (by have := c1.2.1; omega) (by omega)]; rfl) (fun w387 h n387 => ⟨t, ?_⟩)
        rw [hstep]
        exact ((h.dropAt 2).dropAt 0)
      · have he : actX x sg n = ⟨x.Id, x.Parent, x.Group, x.User, x.State, x.Status, x.Pending, x.Mask, lessS x.Ignored sg, lessS x.Caught sg⟩ := by unfold actX; rw [if_neg h1, if_neg h1, if_neg h2]
        rw [he] at hstep
        refine ⟨t, ?_⟩
        rw [hstep]
        exact ((h.dropAt 2).dropAt 0)
  rw [if_neg hk6] at hstep
  refine BIf.eq (fun hk => ?_) (fun hk7 => ?_)
  · -- take
    rw [if_pos hk] at hstep
    have hp := VS.small ho.pend
    have hmk := VS.small ho.mask.1
    have hcu := VS.small ho.cau.1
    obtain ⟨s1, s2⟩ := sigOf_le x
    have hz0 := takeS_zero ho
    have h9 := takeS_nine ho
    have hr := takeS_bits ho
    have h := h.drew
    refine ⟨_, h.cell 0 rfl rfl, _, rfl, _, h.rdR 4 rfl hqa g2 rfl, _, h.cell 0 rfl rfl, _, rfl, _, h.rdR 4 rfl hqa g2 rfl, ?_⟩
    refine JoinW.cut1 (fun (g : Int) w' => g = takeS x ∧ w' = w21.drew) ?_ ?_
    · unfold takeS
      refine ⟨_, h.cell 0 rfl rfl, _, rfl, _, h.rdR 4 rfl hqa g2 rfl, BIf.eq (fun h2 => ?_) (fun h2 => ?_)⟩
      · rw [if_pos h2]; exact ⟨rfl, rfl⟩
      · rw [if_neg h2]; exact ⟨rfl, rfl⟩
    rintro (g : Int) w401 ⟨rfl, rfl⟩
    have htr : 0 ≤ takeS x ∧ takeS x ≤ 65535 := (hr 0).2
    unfold takeR at hstep
    refine BIf.eq (fun h0 => ?_) (fun h0 => ?_)
    · rw [if_pos (hz0.1 h0)] at hstep
      rw [hstep]
      exact retE h 1 rfl rfl (fun w2 h => ⟨rfl, t, (((h.dropAt 2).dropAt 1).dropAt 0)⟩)
    have hs0 : ¬ sigOf x = 0 := fun e => h0 (hz0.2 e)
    rw [if_neg hs0] at hstep
    refine JoinW.cut1 (fun (g : Int) w' => g = (sigOf x : Nat) ∧ w' = w21.drew) ?_ ?_
    · refine ⟨by decide, ?_⟩
      rw [show (9 : Int) = ((9 : Nat) : Int) from rfl, has_one htr.1 (by omega) (by omega), h9]
      rcases h9p : hasS x.Pending 9 with _ | _
      · refine BIf.t rfl ?_
        have hne2 : ¬ x.State = 2 := fun e => by
          refine hs0 ?_
          unfold sigOf
          rw [if_neg (by rw [h9p]; decide), if_pos e]
        have hsig : sigOf x = leastS x 15 1 := by
          unfold sigOf
          rw [if_neg (by rw [h9p]; decide), if_neg hne2]
        refine LoopW.m1 (fun (i' : Int) w' => ∃ m : Nat, i' = m ∧ 1 ≤ m ∧ m ≤ 16 ∧ leastS x (16 - m) m = sigOf x ∧ w' = w21.drew) (fun (i' : Int) _ => (16 - i').toNat) ⟨1, rfl, by omega, by omega, hsig.symm, rfl⟩ ?_
        rintro (i' : Int) w442 ⟨m, rfl, hm1, hm2, hle, rfl⟩ J hJ
        have hm3 : m ≠ 16 := fun e => by subst e; exact hs0 hle.symm
        rw [has_one htr.1 (by omega) (by omega), (hr m).1, show (x.State != 2) = true by simpa using hne2, Bool.true_or, Bool.and_true]
        rw [show 16 - m = (16 - (m + 1)) + 1 by omega] at hle
        unfold leastS at hle
        refine ⟨by omega, ?_⟩
        rcases hpm : (hasS x.Pending m && !hasS x.Mask m) with _ | _
        · rw [if_neg (fun hh => by rw [hh.1, hh.2] at hpm; cases hpm)] at hle
          refine BIf.t rfl ?_
          rw [w64 (by omega) (by omega)]
          exact hJ _ _ ⟨m + 1, by omega, by omega, by omega, hle, rfl⟩ (by omega)
        · rw [Bool.and_eq_true] at hpm
          rw [if_pos ⟨hpm.1, by simpa using hpm.2⟩] at hle
          exact BIf.f rfl ⟨by rw [hle], rfl⟩
      · refine BIf.f rfl ⟨?_, rfl⟩
        unfold sigOf
        rw [if_pos h9p]
    rintro (g : Int) w413 ⟨rfl, rfl⟩
    have h := h.drew
    have hl1 : VS (lessS x.Pending (sigOf x)) := VS.less ho.pend (by omega)
    generalize sigOf x = sg at *
    refine ⟨_, h.cell 0 rfl rfl, _, rfl, _, h.rdR 4 rfl hqa g2 rfl, by omega, _, rfl, ?_⟩
    rw [shlI_one (by omega)]
    rw [set_at g2] at h
    refine h.setR 4 (⟨x.Id, x.Parent, x.Group, x.User, x.State, x.Status, lessS x.Pending sg, x.Mask, x.Ignored, x.Caught⟩ : DProc) rfl hqa hil (by show 6 < 10; omega) (by rw [less_bit hp.1 hp.2 (by omega)]; rfl) (fun w418 h n418 => ?_)
    have hx2 : (l.set i (⟨x.Id, x.Parent, x.Group, x.User, x.State, x.Status, lessS x.Pending sg, x.Mask, x.Ignored, x.Caught⟩ : DProc))[i]? = some ⟨x.Id, x.Parent, x.Group, x.User, x.State, x.Status, lessS x.Pending sg, x.Mask, x.Ignored, x.Caught⟩ := List.getElem?_set_self hil
    refine h.setV 1 rfl rfl (fun w419 h n419 => ?_)
    refine h.setV 1 rfl rfl (fun w420 h n420 => ?_)
    refine ⟨_, h.cell 0 rfl rfl, _, rfl, _, h.rdR 4 rfl hqa hx2 rfl, by omega, ?_⟩
    rw [has_one hcu.1 hcu.2 (by omega)]
    rcases hc : hasS x.Caught sg with _ | _
    · rw [if_neg (show ¬ hasS x.Caught sg = true by rw [hc]; decide)] at hstep
      refine BIf.f rfl ?_
      refine JoinW.cut1 (fun (c : Bool) w' => c = decide (sg = 14 ∨ sg = 13) ∧ w' = w420) ?_ ?_
      · refine BIf.eq (fun h14 => ⟨(decide_eq_true (.inl (by omega))).symm, rfl⟩) (fun h14 => ⟨?_, rfl⟩)
        show decide _ = _
        rw [decide_eq_decide]; omega
      rintro (c : Bool) w432 ⟨rfl, rfl⟩
      refine BIf.dec (fun h134 => ?_) (fun h134 => ?_)
      · rw [if_neg (show ¬ sg = 12 by omega), if_pos (show sg = 14 ∨ sg = 13 ∨ x.Id = 1 by omega)] at hstep
        refine ⟨t, ?_⟩
        rw [hstep]
        exact ((h.dropAt 2).dropAt 0)
      refine BIf.eq (fun h12 => ?_) (fun h12 => ?_)
      · obtain rfl : sg = 12 := by omega
        rw [if_pos rfl] at hstep
        refine ⟨_, h.cell 0 rfl rfl, _, rfl, ?_⟩
        refine h.setR 4 (⟨x.Id, x.Parent, x.Group, x.User, 2, x.Status, lessS x.Pending 12, x.Mask, x.Ignored, x.Caught⟩ : DProc) rfl hqa hil (by show 4 < 10; omega) rfl (fun w435 h n435 => ⟨t, ?_⟩)
        rw [hstep]
        exact ((h.dropAt 2).dropAt 0)
      rw [if_neg (show ¬ sg = 12 by omega)] at hstep
      refine ⟨_, h.cell 2 rfl rfl, BIf.ne (fun hi1 => ?_) (fun hi1 => ?_)⟩
      · rw [if_neg (show ¬ (sg = 14 ∨ sg = 13 ∨ x.Id = 1) by omega)] at hstep
        have hsim := hv.turn g2 hz ho.grp ho.usr (ho.alive hz) hl1 ho.mask ho.ign ho.cau ho.apart
        have hv1 := hv.sim hsim
        refine ⟨_, h.cell 2 rfl rfl, ?_⟩
        rw [w64 (n := 128 + (sg : Int)) (by omega) (by omega)]
        have key := s138 (status := 128 + (sg : Int)) ((h.front (n := 4) rfl).front (n := 4) rfl) hv1 hx2 (show x.Id ≠ 1 by omega) ⟨by omega, by omega⟩
        rw [show (⟨x.Id, x.Parent, x.Group, x.User, x.State, x.Status, lessS x.Pending sg, x.Mask, x.Ignored, x.Caught⟩ : DProc).Id = id from hxid] at key
        refine key.mono ?_
        rintro _ w439 ⟨rfl, t2, h⟩
        refine ⟨rfl, t2, ?_⟩
        rw [hxid] at hstep
        rw [hstep]
        exact (((h.dropAt 4).dropAt 2).front (n := 2) rfl)
      · rw [if_pos (show sg = 14 ∨ sg = 13 ∨ x.Id = 1 by omega)] at hstep
        refine ⟨t, ?_⟩
        rw [hstep]
        exact ((h.dropAt 2).dropAt 0)
    · rw [if_pos hc] at hstep
      refine BIf.t rfl ?_
      refine h.setV 1 rfl rfl (fun w424 h n424 => ?_)
      have h := h.drew
      refine ⟨_, h.cell 0 rfl rfl, _, rfl, _, h.rdR 4 rfl hqa hx2 rfl, by omega, _, rfl, ?_⟩
      refine h.setR 4 (⟨x.Id, x.Parent, x.Group, x.User, x.State, x.Status, lessS x.Pending sg, withS x.Mask sg, x.Ignored, x.Caught⟩ : DProc) rfl hqa hil (by show 7 < 10; omega) (by rw [with_bit hmk.1 hmk.2 (by omega)]; rfl) (fun w429 h n429 => ⟨t, ?_⟩)
      rw [hstep]
      exact ((h.dropAt 2).dropAt 0)
  rw [if_neg hk7] at hstep
  refine BIf.eq (fun hk => ?_) (fun hk8 => ?_)
  · -- group
    rw [if_pos hk] at hstep
    refine ⟨_, h.cell 2 rfl rfl, (c104 (h.cellP 3 rfl rfl) (qatOf h 4 rfl (by omega))).mono ?_⟩
    rintro _ w448 ⟨rfl, rfl⟩
    have h := h.drew
    refine ⟨_, rfl, ?_⟩
    unfold grpR at hstep
    rcases ixP_find l to_ with ⟨k1, k2⟩ | ⟨j, y, k1, k2, k3⟩
    · rw [k2] at hstep
      rw [k1, ptr_none]
      refine JoinW.each (BIf.t rfl (BIf.t rfl ?_))
      rw [hstep]
      exact retE h 1 rfl rfl (fun w2 h => ⟨rfl, t, (((h.dropAt 2).dropAt 1).dropAt 0)⟩)
    have hjl := (List.getElem?_eq_some_iff.1 k2).1
    have hyid := (prOf_some k3).2
    rw [k3] at hstep
    dsimp only at hstep
    rw [k1, Int.toNat_natCast] at hstep
    rw [k1, ptr_some hqa]
    refine JoinW.cut1 (fun (c : Bool) w' => (c = true ↔ (to_ ≠ id ∧ y.Parent ≠ id) ∨ y.State = 3) ∧ w' = w448.drew) ?_ ?_
    · refine BIf.f rfl ⟨_, rfl, _, h.rdR 4 rfl hqa k2 rfl, BIf.eq (fun h3 => ⟨iff_of_true rfl (.inr h3), rfl⟩) (fun h3 => ⟨_, rfl, _, h.rdR 4 rfl hqa k2 rfl, _, h.cell 2 rfl rfl, BIf.ne (fun hne => ⟨_, rfl, _, h.rdR 4 rfl hqa k2 rfl, _, h.cell 2 rfl rfl, ?_, rfl⟩) (fun heq => ⟨?_, rfl⟩)⟩)⟩
      · rw [bne_iff_ne]
        exact ⟨fun hh => .inl ⟨by omega, hh⟩, fun hh => hh.elim (fun e => e.2) (fun e => absurd e h3)⟩
      · exact ⟨(fun hh => nomatch hh), fun hh => hh.elim (fun e => absurd (show to_ = id by omega) e.1) (fun e => absurd e h3)⟩
    rintro (c : Bool) w452 ⟨hc, rfl⟩
    refine BIf.of (fun ht => ?_) (fun hf => ?_)
    · rw [if_pos (hc.1 ht)] at hstep
      rw [hstep]
      exact retE h 1 rfl rfl (fun w2 h => ⟨rfl, t, (((h.dropAt 2).dropAt 1).dropAt 0)⟩)
    rw [if_neg (fun hh => by rw [hc.2 hh] at hf; cases hf)] at hstep
    refine ⟨_, h.cell 2 rfl rfl, ?_⟩
    refine join_or_ex _ (h.cell 2 rfl rfl) ?_
    refine BIf.of (fun hb2 => ?_) (fun hb2 => ?_)
    · simp only [Bool.or_eq_true, decide_eq_true_eq] at hb2
      rw [if_pos hb2] at hstep
      rw [hstep]
      exact retE h 1 rfl rfl (fun w2 h => ⟨rfl, t, (((h.dropAt 2).dropAt 1).dropAt 0)⟩)
    simp only [Bool.or_eq_false_iff, decide_eq_false_iff_not] at hb2
    rw [if_neg (show ¬ (n < 1 ∨ n > 32) by omega)] at hstep
    refine ⟨_, h.cell 2 rfl rfl, _, h.cell 2 rfl rfl, _, rfl, t, h.cellP 3 rfl rfl, ?_⟩
    have hA : ∀ v, v = (n == to_) → v = (n == to_ || (l.take 0).any (fun z => z.Id != to_ && z.Group == n)) := fun v hv => by rw [hv]; simp
    refine LoopW.m2 (fun (b3 : Bool) (i' : Int) w' => ∃ m : Nat, i' = m ∧ m ≤ l.length ∧ b3 = (n == to_ || (l.take m).any (fun z => z.Id != to_ && z.Group == n)) ∧ SH w0 w' (BP pb (q.add (i * 10)) :: aB rb ((rs3 0 0 0).map Ce.v) :: BO ob k id to_ n :: BS b t :: RP t l :: F)) (fun _ (i' : Int) _ => (l.length - i').toNat) ⟨0, rfl, by omega, hA _ rfl, h⟩ ?_
    clear h
    rintro (b3 : Bool) (i' : Int) w482 ⟨m, rfl, hm, rfl, h⟩ J hJ
    refine BIf.dec (fun hlt => ?_) (fun hge => ?_)
    · have hget : l[m]? = some l[m] := List.getElem?_eq_getElem (by omega)
      have hstp := any_step (fun z : DProc => z.Id != to_ && z.Group == n) hget
      generalize l[m] = z at *
      simp only [Int.toNat_natCast]
      rw [w64 (n := (m : Int) + 1) (by omega) (by omega)]
      refine ⟨by omega, by omega, q, hqa, _, h.rdR 4 rfl hqa hget rfl, _, h.rdR 4 rfl hqa hget rfl, _, h.rdR 4 rfl hqa hget rfl, _, h.rdR 4 rfl hqa hget rfl, _, h.rdR 4 rfl hqa hget rfl, _, h.rdR 4 rfl hqa hget rfl, _, h.rdR 4 rfl hqa hget rfl, _, h.rdR 4 rfl hqa hget rfl, _, h.rdR 4 rfl hqa hget rfl, _, h.rdR 4 rfl hqa hget rfl, ?_⟩
      refine h.alloc (fun w494 h e494 n494 => ?_)
      refine h.put 0 rfl rfl rfl (fun w495 h n495 => ?_)
      refine JoinW.cut1 (fun (c : Bool) w' => c = (n == to_ || (l.take (m + 1)).any (fun z => z.Id != to_ && z.Group == n)) ∧ w' = w495) ?_ ?_
      · rw [hstp, ← Bool.or_assoc]
        refine BIf.of (fun ht => ⟨by rw [ht]; rfl, rfl⟩) (fun hf => ⟨_, h.cell 0 rfl rfl, _, h.cell 3 rfl rfl, BIf.of (fun h1 => ⟨_, h.cell 0 rfl rfl, _, h.cell 3 rfl rfl, ?_, rfl⟩) (fun h1 => ⟨?_, rfl⟩)⟩)
        · rw [hf, h1]; rfl
        · rw [hf, h1]; rfl
      · rintro (c : Bool) w498 ⟨hc, rfl⟩
        exact hJ _ _ _ ⟨m + 1, by omega, by omega, hc, h.drop⟩ (by omega)
    · have hmm : m = l.length := by omega
      subst hmm
      simp only [List.take_length] at *
      refine BIf.not (BIf.of (fun ht => ?_) (fun hf => ?_))
      · rw [if_pos (by simpa using ht)] at hstep
        refine ⟨_, h.cell 2 rfl rfl, _, rfl, ?_⟩
        rw [set_at k2] at h
        refine h.setR 4 (⟨y.Id, y.Parent, n, y.User, y.State, y.Status, y.Pending, y.Mask, y.Ignored, y.Caught⟩ : DProc) rfl hqa hjl (by show 2 < 10; omega) rfl (fun w514 h n514 => ⟨t, ?_⟩)
        rw [hstep]
        exact ((h.dropAt 2).dropAt 0)
      · rw [if_neg (by rw [Bool.or_eq_false_iff, beq_eq_false_iff_ne] at hf; rintro (e | e); exact hf.1 e; rw [hf.2] at e; cases e)] at hstep
        rw [hstep]
        exact retE h 1 rfl rfl (fun w2 h => ⟨rfl, t, (((h.dropAt 2).dropAt 1).dropAt 0)⟩)
  rw [if_neg hk8] at hstep
  refine BIf.t (by simp; omega) ?_
  unfold usrR at hstep
  refine ⟨_, h.cell 2 rfl rfl, ?_⟩
  refine join_or_ex _ (h.cell 2 rfl rfl) ?_
  refine BIf.of (fun hb => ?_) (fun hb => ?_)
  · simp only [Bool.or_eq_true, decide_eq_true_eq] at hb
    rw [if_pos hb] at hstep
    rw [hstep]
    exact retE h 1 rfl rfl (fun w2 h => ⟨rfl, t, (((h.dropAt 2).dropAt 1).dropAt 0)⟩)
  simp only [Bool.or_eq_false_iff, decide_eq_false_iff_not] at hb
  rw [if_neg (show ¬ (n < 0 ∨ n > 255) by omega)] at hstep
  have h := h.drew
  refine JoinW.cut1 (fun (c : Bool) w' => c = decide (x.User ≠ 0 ∧ x.User ≠ n) ∧ w' = w21.drew) ?_ ?_
  · refine ⟨_, h.cell 0 rfl rfl, _, rfl, _, h.rdR 4 rfl hqa g2 rfl, BIf.ne (fun hu => ⟨_, h.cell 0 rfl rfl, _, rfl, _, h.rdR 4 rfl hqa g2 rfl, _, h.cell 2 rfl rfl, ?_, rfl⟩) (fun hu => ⟨(decide_eq_false (fun hh => hh.1 hu)).symm, rfl⟩)⟩
    by_cases hn : x.User = n
    · rw [decide_eq_false (fun hh => hh.2 hn)]; simpa using hn
    · rw [decide_eq_true ⟨hu, hn⟩]; simpa using hn
  rintro (c : Bool) w539 ⟨rfl, rfl⟩
  refine BIf.dec (fun hc => ?_) (fun hc => ?_)
  · rw [if_pos hc] at hstep
    rw [hstep]
    exact retE h 1 rfl rfl (fun w2 h => ⟨rfl, t, (((h.dropAt 2).dropAt 1).dropAt 0)⟩)
  rw [if_neg hc] at hstep
  refine ⟨_, h.cell 0 rfl rfl, _, h.cell 2 rfl rfl, _, rfl, ?_⟩
  rw [set_at g2] at h
  refine h.setR 4 (⟨x.Id, x.Parent, x.Group, n, x.State, x.Status, x.Pending, x.Mask, x.Ignored, x.Caught⟩ : DProc) rfl hqa hil (by show 3 < 10; omega) rfl (fun w552 h n552 => ⟨t, ?_⟩)
  rw [hstep]
  exact ((h.dropAt 2).dropAt 0)
end Go.Proofs.Yteigefjiifihpaa

/- Processes, the program's side: ProcStep, ProcRun. Conditions: none. -/
set_option linter.unusedVariables false
set_option linter.unusedSimpArgs false
namespace Go.Proofs.Yteigefjiifihpaa
open Go Go.Den
/-- An operation that fails leaves the processes. -/
def Kept (l : List DProc) (r : PRes) : Prop := r.2.1 ≠ 0 → r.1 = l ∧ r.2.2.1 = 0 ∧ r.2.2.2 = 0
theorem Kept.e (l : List DProc) (c : Int) : Kept l (l, c, 0, 0) := fun _ => ⟨rfl, rfl, rfl⟩
theorem Kept.z (l l' : List DProc) (a b : Int) : Kept l (l', 0, a, b) := fun h => absurd rfl h
theorem stepP_kept (l : List DProc) (k id to_ n : Int) : Kept l (stepP l k id to_ n) := by
  unfold stepP
  split
  · exact Kept.e l _
  split
  · exact Kept.e l _
  rename_i x _
  split
  · exact Kept.e l _
  split
  · exact Kept.e l _
  unfold prR
  split
  · split
    · exact Kept.e l _
    · exact Kept.z l _ _ _
  split
  · split
    · exact Kept.e l _
    · split
      · exact Kept.e l _
      · exact Kept.z l _ _ _
  split
  · unfold waitR
    split
    · exact Kept.z l _ _ _
    · split
      · exact Kept.e l _
      · exact Kept.e l _
  split
  · unfold killR
    split
    · exact Kept.e l _
    split
    · exact Kept.e l _
    split
    · exact Kept.e l _
    · exact Kept.z l _ _ _
  split
  · unfold maskR
    split
    · exact Kept.z l _ _ _
    · exact Kept.e l _
  split
  · unfold actR
    split
    · exact Kept.e l _
    · exact Kept.z l _ _ _
  split
  · unfold takeR
    split
    · exact Kept.e l _
    split
    · exact Kept.z l _ _ _
    split
    · exact Kept.z l _ _ _
    split
    · exact Kept.z l _ _ _
    · exact Kept.z l _ _ _
  split
  · unfold grpR
    split
    · exact Kept.e l _
    split
    · exact Kept.e l _
    split
    · exact Kept.e l _
    split
    · exact Kept.z l _ _ _
    · exact Kept.e l _
  · unfold usrR
    split
    · exact Kept.e l _
    split
    · exact Kept.e l _
    · exact Kept.z l _ _ _
theorem s51 {w : World} {t : Sl} {l : List DProc} {k id to_ n : Int} (hs : QAt w t l) (hr : ∀ x, x ∈ l → Rng x) (hto : inR to_) :
    CallW Try.prog 51 #[pAgg t, .agg #[.int .i64 k, .int .i64 id, .int .i64 to_, .int .i64 n]] w (KPR w [] (pstepR l k id to_ n)) := by
  refine go51 ?_
  unfold W51
  have htl := hs.tl
  have h := SH.start w
  refine h.alloc (fun w1 h e1 n1 => ?_)
  refine h.alloc (fun w2 h e2 n2 => ?_)
  refine h.alloc (fun w3 h e3 n3 => ?_)
  refine h.alloc (fun w4 h e4 n4 => ?_)
  refine ⟨t, h.cell 3 rfl rfl, (c59 (hs.ext h.ext) hr).mono ?_⟩
  rintro _ w7 ⟨b, rfl, hiff, e7⟩
  have h := h.to e7
  refine ⟨_, rfl, BIf.of (fun hn => ?_) (fun hy => ?_)⟩
  · have hno : ¬ PInv l := fun hh => by rw [hiff.2 hh] at hn; cases hn
    refine retP (t := ⟨none, 0, 0⟩) h 1 0 rfl rfl rfl (by simp) (fun w2 h => ?_)
    unfold pstepR
    rw [if_neg hno]
    exact ⟨⟨none, 0, 0⟩, rfl, SH.nil (SH.start w |>.to h.ext) none 10⟩
  have hv : PInv l := hiff.1 (by simpa using hy)
  have hlen := hv.len
  have hres : pstepR l k id to_ n = stepP l k id to_ n := by unfold pstepR; rw [if_pos hv]
  rw [hres]
  refine ⟨t, h.cell 3 rfl rfl, ?_⟩
  have h := SH.nil h none 10
  refine SH.appendR (f := DProc.cells) (l := []) (us := l) h (hs.ext h.ext).tr (by omega) (fun _ => rfl) rfl rfl (by decide) (by show (_ + _) * 80 ≤ _; simp; omega) plain_pr (fun l16 w17 h hl16 _ => ?_)
  refine h.alloc (fun w18 h e18 n18 => ?_)
  refine h.setV 0 rfl rfl (fun w19 h n19 => ?_)
  refine ⟨_, h.cell 4 rfl rfl, _, h.cell 4 rfl rfl, _, h.cell 4 rfl rfl, _, h.cell 4 rfl rfl, ?_⟩
  rw [List.nil_append] at h
  refine (s96 (F := [aB w3.heap.size ((rs3 0 0 0).map Ce.v), aB w2.heap.size (ZT.map Ce.v), BO w1.heap.size k id to_ n, BS w.heap.size t]) h hv hto).mono ?_
  rintro _ w25 ⟨rfl, t2, h⟩
  have hkept := stepP_kept l k id to_ n
  generalize stepP l k id to_ n = r at *
  refine ⟨_, _, _, rfl, ?_⟩
  refine h.alloc (fun w29 h e29 n29 => ?_)
  refine h.put 0 rfl rfl rfl (fun w30 h n30 => ?_)
  refine ⟨_, h.cell 0 rfl rfl, BIf.ne (fun hc => ?_) (fun hc => ?_)⟩
  · obtain ⟨k1, k2, k3⟩ := hkept hc
    have h := h.drew
    refine ⟨t, h.cell 6 rfl rfl, _, h.cell 0 rfl rfl, ?_⟩
    have h := SH.nil h none 10
    refine SH.appendR (f := DProc.cells) (l := []) (us := l) h (hs.ext h.ext).tr (by omega) (fun _ => rfl) rfl rfl (by decide) (by show (_ + _) * 80 ≤ _; simp; omega) plain_pr (fun l34 w35 h hl34 _ => ?_)
    refine ⟨⟨_, h.cell 1 rfl rfl, rfl⟩, ?_⟩
    refine h.setV 5 rfl rfl (fun w37 h n37 => ⟨⟨_, h.cell 1 rfl rfl, rfl⟩, ?_⟩)
    refine h.put 4 rfl rfl rfl (fun w39 h n39 => ?_)
    refine ⟨l34, h.cell 5 rfl rfl, _, h.cell 4 rfl rfl, _, h.cell 4 rfl rfl, _, h.cell 4 rfl rfl, l34, ?_, ?_⟩
    · rw [k2, k3]
    · rw [k1]
      rw [List.nil_append] at h
      exact (((((((h.dropAt 7).dropAt 6).dropAt 5).dropAt 4).dropAt 3).dropAt 2).dropAt 1)
  · have h := h.drew
    refine ⟨t2, h.cell 1 rfl rfl, _, h.cell 0 rfl rfl, _, h.cell 0 rfl rfl, _, h.cell 0 rfl rfl, ?_⟩
    refine h.setV 4 rfl rfl (fun w48 h n48 => ⟨⟨_, h.cell 0 rfl rfl, _, h.cell 0 rfl rfl, _, h.cell 0 rfl rfl, rfl⟩, ?_⟩)
    refine h.put 3 rfl rfl rfl (fun w52 h n52 => ?_)
    refine ⟨t2, h.cell 4 rfl rfl, _, h.cell 3 rfl rfl, _, h.cell 3 rfl rfl, _, h.cell 3 rfl rfl, t2, rfl, ?_⟩
    exact ((((((h.dropAt 6).dropAt 5).dropAt 4).dropAt 3).dropAt 1).dropAt 0)
theorem s56 {w0 w : World} {F : List Asr} (h : SH w0 w F) : CallW Try.prog 56 #[] w (KP w0 F [proc1]) := by
  refine go56 ?_
  unfold W56
  refine h.alloc (fun w1 h e1 n1 => ?_)
  refine h.alloc (fun w2 h e2 n2 => ?_)
  have h : SH w0 w2 (RP ⟨some ⟨w1.heap.size, 0, none⟩, 1, 1⟩ [proc1] :: aB w.heap.size (ZT.map Ce.v) :: F) := h.toRow (ys := [proc1.cells]) (n := 1) (z := 10) rfl rfl (fun u hu => by obtain rfl := List.mem_singleton.1 hu; rfl)
  refine h.setV 1 rfl rfl (fun w3 h n3 => ?_)
  exact ⟨⟨some ⟨w1.heap.size, 0, none⟩, 1, 1⟩, h.cell 1 rfl rfl, ⟨some ⟨w1.heap.size, 0, none⟩, 1, 1⟩, rfl, (h.dropAt 1)⟩
end Go.Proofs.Yteigefjiifihpaa

/- Processes: both sides as the laws ask for them. Conditions: none. -/
set_option linter.unusedVariables false
set_option linter.unusedSimpArgs false
namespace Go.Proofs.Yteigefjiifihpaa
open Go Go.Den
/-! ## Bounds -/
/-! ## ProcRun -/
/-! ## ProcStep -/
end Go.Proofs.Yteigefjiifihpaa

/- Draws: the cursor. Conditions: none. -/
set_option linter.unusedVariables false
set_option linter.unusedSimpArgs false
namespace Go.Proofs.Yteigefjiifihpaa
open Go Go.Den
theorem s120 {w0 w : World} {As : List Asr} (h : SH w0 w As) (n : Nat) {cb : Nat} {s : Sl} (hA : As[n]? = some (aC cb s)) (hb : CurB w0 s) :
    CallW Try.prog 120 #[.pointer (some ⟨cb, 0, none⟩)] w (KD w0 As (fun x => 0 ≤ x ∧ x ≤ 255)) := by
  refine go120 ?_
  unfold W120
  have hn := (List.getElem?_eq_some_iff.1 hA).1
  obtain ⟨i, x, hi, h2⟩ := h.openC n hA
  have g : ∀ {A : Asr}, (As.set n A)[n]? = some A := List.getElem?_set_self hn
  refine ⟨_, rfl, _, h2.cellP n g rfl, _, rfl, ?_⟩
  refine h2.setVP n g rfl (fun w4 h4 _ => ?_)
  rw [List.set_set] at h4
  have h5 := h4.drew
  refine ⟨_, rfl, _, h5.cellP n g rfl, by decide, _, rfl, _, h5.cellP n g rfl, by decide, _, rfl, _, h5.drew.cellP n g rfl, _, rfl, s, h5.drew.cellP n g rfl, ?_⟩
  refine BIf.dec (fun hlt => ?_) (fun hge => ?_)
  · have h6 := h5.drew.drew
    obtain ⟨q, m, hq, hc, hm⟩ := hb.at_ i.toNat (by omega)
    have hfew := hb.few
    refine ⟨_, rfl, s, h6.cellP n g rfl, _, rfl, _, h6.cellP n g rfl, hi.1, hlt, q, hq, m, h6.ext.cell hc, _, rfl, _, h6.cellP n g rfl, _, rfl, ?_⟩
    refine h6.setVP n g rfl (fun w22 h7 _ => ?_)
    rw [List.set_set] at h7
    refine ⟨_, rfl, andI_255 _, h7.closeC n hA rfl ?_⟩
    rw [w64 (by omega) (by omega)]; omega
  · exact ⟨_, rfl, andI_255 _, h5.drew.closeC n hA rfl hi⟩
theorem s77 {w0 w : World} {As : List Asr} {k : Int} (h : SH w0 w As) (n : Nat) {cb : Nat} {s : Sl} (hA : As[n]? = some (aC cb s)) (hb : CurB w0 s) :
    CallW Try.prog 77 #[.pointer (some ⟨cb, 0, none⟩), .int .i64 k] w (KD w0 As (below k)) := by
  refine go77 ?_
  unfold W77
  refine BIf.dec (fun h0 => ⟨0, rfl, ⟨Int.le_refl 0, .inr ⟨h0, rfl⟩⟩, h⟩) (fun h0 => ?_)
  have hmod : ∀ x : Int, 0 ≤ x → below k (Int.tmod x k) := fun x hx => by
    have h1 : 0 ≤ x % k := Int.emod_nonneg x (by omega)
    have h2 : x % k < k := Int.emod_lt_of_pos x (by omega)
    rw [Int.tmod_eq_emod_of_nonneg hx]
    exact ⟨h1, .inl h2⟩
  refine BIf.dec (fun h1 => ?_) (fun h1 => ?_)
  · refine (s120 h n hA hb).mono ?_
    rintro _ w2 ⟨x, rfl, hx, h⟩
    exact ⟨x, rfl, by omega, _, rfl, hmod _ hx.1, h⟩
  · refine (s120 h n hA hb).mono ?_
    rintro _ w5 ⟨x, rfl, hx, h⟩
    refine ⟨x, rfl, (s120 h n hA hb).mono ?_⟩
    rintro _ w8 ⟨y, rfl, hy, h⟩
    refine ⟨y, rfl, (s120 h n hA hb).mono ?_⟩
    rintro _ w11 ⟨z, rfl, hz, h⟩
    refine ⟨z, rfl, by omega, _, rfl, ?_, h⟩
    rw [w64 (n := x * 65536) (by omega) (by omega), w64 (n := y * 256) (by omega) (by omega), w64 (n := x * 65536 + y * 256) (by omega) (by omega), w64 (by omega) (by omega)]
    exact hmod _ (by omega)
theorem s78 {w0 w : World} {As : List Asr} {k : Int} (h : SH w0 w As) (n : Nat) {cb : Nat} {s : Sl} (hA : As[n]? = some (aC cb s)) (hb : CurB w0 s) :
    CallW Try.prog 78 #[.pointer (some ⟨cb, 0, none⟩), .int .i64 k] w (KDb w0 As) := by
  refine go78 ?_
  unfold W78
  refine (s77 h n hA hb).mono ?_
  rintro _ w2 ⟨x, rfl, hx, h⟩
  exact ⟨x, rfl, _, rfl, h⟩
theorem s75 {w0 w : World} {F : List Asr} {s : Sl} (h : SH w0 w F) (hb : CurB w0 s) :
    CallW Try.prog 75 #[.slice s.a s.len s.cap] w (fun v w' => ∃ cb, v = .pointer (some ⟨cb, 0, none⟩) ∧ SH w0 w' (aC cb s :: F)) := by
  refine go75 ?_
  unfold W75
  have hfew := hb.few
  refine LoopW.m2 (fun (x i : Int) w' => ∃ m : Nat, i = m ∧ m ≤ s.len ∧ w' = w) (fun _ (i : Int) _ => (s.len - i).toNat) ⟨0, rfl, by omega, rfl⟩ ?_
  rintro (x : Int) (i : Int) w ⟨m, rfl, hm, rfl⟩ J hJ
  refine BIf.dec (fun hlt => ?_) (fun hge => ?_)
  · obtain ⟨q, y, hq, hc, hy⟩ := hb.at_ m (by omega)
    simp only [Int.toNat_natCast]
    refine ⟨by omega, hlt, q, hq, y, h.ext.cell hc, ?_⟩
    rw [w64 (n := (m : Int) + 1) (by omega) (by omega)]
    exact hJ _ _ _ ⟨m + 1, by omega, by omega, rfl⟩ (by omega)
  · refine h.alloc (fun w7 h e7 n7 => ?_)
    exact ⟨w.heap.size, rfl, SH.closeC (As := aC w.heap.size s :: _) 0 rfl h rfl (by omega)⟩
theorem c29 {s : Sl} {w : World} : CallW Try.prog 29 #[.slice s.a s.len s.cap] w (fun v w' => v = .bool (decide ((s.len : Int) > 1048576)) ∧ w' = w) := by
  refine go29 ?_
  unfold W29
  exact ⟨rfl, rfl⟩
end Go.Proofs.Yteigefjiifihpaa

/- Draws: an operation on a scheduler (the body printed by a program). Conditions: none. -/
set_option linter.unusedVariables false
set_option linter.unusedSimpArgs false
namespace Go.Proofs.Yteigefjiifihpaa
open Go Go.Den
end Go.Proofs.Yteigefjiifihpaa

/- Draws: operations on a scheduler, one behind the other. Conditions: none. -/
set_option linter.unusedVariables false
set_option linter.unusedSimpArgs false
namespace Go.Proofs.Yteigefjiifihpaa
open Go Go.Den
end Go.Proofs.Yteigefjiifihpaa

/- Draws: what a run of the scheduler is drawn to be. Conditions: none. -/
set_option linter.unusedVariables false
set_option linter.unusedSimpArgs false
namespace Go.Proofs.Yteigefjiifihpaa
open Go Go.Den
end Go.Proofs.Yteigefjiifihpaa

/- The bytes of a draw as a parameter. Conditions: none. -/
namespace Go.Proofs.Yteigefjiifihpaa
open Go Go.Den
theorem o5 : Opens Try.prog 5 (cInt .u8) := opens_int Try.underlying5
theorem o55 : Opens Try.prog 55 (cSlice (cInt .u8)) := opens_slice Try.underlying55 (by kernel_rfl) o5
theorem curb_of {bs : List Int} {w : World} {s : Sl} (h : IsD w (.sl 1 (bs.map (Dat.int .u8))) [.slice s.a s.len s.cap]) (hl : s.len ≤ 1048576) : CurB w s := by
  refine ⟨hl, fun k hk => ?_⟩
  have hlen := (isD_len h).1
  have hget : bs[k]? = some bs[k] := List.getElem?_eq_getElem (by omega)
  obtain ⟨p, es, hp, _, hc, hi⟩ := isD_elem h hget
  obtain ⟨rfl, hwf⟩ := isD_int hi
  have h0 := hc 0 _ rfl
  refine ⟨p, _, hp, h0, ?_⟩
  simp [Lit.wf, IntKind.min, IntKind.max, IntKind.signed, IntKind.bits] at hwf
  omega
end Go.Proofs.Yteigefjiifihpaa

/- FnSchedFree: who is needed in the end; the bytes of a draw. Conditions: none. -/
set_option linter.unusedVariables false
set_option linter.unusedSimpArgs false
namespace Go.Proofs.Yteigefjiifihpaa
open Go Go.Den
end Go.Proofs.Yteigefjiifihpaa

/- Draws: a signal, a set of signals (bodies printed by a program). Conditions: none. -/
set_option linter.unusedVariables false
set_option linter.unusedSimpArgs false
namespace Go.Proofs.Yteigefjiifihpaa
open Go Go.Den
theorem wrapR (x : Int) : inR (IntKind.i64.wrap x) := by rw [IntKind.wrap_i64]; constructor <;> omega
theorem s145 {w0 w : World} {F : List Asr} {cb : Nat} {s : Sl} (h : SH w0 w (aC cb s :: F)) (hb : CurB w0 s) :
    CallW Try.prog 145 #[.pointer (some ⟨cb, 0, none⟩)] w (KD w0 (aC cb s :: F) inR) := by
  refine go145 ?_
  unfold W145
  refine h.alloc (fun w1 h ew1 nw1 => ?_)
  have h : SH w0 w1 (aI w.heap.size 8 inR :: aC cb s :: F) := h.toI 0 [9, 12, 13, 14, 1, 2, 15, 3] rfl rfl (by intro x hx; simp only [List.mem_cons, List.not_mem_nil, or_false] at hx; rcases hx with rfl | rfl | rfl | rfl | rfl | rfl | rfl | rfl <;> first | assumption | exact wrapR _ | (constructor <;> omega))
  refine (s77 h 1 rfl hb).mono ?_
  rintro _ w3 ⟨n4, rfl, ⟨pn4a, pn4b⟩, h⟩
  refine ⟨n4, rfl, ?_⟩
  refine ⟨by omega, ?_⟩
  refine ⟨by omega, ?_⟩
  refine ⟨_, rfl, ?_⟩
  obtain ⟨k1, rfl⟩ := Int.eq_ofNat_of_zero_le pn4a
  rw [Int.toNat_natCast]
  refine h.rIx 0 rfl (by omega) (fun n6 pn6 => ?_)
  refine (s78 h 1 rfl hb).mono ?_
  rintro _ w8 ⟨b9, rfl, h⟩
  refine ⟨b9, rfl, ?_⟩
  refine BIf.of (fun c2 => ?_) (fun c2 => ?_)
  · skip
    try simp only [Bool.or_eq_true, Bool.and_eq_true, Bool.or_eq_false_iff, Bool.not_eq_true', Bool.not_eq_false', decide_eq_true_eq, decide_eq_false_iff_not, beq_iff_eq, beq_eq_false_iff_ne, bne_iff_ne, bne_eq_false_iff_eq, ne_eq] at c2
    refine h.alloc (fun w10 h ew10 nw10 => ?_)
    have h : SH w0 w10 (aI w8.heap.size 3 inR :: aI w.heap.size 8 inR :: aC cb s :: F) := h.toI 0 [0, (-1), 16] rfl rfl (by intro x hx; simp only [List.mem_cons, List.not_mem_nil, or_false] at hx; rcases hx with rfl | rfl | rfl <;> first | assumption | exact wrapR _ | (constructor <;> omega))
    refine (s77 h 2 rfl hb).mono ?_
    rintro _ w12 ⟨n13, rfl, ⟨pn13a, pn13b⟩, h⟩
    refine ⟨n13, rfl, ?_⟩
    refine ⟨by omega, ?_⟩
    refine ⟨by omega, ?_⟩
    refine ⟨_, rfl, ?_⟩
    obtain ⟨k3, rfl⟩ := Int.eq_ofNat_of_zero_le pn13a
    rw [Int.toNat_natCast]
    refine h.rIx 0 rfl (by omega) (fun n15 pn15 => ?_)
    exact ⟨_, rfl, (by first | assumption | exact wrapR _ | (constructor <;> omega)), h.drop.drop⟩
  · skip
    try simp only [Bool.or_eq_true, Bool.and_eq_true, Bool.or_eq_false_iff, Bool.not_eq_true', Bool.not_eq_false', decide_eq_true_eq, decide_eq_false_iff_not, beq_iff_eq, beq_eq_false_iff_ne, bne_iff_ne, bne_eq_false_iff_eq, ne_eq] at c2
    exact ⟨_, rfl, (by first | assumption | exact wrapR _ | (constructor <;> omega)), h.drop⟩
theorem s146 {w0 w : World} {F : List Asr} {cb : Nat} {s : Sl} (h : SH w0 w (aC cb s :: F)) (hb : CurB w0 s) :
    CallW Try.prog 146 #[.pointer (some ⟨cb, 0, none⟩)] w (KD w0 (aC cb s :: F) inR) := by
  refine go146 ?_
  unfold W146
  refine (s77 h 0 rfl hb).mono ?_
  rintro _ w2 ⟨n3, rfl, ⟨pn3a, pn3b⟩, h⟩
  refine ⟨n3, rfl, ?_⟩
  refine (s77 h 0 rfl hb).mono ?_
  rintro _ w5 ⟨n6, rfl, ⟨pn6a, pn6b⟩, h⟩
  refine ⟨n6, rfl, ?_⟩
  refine JoinW.cut1 (fun (n7 : Int) w' => inR n7 ∧ SH w0 w' (aC cb s :: F)) ?_ ?_
  · skip
    refine (s78 h 0 rfl hb).mono ?_
    rintro _ w26 ⟨b27, rfl, h⟩
    refine ⟨b27, rfl, ?_⟩
    refine BIf.of (fun c1 => ?_) (fun c1 => ?_)
    · skip
      try simp only [Bool.or_eq_true, Bool.and_eq_true, Bool.or_eq_false_iff, Bool.not_eq_true', Bool.not_eq_false', decide_eq_true_eq, decide_eq_false_iff_not, beq_iff_eq, beq_eq_false_iff_ne, bne_iff_ne, bne_eq_false_iff_eq, ne_eq] at c1
      refine (s77 h 0 rfl hb).mono ?_
      rintro _ w29 ⟨n30, rfl, ⟨pn30a, pn30b⟩, h⟩
      refine ⟨n30, rfl, ?_⟩
      obtain ⟨k2, rfl⟩ := Int.eq_ofNat_of_zero_le pn30a
      rw [w64 (n := 1 + (k2 : Int)) (by omega) (by omega), show (1 : Int) + k2 = ((1 + k2 : Nat) : Int) by omega]
      refine (c153 (n := 1 + k2) (by omega)).mono ?_
      rintro _ _ ⟨rfl, rfl⟩
      have hpk2 := pow_le (1 + k2) (by omega)
      refine ⟨_, rfl, ?_⟩
      exact ⟨(by first | assumption | exact wrapR _ | (constructor <;> omega)), h⟩
    · skip
      try simp only [Bool.or_eq_true, Bool.and_eq_true, Bool.or_eq_false_iff, Bool.not_eq_true', Bool.not_eq_false', decide_eq_true_eq, decide_eq_false_iff_not, beq_iff_eq, beq_eq_false_iff_ne, bne_iff_ne, bne_eq_false_iff_eq, ne_eq] at c1
      exact ⟨(by first | assumption | exact wrapR _ | (constructor <;> omega)), h⟩
  · clear h
    rintro (n7 : Int) w9 ⟨pn7, h⟩
    refine JoinW.cut1 (fun (n10 : Int) w' => inR n10 ∧ SH w0 w' (aC cb s :: F)) ?_ ?_
    · skip
      refine (s78 h 0 rfl hb).mono ?_
      rintro _ w23 ⟨b24, rfl, h⟩
      refine ⟨b24, rfl, ?_⟩
      refine BIf.of (fun c3 => ?_) (fun c3 => ?_)
      · skip
        try simp only [Bool.or_eq_true, Bool.and_eq_true, Bool.or_eq_false_iff, Bool.not_eq_true', Bool.not_eq_false', decide_eq_true_eq, decide_eq_false_iff_not, beq_iff_eq, beq_eq_false_iff_ne, bne_iff_ne, bne_eq_false_iff_eq, ne_eq] at c3
        refine ⟨by omega, ?_⟩
        exact ⟨(by first | assumption | exact wrapR _ | (constructor <;> omega)), h⟩
      · skip
        try simp only [Bool.or_eq_true, Bool.and_eq_true, Bool.or_eq_false_iff, Bool.not_eq_true', Bool.not_eq_false', decide_eq_true_eq, decide_eq_false_iff_not, beq_iff_eq, beq_eq_false_iff_ne, bne_iff_ne, bne_eq_false_iff_eq, ne_eq] at c3
        exact ⟨(by first | assumption | exact wrapR _ | (constructor <;> omega)), h⟩
    · clear h
      rintro (n10 : Int) w12 ⟨pn10, h⟩
      refine (s78 h 0 rfl hb).mono ?_
      rintro _ w14 ⟨b15, rfl, h⟩
      refine ⟨b15, rfl, ?_⟩
      refine BIf.of (fun c4 => ?_) (fun c4 => ?_)
      · skip
        try simp only [Bool.or_eq_true, Bool.and_eq_true, Bool.or_eq_false_iff, Bool.not_eq_true', Bool.not_eq_false', decide_eq_true_eq, decide_eq_false_iff_not, beq_iff_eq, beq_eq_false_iff_ne, bne_iff_ne, bne_eq_false_iff_eq, ne_eq] at c4
        refine h.alloc (fun w16 h ew16 nw16 => ?_)
        have h : SH w0 w16 (aI w14.heap.size 4 inR :: aC cb s :: F) := h.toI 0 [(-2), 65536, 0, 4611686018427387904] rfl rfl (by intro x hx; simp only [List.mem_cons, List.not_mem_nil, or_false] at hx; rcases hx with rfl | rfl | rfl | rfl <;> first | assumption | exact wrapR _ | (constructor <;> omega))
        refine (s77 h 1 rfl hb).mono ?_
        rintro _ w18 ⟨n19, rfl, ⟨pn19a, pn19b⟩, h⟩
        refine ⟨n19, rfl, ?_⟩
        refine ⟨by omega, ?_⟩
        refine ⟨by omega, ?_⟩
        refine ⟨_, rfl, ?_⟩
        obtain ⟨k5, rfl⟩ := Int.eq_ofNat_of_zero_le pn19a
        rw [Int.toNat_natCast]
        refine h.rIx 0 rfl (by omega) (fun n21 pn21 => ?_)
        exact ⟨_, rfl, (by first | assumption | exact wrapR _ | (constructor <;> omega)), h.drop⟩
      · skip
        try simp only [Bool.or_eq_true, Bool.and_eq_true, Bool.or_eq_false_iff, Bool.not_eq_true', Bool.not_eq_false', decide_eq_true_eq, decide_eq_false_iff_not, beq_iff_eq, beq_eq_false_iff_ne, bne_iff_ne, bne_eq_false_iff_eq, ne_eq] at c4
        exact ⟨_, rfl, (by first | assumption | exact wrapR _ | (constructor <;> omega)), h⟩
end Go.Proofs.Yteigefjiifihpaa

/- Draws: an operation on processes (the body printed by a program). Conditions: none. -/
set_option linter.unusedVariables false
set_option linter.unusedSimpArgs false
namespace Go.Proofs.Yteigefjiifihpaa
open Go Go.Den
def AllR (x : DProc) : Prop := inR x.Id ∧ inR x.Parent ∧ inR x.Group ∧ inR x.User ∧ inR x.State ∧ inR x.Status ∧ inR x.Pending ∧ inR x.Mask ∧ inR x.Ignored ∧ inR x.Caught
theorem c143any {s : Int} {n : Nat} (hn : n ≤ 62) {w : World} : CallW Try.prog 143 #[.int .i64 s, .int .i64 (n : Int)] w (fun v w' => ∃ b, v = .bool b ∧ w' = w) := by
  refine go143 ?_
  unfold W143
  refine (c153 hn).mono ?_
  rintro _ w ⟨rfl, rfl⟩
  have h2 := pow_le n hn
  exact ⟨_, rfl, by omega, by decide, _, rfl, rfl⟩
theorem allR {l : List DProc} (h : PInv l) {x : DProc} (hx : x ∈ l) : AllR x := by
  have ho := h.ok x hx
  have h1 := ho.id
  have h2 := ho.grp
  have h3 := ho.usr
  have h4 := ho.st
  have h5 := ho.stat
  have h6 := VS.small ho.pend
  have h7 := VS.small ho.mask.1
  have h8 := VS.small ho.ign.1
  have h9 := VS.small ho.cau.1
  have hp : 0 ≤ x.Parent ∧ x.Parent ≤ 32 := by
    by_cases hx1 : x.Id = 1
    · obtain ⟨y, hy, g1, g2, g3⟩ := h.head
      rw [h.srt.uniq hx (List.mem_of_getElem? hy) (by omega), g2]; decide
    · obtain ⟨u, hu, g1, _⟩ := h.par x hx hx1
      have := (h.ok u hu).id; omega
  refine ⟨⟨?_, ?_⟩, ⟨?_, ?_⟩, ⟨?_, ?_⟩, ⟨?_, ?_⟩, ⟨?_, ?_⟩, ⟨?_, ?_⟩, ⟨?_, ?_⟩, ⟨?_, ?_⟩, ⟨?_, ?_⟩, ⟨?_, ?_⟩⟩ <;> omega
theorem list4 {xs : List Int} (h : xs.length = 4) : ∃ a b c d, xs = [a, b, c, d] := by
  match xs, h with
  | [a, b, c, d], _ => exact ⟨a, b, c, d, rfl⟩
set_option maxHeartbeats 1000000 in
theorem s106 {w0 w : World} {F : List Asr} {cb : Nat} {s t : Sl} {l : List DProc} (h : SH w0 w (aC cb s :: RP t l :: F)) (hb : CurB w0 s) (hv : ∀ x, x ∈ l → AllR x) (hlen : 1 ≤ l.length ∧ l.length ≤ 1048576) :
    CallW Try.prog 106 #[.pointer (some ⟨cb, 0, none⟩), pAgg t] w (fun v w' => ∃ k id to_ n : Int, v = .agg #[.int .i64 k, .int .i64 id, .int .i64 to_, .int .i64 n] ∧ inR to_ ∧ SH w0 w' (aC cb s :: RP t l :: F)) := by
  refine go106 ?_
  unfold W106
  have htl := h.len 1 rfl
  rw [recs_len] at htl
  refine h.alloc (fun w1 h ew1 nw1 => ?_)
  refine h.alloc (fun w2 h ew2 nw2 => ?_)
  have h : SH w0 w2 (aI w1.heap.size 4 inR :: aB w.heap.size ([Value.slice t.a t.len t.cap].map Ce.v) :: aC cb s :: RP t l :: F) := h.toI 0 [0, 0, 0, 0] rfl rfl (by intro x hx; simp only [List.mem_cons, List.not_mem_nil, or_false] at hx; rcases hx with rfl | rfl | rfl | rfl <;> first | assumption | exact wrapR _ | (constructor <;> omega))
  refine h.alloc (fun w3 h ew3 nw3 => ?_)
  have h : SH w0 w3 (aI w2.heap.size 21 inR :: aI w1.heap.size 4 inR :: aB w.heap.size ([Value.slice t.a t.len t.cap].map Ce.v) :: aC cb s :: RP t l :: F) := h.toI 0 [1, 1, 1, 1, 2, 2, 3, 3, 3, 4, 4, 4, 5, 6, 6, 7, 7, 7, 7, 8, 9] rfl rfl (by intro x hx; simp only [List.mem_cons, List.not_mem_nil, or_false] at hx; rcases hx with rfl | rfl | rfl | rfl | rfl | rfl | rfl | rfl | rfl | rfl | rfl | rfl | rfl | rfl | rfl | rfl | rfl | rfl | rfl | rfl | rfl <;> first | assumption | exact wrapR _ | (constructor <;> omega))
  refine (s77 h 3 rfl hb).mono ?_
  rintro _ w5 ⟨n6, rfl, ⟨pn6a, pn6b⟩, h⟩
  refine ⟨n6, rfl, ?_⟩
  refine ⟨by omega, ?_⟩
  refine ⟨by omega, ?_⟩
  refine ⟨_, rfl, ?_⟩
  obtain ⟨k1, rfl⟩ := Int.eq_ofNat_of_zero_le pn6a
  rw [Int.toNat_natCast]
  refine h.rIx 0 rfl (by omega) (fun n8 pn8 => ?_)
  refine h.alloc (fun w9 h ew9 nw9 => ?_)
  have h : SH w0 w9 (aI w5.heap.size 4 inR :: aI w2.heap.size 21 inR :: aI w1.heap.size 4 inR :: aB w.heap.size ([Value.slice t.a t.len t.cap].map Ce.v) :: aC cb s :: RP t l :: F) := h.toI 0 [0, 0, 0, 0] rfl rfl (by intro x hx; simp only [List.mem_cons, List.not_mem_nil, or_false] at hx; rcases hx with rfl | rfl | rfl | rfl <;> first | assumption | exact wrapR _ | (constructor <;> omega))
  refine h.pI 0 [n8, 0, 0, 0] rfl rfl rfl (by intro x hx; simp only [List.mem_cons, List.not_mem_nil, or_false] at hx; rcases hx with rfl | rfl | rfl | rfl <;> first | assumption | exact wrapR _ | (constructor <;> omega)) (fun w10 h => ?_)
  refine JoinW.cut1 (fun (p11 : Option Addr) w' => ∃ (b k : Nat) (z0 : DProc), p11 = some ⟨b, 0, none⟩ ∧ l[k]? = some z0 ∧ SH w0 w' (BX b z0 :: aI w5.heap.size 4 inR :: aI w2.heap.size 21 inR :: aI w1.heap.size 4 inR :: aB w.heap.size ([Value.slice t.a t.len t.cap].map Ce.v) :: aC cb s :: RP t l :: F)) ?_ ?_
  · skip
    refine ⟨t, h.cell 3 rfl rfl, ?_⟩
    refine ⟨t, h.cell 3 rfl rfl, ?_⟩
    refine ⟨?_, ?_⟩
    · skip
      have h := h.drew
      refine (s77 h 4 rfl hb).mono ?_
      rintro _ w355 ⟨n356, rfl, ⟨pn356a, pn356b⟩, h⟩
      refine ⟨n356, rfl, ?_⟩
      refine ⟨⟨t, h.cell 3 rfl rfl, (by first | rfl | trivial)⟩, ?_⟩
      refine ⟨by omega, ?_⟩
      refine ⟨by omega, ?_⟩
      obtain ⟨k2, rfl⟩ := Int.eq_ofNat_of_zero_le pn356a
      simp only [Int.toNat_natCast]
      have hgq358 : l[k2]? = some l[k2] := List.getElem?_eq_getElem (by omega)
      obtain ⟨q358, hqq358⟩ := h.rowQ 5 rfl hgq358
      refine ⟨q358, hqq358, ?_⟩
      refine ⟨_, h.rdR 5 rfl hqq358 hgq358 rfl, ?_⟩
      refine ⟨_, h.rdR 5 rfl hqq358 hgq358 rfl, ?_⟩
      refine ⟨_, h.rdR 5 rfl hqq358 hgq358 rfl, ?_⟩
      refine ⟨_, h.rdR 5 rfl hqq358 hgq358 rfl, ?_⟩
      refine ⟨_, h.rdR 5 rfl hqq358 hgq358 rfl, ?_⟩
      refine ⟨_, h.rdR 5 rfl hqq358 hgq358 rfl, ?_⟩
      refine ⟨_, h.rdR 5 rfl hqq358 hgq358 rfl, ?_⟩
      refine ⟨_, h.rdR 5 rfl hqq358 hgq358 rfl, ?_⟩
      refine ⟨_, h.rdR 5 rfl hqq358 hgq358 rfl, ?_⟩
      refine ⟨_, h.rdR 5 rfl hqq358 hgq358 rfl, ?_⟩
      refine ⟨?_, trivial⟩
      refine h.alloc (fun w369 h ew369 nw369 => ?_)
      refine ⟨⟨_, h.rdR 6 rfl hqq358 hgq358 rfl, _, h.rdR 6 rfl hqq358 hgq358 rfl, _, h.rdR 6 rfl hqq358 hgq358 rfl, _, h.rdR 6 rfl hqq358 hgq358 rfl, _, h.rdR 6 rfl hqq358 hgq358 rfl, _, h.rdR 6 rfl hqq358 hgq358 rfl, _, h.rdR 6 rfl hqq358 hgq358 rfl, _, h.rdR 6 rfl hqq358 hgq358 rfl, _, h.rdR 6 rfl hqq358 hgq358 rfl, _, h.rdR 6 rfl hqq358 hgq358 rfl, (by first | rfl | trivial)⟩, ?_⟩
      refine ⟨(by first | rfl | trivial), ?_⟩
      refine ⟨⟨t, h.cell 4 rfl rfl, (by first | rfl | trivial)⟩, ?_⟩
      refine ⟨⟨t, h.cell 4 rfl rfl, (by first | rfl | trivial)⟩, ?_⟩
      refine ⟨?_, trivial⟩
      refine h.put 0 rfl rfl rfl (fun w382 h nw382 => ?_)
      exact ⟨_, _, _, rfl, hgq358, (h.front (n := 0) rfl)⟩
    · skip
      refine ⟨?_, trivial⟩
      have h := h.drew
      refine h.alloc (fun w335 h ew335 nw335 => ?_)
      refine ⟨(by first | rfl | trivial), ?_⟩
      refine ⟨⟨t, h.cell 4 rfl rfl, (by first | rfl | trivial)⟩, ?_⟩
      refine ⟨⟨t, h.cell 4 rfl rfl, (by first | rfl | trivial)⟩, ?_⟩
      refine ⟨?_, trivial⟩
      refine (s77 h 5 rfl hb).mono ?_
      rintro _ w339 ⟨n340, rfl, ⟨pn340a, pn340b⟩, h⟩
      refine ⟨n340, rfl, ?_⟩
      refine ⟨⟨t, h.cell 4 rfl rfl, (by first | rfl | trivial)⟩, ?_⟩
      refine ⟨by omega, ?_⟩
      refine ⟨by omega, ?_⟩
      obtain ⟨k3, rfl⟩ := Int.eq_ofNat_of_zero_le pn340a
      simp only [Int.toNat_natCast]
      have hgq342 : l[k3]? = some l[k3] := List.getElem?_eq_getElem (by omega)
      obtain ⟨q342, hqq342⟩ := h.rowQ 6 rfl hgq342
      refine ⟨q342, hqq342, ?_⟩
      refine ⟨_, h.rdR 6 rfl hqq342 hgq342 rfl, ?_⟩
      refine ⟨_, h.rdR 6 rfl hqq342 hgq342 rfl, ?_⟩
      refine ⟨_, h.rdR 6 rfl hqq342 hgq342 rfl, ?_⟩
      refine ⟨_, h.rdR 6 rfl hqq342 hgq342 rfl, ?_⟩
      refine ⟨_, h.rdR 6 rfl hqq342 hgq342 rfl, ?_⟩
      refine ⟨_, h.rdR 6 rfl hqq342 hgq342 rfl, ?_⟩
      refine ⟨_, h.rdR 6 rfl hqq342 hgq342 rfl, ?_⟩
      refine ⟨_, h.rdR 6 rfl hqq342 hgq342 rfl, ?_⟩
      refine ⟨_, h.rdR 6 rfl hqq342 hgq342 rfl, ?_⟩
      refine ⟨_, h.rdR 6 rfl hqq342 hgq342 rfl, ?_⟩
      refine ⟨?_, trivial⟩
      refine h.put 0 rfl rfl rfl (fun w353 h nw353 => ?_)
      exact ⟨_, _, _, rfl, hgq342, (h.front (n := 0) rfl)⟩
  · clear h
    rintro (p11 : Option Addr) w13 ⟨bkx, kx, x, rfl, hgx, h⟩
    obtain ⟨rx0, rx1, rx2, rx3, rx4, rx5, rx6, rx7, rx8, rx9⟩ := hv x (List.mem_of_getElem? hgx)
    refine addrOf_mk ?_
    refine ⟨_, h.cellP 0 rfl rfl, ?_⟩
    refine h.sI 1 rfl (by decide) (by first | assumption | exact wrapR _ | (constructor <;> omega) | decide) (fun w16 h => ?_)
    refine JoinW.cut1 (fun (p17 : Option Addr) w' => ∃ (b k : Nat) (z0 : DProc), p17 = some ⟨b, 0, none⟩ ∧ l[k]? = some z0 ∧ SH w0 w' (BX b z0 :: BX bkx x :: aI w5.heap.size 4 inR :: aI w2.heap.size 21 inR :: aI w1.heap.size 4 inR :: aB w.heap.size ([Value.slice t.a t.len t.cap].map Ce.v) :: aC cb s :: RP t l :: F)) ?_ ?_
    · skip
      refine ⟨t, h.cell 4 rfl rfl, ?_⟩
      refine ⟨t, h.cell 4 rfl rfl, ?_⟩
      refine ⟨?_, ?_⟩
      · skip
        have h := h.drew
        refine (s77 h 5 rfl hb).mono ?_
        rintro _ w305 ⟨n306, rfl, ⟨pn306a, pn306b⟩, h⟩
        refine ⟨n306, rfl, ?_⟩
        refine ⟨⟨t, h.cell 4 rfl rfl, (by first | rfl | trivial)⟩, ?_⟩
        refine ⟨by omega, ?_⟩
        refine ⟨by omega, ?_⟩
        obtain ⟨k4, rfl⟩ := Int.eq_ofNat_of_zero_le pn306a
        simp only [Int.toNat_natCast]
        have hgq308 : l[k4]? = some l[k4] := List.getElem?_eq_getElem (by omega)
        obtain ⟨q308, hqq308⟩ := h.rowQ 6 rfl hgq308
        refine ⟨q308, hqq308, ?_⟩
        refine ⟨_, h.rdR 6 rfl hqq308 hgq308 rfl, ?_⟩
        refine ⟨_, h.rdR 6 rfl hqq308 hgq308 rfl, ?_⟩
        refine ⟨_, h.rdR 6 rfl hqq308 hgq308 rfl, ?_⟩
        refine ⟨_, h.rdR 6 rfl hqq308 hgq308 rfl, ?_⟩
        refine ⟨_, h.rdR 6 rfl hqq308 hgq308 rfl, ?_⟩
        refine ⟨_, h.rdR 6 rfl hqq308 hgq308 rfl, ?_⟩
        refine ⟨_, h.rdR 6 rfl hqq308 hgq308 rfl, ?_⟩
        refine ⟨_, h.rdR 6 rfl hqq308 hgq308 rfl, ?_⟩
        refine ⟨_, h.rdR 6 rfl hqq308 hgq308 rfl, ?_⟩
        refine ⟨_, h.rdR 6 rfl hqq308 hgq308 rfl, ?_⟩
        refine ⟨?_, trivial⟩
        refine h.alloc (fun w319 h ew319 nw319 => ?_)
        refine ⟨⟨_, h.rdR 7 rfl hqq308 hgq308 rfl, _, h.rdR 7 rfl hqq308 hgq308 rfl, _, h.rdR 7 rfl hqq308 hgq308 rfl, _, h.rdR 7 rfl hqq308 hgq308 rfl, _, h.rdR 7 rfl hqq308 hgq308 rfl, _, h.rdR 7 rfl hqq308 hgq308 rfl, _, h.rdR 7 rfl hqq308 hgq308 rfl, _, h.rdR 7 rfl hqq308 hgq308 rfl, _, h.rdR 7 rfl hqq308 hgq308 rfl, _, h.rdR 7 rfl hqq308 hgq308 rfl, (by first | rfl | trivial)⟩, ?_⟩
        refine ⟨(by first | rfl | trivial), ?_⟩
        refine ⟨⟨t, h.cell 5 rfl rfl, (by first | rfl | trivial)⟩, ?_⟩
        refine ⟨⟨t, h.cell 5 rfl rfl, (by first | rfl | trivial)⟩, ?_⟩
        refine ⟨?_, trivial⟩
        refine h.put 0 rfl rfl rfl (fun w332 h nw332 => ?_)
        exact ⟨_, _, _, rfl, hgq308, (h.front (n := 0) rfl)⟩
      · skip
        refine ⟨?_, trivial⟩
        have h := h.drew
        refine h.alloc (fun w285 h ew285 nw285 => ?_)
        refine ⟨(by first | rfl | trivial), ?_⟩
        refine ⟨⟨t, h.cell 5 rfl rfl, (by first | rfl | trivial)⟩, ?_⟩
        refine ⟨⟨t, h.cell 5 rfl rfl, (by first | rfl | trivial)⟩, ?_⟩
        refine ⟨?_, trivial⟩
        refine (s77 h 6 rfl hb).mono ?_
        rintro _ w289 ⟨n290, rfl, ⟨pn290a, pn290b⟩, h⟩
        refine ⟨n290, rfl, ?_⟩
        refine ⟨⟨t, h.cell 5 rfl rfl, (by first | rfl | trivial)⟩, ?_⟩
        refine ⟨by omega, ?_⟩
        refine ⟨by omega, ?_⟩
        obtain ⟨k5, rfl⟩ := Int.eq_ofNat_of_zero_le pn290a
        simp only [Int.toNat_natCast]
        have hgq292 : l[k5]? = some l[k5] := List.getElem?_eq_getElem (by omega)
        obtain ⟨q292, hqq292⟩ := h.rowQ 7 rfl hgq292
        refine ⟨q292, hqq292, ?_⟩
        refine ⟨_, h.rdR 7 rfl hqq292 hgq292 rfl, ?_⟩
        refine ⟨_, h.rdR 7 rfl hqq292 hgq292 rfl, ?_⟩
        refine ⟨_, h.rdR 7 rfl hqq292 hgq292 rfl, ?_⟩
        refine ⟨_, h.rdR 7 rfl hqq292 hgq292 rfl, ?_⟩
        refine ⟨_, h.rdR 7 rfl hqq292 hgq292 rfl, ?_⟩
        refine ⟨_, h.rdR 7 rfl hqq292 hgq292 rfl, ?_⟩
        refine ⟨_, h.rdR 7 rfl hqq292 hgq292 rfl, ?_⟩
        refine ⟨_, h.rdR 7 rfl hqq292 hgq292 rfl, ?_⟩
        refine ⟨_, h.rdR 7 rfl hqq292 hgq292 rfl, ?_⟩
        refine ⟨_, h.rdR 7 rfl hqq292 hgq292 rfl, ?_⟩
        refine ⟨?_, trivial⟩
        refine h.put 0 rfl rfl rfl (fun w303 h nw303 => ?_)
        exact ⟨_, _, _, rfl, hgq292, (h.front (n := 0) rfl)⟩
    · clear h
      rintro (p17 : Option Addr) w19 ⟨bky, ky, y, rfl, hgy, h⟩
      obtain ⟨ry0, ry1, ry2, ry3, ry4, ry5, ry6, ry7, ry8, ry9⟩ := hv y (List.mem_of_getElem? hgy)
      refine JoinW.cut0 (fun w' => SH w0 w' (BX bky y :: BX bkx x :: aI w5.heap.size 4 inR :: aI w2.heap.size 21 inR :: aI w1.heap.size 4 inR :: aB w.heap.size ([Value.slice t.a t.len t.cap].map Ce.v) :: aC cb s :: RP t l :: F)) ?_ ?_
      · skip
        refine h.rI 2 rfl (by decide) (fun n67 pn67 => ?_)
        refine BIf.of (fun c6 => ?_) (fun c6 => ?_)
        · skip
          try simp only [Bool.or_eq_true, Bool.and_eq_true, Bool.or_eq_false_iff, Bool.not_eq_true', Bool.not_eq_false', decide_eq_true_eq, decide_eq_false_iff_not, beq_iff_eq, beq_eq_false_iff_ne, bne_iff_ne, bne_eq_false_iff_eq, ne_eq] at c6
          refine (s77 h 6 rfl hb).mono ?_
          rintro _ w69 ⟨n70, rfl, ⟨pn70a, pn70b⟩, h⟩
          refine ⟨n70, rfl, ?_⟩
          refine h.sI 2 rfl (by decide) (by first | assumption | exact wrapR _ | (constructor <;> omega) | decide) (fun w71 h => ?_)
          refine JoinW.cut0 (fun w' => SH w0 w' (BX bky y :: BX bkx x :: aI w5.heap.size 4 inR :: aI w2.heap.size 21 inR :: aI w1.heap.size 4 inR :: aB w.heap.size ([Value.slice t.a t.len t.cap].map Ce.v) :: aC cb s :: RP t l :: F)) ?_ ?_
          · skip
            refine addrOf_mk ?_
            refine ⟨_, h.cellP 0 rfl rfl, ?_⟩
            refine BIf.of (fun c7 => ?_) (fun c7 => ?_)
            · skip
              try simp only [Bool.or_eq_true, Bool.and_eq_true, Bool.or_eq_false_iff, Bool.not_eq_true', Bool.not_eq_false', decide_eq_true_eq, decide_eq_false_iff_not, beq_iff_eq, beq_eq_false_iff_ne, bne_iff_ne, bne_eq_false_iff_eq, ne_eq] at c7
              refine addrOf_mk ?_
              refine ⟨_, h.cellP 0 rfl rfl, ?_⟩
              refine h.sI 2 rfl (by decide) (by first | assumption | exact wrapR _ | (constructor <;> omega) | decide) (fun w88 h => ?_)
              exact h
            · skip
              try simp only [Bool.or_eq_true, Bool.and_eq_true, Bool.or_eq_false_iff, Bool.not_eq_true', Bool.not_eq_false', decide_eq_true_eq, decide_eq_false_iff_not, beq_iff_eq, beq_eq_false_iff_ne, bne_iff_ne, bne_eq_false_iff_eq, ne_eq] at c7
              exact h
          · clear h
            intro w73 h
            refine (s78 h 6 rfl hb).mono ?_
            rintro _ w75 ⟨b76, rfl, h⟩
            refine ⟨b76, rfl, ?_⟩
            refine BIf.of (fun c8 => ?_) (fun c8 => ?_)
            · skip
              try simp only [Bool.or_eq_true, Bool.and_eq_true, Bool.or_eq_false_iff, Bool.not_eq_true', Bool.not_eq_false', decide_eq_true_eq, decide_eq_false_iff_not, beq_iff_eq, beq_eq_false_iff_ne, bne_iff_ne, bne_eq_false_iff_eq, ne_eq] at c8
              refine h.alloc (fun w77 h ew77 nw77 => ?_)
              have h : SH w0 w77 (aI w75.heap.size 3 inR :: BX bky y :: BX bkx x :: aI w5.heap.size 4 inR :: aI w2.heap.size 21 inR :: aI w1.heap.size 4 inR :: aB w.heap.size ([Value.slice t.a t.len t.cap].map Ce.v) :: aC cb s :: RP t l :: F) := h.toI 0 [(-1), 255, 256] rfl rfl (by intro x hx; simp only [List.mem_cons, List.not_mem_nil, or_false] at hx; rcases hx with rfl | rfl | rfl <;> first | assumption | exact wrapR _ | (constructor <;> omega))
              refine (s77 h 7 rfl hb).mono ?_
              rintro _ w79 ⟨n80, rfl, ⟨pn80a, pn80b⟩, h⟩
              refine ⟨n80, rfl, ?_⟩
              refine ⟨by omega, ?_⟩
              refine ⟨by omega, ?_⟩
              refine ⟨_, rfl, ?_⟩
              obtain ⟨k9, rfl⟩ := Int.eq_ofNat_of_zero_le pn80a
              rw [Int.toNat_natCast]
              refine h.rIx 0 rfl (by omega) (fun n82 pn82 => ?_)
              refine h.sI 3 rfl (by decide) (by first | assumption | exact wrapR _ | (constructor <;> omega) | decide) (fun w83 h => ?_)
              exact h.drop
            · skip
              try simp only [Bool.or_eq_true, Bool.and_eq_true, Bool.or_eq_false_iff, Bool.not_eq_true', Bool.not_eq_false', decide_eq_true_eq, decide_eq_false_iff_not, beq_iff_eq, beq_eq_false_iff_ne, bne_iff_ne, bne_eq_false_iff_eq, ne_eq] at c8
              exact h
        · skip
          try simp only [Bool.or_eq_true, Bool.and_eq_true, Bool.or_eq_false_iff, Bool.not_eq_true', Bool.not_eq_false', decide_eq_true_eq, decide_eq_false_iff_not, beq_iff_eq, beq_eq_false_iff_ne, bne_iff_ne, bne_eq_false_iff_eq, ne_eq] at c6
          refine BIf.of (fun c10 => ?_) (fun c10 => ?_)
          · skip
            try simp only [Bool.or_eq_true, Bool.and_eq_true, Bool.or_eq_false_iff, Bool.not_eq_true', Bool.not_eq_false', decide_eq_true_eq, decide_eq_false_iff_not, beq_iff_eq, beq_eq_false_iff_ne, bne_iff_ne, bne_eq_false_iff_eq, ne_eq] at c10
            refine JoinW.cut0 (fun w' => SH w0 w' (BX bky y :: BX bkx x :: aI w5.heap.size 4 inR :: aI w2.heap.size 21 inR :: aI w1.heap.size 4 inR :: aB w.heap.size ([Value.slice t.a t.len t.cap].map Ce.v) :: aC cb s :: RP t l :: F)) ?_ ?_
            · skip
              refine addrOf_mk ?_
              refine ⟨_, h.cellP 0 rfl rfl, ?_⟩
              refine addrOf_mk ?_
              refine ⟨_, h.cellP 0 rfl rfl, ?_⟩
              refine ⟨?_, ?_⟩
              · skip
                have h := h.drew
                refine h.alloc (fun w110 h ew110 nw110 => ?_)
                have h : SH w0 w110 (aI w19.drew.heap.size 5 inR :: BX bky y :: BX bkx x :: aI w5.heap.size 4 inR :: aI w2.heap.size 21 inR :: aI w1.heap.size 4 inR :: aB w.heap.size ([Value.slice t.a t.len t.cap].map Ce.v) :: aC cb s :: RP t l :: F) := h.toI 0 [(-1), (-1), 0, y.Id, (IntKind.wrap .i64 (0 - y.Group))] rfl rfl (by intro x hx; simp only [List.mem_cons, List.not_mem_nil, or_false] at hx; rcases hx with rfl | rfl | rfl | rfl | rfl <;> first | assumption | exact wrapR _ | (constructor <;> omega))
                refine ⟨?_, trivial⟩
                refine (s77 h 7 rfl hb).mono ?_
                rintro _ w112 ⟨n113, rfl, ⟨pn113a, pn113b⟩, h⟩
                refine ⟨n113, rfl, ?_⟩
                refine ⟨⟨_, h.cellP 1 rfl rfl, (by first | rfl | trivial)⟩, ?_⟩
                refine ⟨⟨_, h.cellP 1 rfl rfl, (by first | rfl | trivial)⟩, ?_⟩
                refine ⟨by omega, ?_⟩
                refine ⟨by omega, ?_⟩
                refine ⟨_, rfl, ?_⟩
                obtain ⟨k11, rfl⟩ := Int.eq_ofNat_of_zero_le pn113a
                rw [Int.toNat_natCast]
                refine h.rIx 0 rfl (by omega) (fun n117 pn117 => ?_)
                refine ⟨?_, trivial⟩
                refine h.sI 3 rfl (by decide) (by first | assumption | exact wrapR _ | (constructor <;> omega) | decide) (fun w118 h => ?_)
                exact h.drop
              · skip
                refine ⟨?_, trivial⟩
                have h := h.drew
                refine (s77 h 6 rfl hb).mono ?_
                rintro _ w102 ⟨n103, rfl, ⟨pn103a, pn103b⟩, h⟩
                refine ⟨n103, rfl, ?_⟩
                refine ⟨⟨_, h.cellP 0 rfl rfl, (by first | rfl | trivial)⟩, ?_⟩
                refine ⟨⟨_, h.cellP 0 rfl rfl, (by first | rfl | trivial)⟩, ?_⟩
                refine ⟨?_, trivial⟩
                refine h.alloc (fun w106 h ew106 nw106 => ?_)
                have h : SH w0 w106 (aI w102.heap.size 5 inR :: BX bky y :: BX bkx x :: aI w5.heap.size 4 inR :: aI w2.heap.size 21 inR :: aI w1.heap.size 4 inR :: aB w.heap.size ([Value.slice t.a t.len t.cap].map Ce.v) :: aC cb s :: RP t l :: F) := h.toI 0 [(-1), (-1), 0, y.Id, (IntKind.wrap .i64 (0 - y.Group))] rfl rfl (by intro x hx; simp only [List.mem_cons, List.not_mem_nil, or_false] at hx; rcases hx with rfl | rfl | rfl | rfl | rfl <;> first | assumption | exact wrapR _ | (constructor <;> omega))
                refine ⟨by omega, ?_⟩
                refine ⟨by omega, ?_⟩
                refine ⟨_, rfl, ?_⟩
                obtain ⟨k12, rfl⟩ := Int.eq_ofNat_of_zero_le pn103a
                rw [Int.toNat_natCast]
                refine h.rIx 0 rfl (by omega) (fun n108 pn108 => ?_)
                refine ⟨?_, trivial⟩
                refine h.sI 3 rfl (by decide) (by first | assumption | exact wrapR _ | (constructor <;> omega) | decide) (fun w109 h => ?_)
                exact h.drop
            · clear h
              intro w90 h
              refine (s78 h 6 rfl hb).mono ?_
              rintro _ w92 ⟨b93, rfl, h⟩
              refine ⟨b93, rfl, ?_⟩
              refine BIf.of (fun c13 => ?_) (fun c13 => ?_)
              · skip
                try simp only [Bool.or_eq_true, Bool.and_eq_true, Bool.or_eq_false_iff, Bool.not_eq_true', Bool.not_eq_false', decide_eq_true_eq, decide_eq_false_iff_not, beq_iff_eq, beq_eq_false_iff_ne, bne_iff_ne, bne_eq_false_iff_eq, ne_eq] at c13
                refine addrOf_mk ?_
                refine ⟨_, h.cellP 0 rfl rfl, ?_⟩
                refine h.sI 2 rfl (by decide) (by first | assumption | exact wrapR _ | (constructor <;> omega) | decide) (fun w96 h => ?_)
                exact h
              · skip
                try simp only [Bool.or_eq_true, Bool.and_eq_true, Bool.or_eq_false_iff, Bool.not_eq_true', Bool.not_eq_false', decide_eq_true_eq, decide_eq_false_iff_not, beq_iff_eq, beq_eq_false_iff_ne, bne_iff_ne, bne_eq_false_iff_eq, ne_eq] at c13
                exact h
          · skip
            try simp only [Bool.or_eq_true, Bool.and_eq_true, Bool.or_eq_false_iff, Bool.not_eq_true', Bool.not_eq_false', decide_eq_true_eq, decide_eq_false_iff_not, beq_iff_eq, beq_eq_false_iff_ne, bne_iff_ne, bne_eq_false_iff_eq, ne_eq] at c10
            refine BIf.of (fun c14 => ?_) (fun c14 => ?_)
            · skip
              try simp only [Bool.or_eq_true, Bool.and_eq_true, Bool.or_eq_false_iff, Bool.not_eq_true', Bool.not_eq_false', decide_eq_true_eq, decide_eq_false_iff_not, beq_iff_eq, beq_eq_false_iff_ne, bne_iff_ne, bne_eq_false_iff_eq, ne_eq] at c14
              refine JoinW.cut0 (fun w' => SH w0 w' (BX bky y :: BX bkx x :: aI w5.heap.size 4 inR :: aI w2.heap.size 21 inR :: aI w1.heap.size 4 inR :: aB w.heap.size ([Value.slice t.a t.len t.cap].map Ce.v) :: aC cb s :: RP t l :: F)) ?_ ?_
              · skip
                refine addrOf_mk ?_
                refine ⟨_, h.cellP 0 rfl rfl, ?_⟩
                refine addrOf_mk ?_
                refine ⟨_, h.cellP 0 rfl rfl, ?_⟩
                refine addrOf_mk ?_
                refine ⟨_, h.cellP 0 rfl rfl, ?_⟩
                refine addrOf_mk ?_
                refine ⟨_, h.cellP 0 rfl rfl, ?_⟩
                refine ⟨?_, ?_⟩
                · skip
                  have h := h.drew
                  refine h.alloc (fun w170 h ew170 nw170 => ?_)
                  have h : SH w0 w170 (aI w19.drew.heap.size 6 inR :: BX bky y :: BX bkx x :: aI w5.heap.size 4 inR :: aI w2.heap.size 21 inR :: aI w1.heap.size 4 inR :: aB w.heap.size ([Value.slice t.a t.len t.cap].map Ce.v) :: aC cb s :: RP t l :: F) := h.toI 0 [y.Id, y.Id, y.Id, 0, (-1), (IntKind.wrap .i64 (0 - y.Group))] rfl rfl (by intro x hx; simp only [List.mem_cons, List.not_mem_nil, or_false] at hx; rcases hx with rfl | rfl | rfl | rfl | rfl | rfl <;> first | assumption | exact wrapR _ | (constructor <;> omega))
                  refine ⟨?_, trivial⟩
                  refine (s77 h 7 rfl hb).mono ?_
                  rintro _ w172 ⟨n173, rfl, ⟨pn173a, pn173b⟩, h⟩
                  refine ⟨n173, rfl, ?_⟩
                  refine ⟨⟨_, h.cellP 1 rfl rfl, (by first | rfl | trivial)⟩, ?_⟩
                  refine ⟨⟨_, h.cellP 1 rfl rfl, (by first | rfl | trivial)⟩, ?_⟩
                  refine ⟨⟨_, h.cellP 1 rfl rfl, (by first | rfl | trivial)⟩, ?_⟩
                  refine ⟨⟨_, h.cellP 1 rfl rfl, (by first | rfl | trivial)⟩, ?_⟩
                  refine ⟨by omega, ?_⟩
                  refine ⟨by omega, ?_⟩
                  refine ⟨_, rfl, ?_⟩
                  obtain ⟨k15, rfl⟩ := Int.eq_ofNat_of_zero_le pn173a
                  rw [Int.toNat_natCast]
                  refine h.rIx 0 rfl (by omega) (fun n179 pn179 => ?_)
                  refine ⟨?_, trivial⟩
                  refine h.sI 3 rfl (by decide) (by first | assumption | exact wrapR _ | (constructor <;> omega) | decide) (fun w180 h => ?_)
                  exact h.drop
                · skip
                  refine ⟨?_, trivial⟩
                  have h := h.drew
                  refine (s77 h 6 rfl hb).mono ?_
                  rintro _ w160 ⟨n161, rfl, ⟨pn161a, pn161b⟩, h⟩
                  refine ⟨n161, rfl, ?_⟩
                  refine ⟨⟨_, h.cellP 0 rfl rfl, (by first | rfl | trivial)⟩, ?_⟩
                  refine ⟨⟨_, h.cellP 0 rfl rfl, (by first | rfl | trivial)⟩, ?_⟩
                  refine ⟨⟨_, h.cellP 0 rfl rfl, (by first | rfl | trivial)⟩, ?_⟩
                  refine ⟨⟨_, h.cellP 0 rfl rfl, (by first | rfl | trivial)⟩, ?_⟩
                  refine ⟨?_, trivial⟩
                  refine h.alloc (fun w166 h ew166 nw166 => ?_)
                  have h : SH w0 w166 (aI w160.heap.size 6 inR :: BX bky y :: BX bkx x :: aI w5.heap.size 4 inR :: aI w2.heap.size 21 inR :: aI w1.heap.size 4 inR :: aB w.heap.size ([Value.slice t.a t.len t.cap].map Ce.v) :: aC cb s :: RP t l :: F) := h.toI 0 [y.Id, y.Id, y.Id, 0, (-1), (IntKind.wrap .i64 (0 - y.Group))] rfl rfl (by intro x hx; simp only [List.mem_cons, List.not_mem_nil, or_false] at hx; rcases hx with rfl | rfl | rfl | rfl | rfl | rfl <;> first | assumption | exact wrapR _ | (constructor <;> omega))
                  refine ⟨by omega, ?_⟩
                  refine ⟨by omega, ?_⟩
                  refine ⟨_, rfl, ?_⟩
                  obtain ⟨k16, rfl⟩ := Int.eq_ofNat_of_zero_le pn161a
                  rw [Int.toNat_natCast]
                  refine h.rIx 0 rfl (by omega) (fun n168 pn168 => ?_)
                  refine ⟨?_, trivial⟩
                  refine h.sI 3 rfl (by decide) (by first | assumption | exact wrapR _ | (constructor <;> omega) | decide) (fun w169 h => ?_)
                  exact h.drop
              · clear h
                intro w120 h
                refine (s145 ((h.front (n := 6) rfl)) hb).mono ?_
                rintro _ w122 ⟨n123, rfl, pn123, h⟩
                have h : SH w0 w122 (BX bky y :: BX bkx x :: aI w5.heap.size 4 inR :: aI w2.heap.size 21 inR :: aI w1.heap.size 4 inR :: aB w.heap.size ([Value.slice t.a t.len t.cap].map Ce.v) :: aC cb s :: RP t l :: F) := ((((((h.front (n := 6) rfl).front (n := 6) rfl).front (n := 6) rfl).front (n := 6) rfl).front (n := 6) rfl).front (n := 6) rfl)
                refine ⟨n123, rfl, ?_⟩
                refine h.sI 2 rfl (by decide) (by first | assumption | exact wrapR _ | (constructor <;> omega) | decide) (fun w124 h => ?_)
                refine (s78 h 6 rfl hb).mono ?_
                rintro _ w126 ⟨b127, rfl, h⟩
                refine ⟨b127, rfl, ?_⟩
                refine JoinW.cut1 (fun (b128 : Bool) w' => SH w0 w' (BX bky y :: BX bkx x :: aI w5.heap.size 4 inR :: aI w2.heap.size 21 inR :: aI w1.heap.size 4 inR :: aB w.heap.size ([Value.slice t.a t.len t.cap].map Ce.v) :: aC cb s :: RP t l :: F)) ?_ ?_
                · skip
                  refine BIf.of (fun c17 => ?_) (fun c17 => ?_)
                  · skip
                    try simp only [Bool.or_eq_true, Bool.and_eq_true, Bool.or_eq_false_iff, Bool.not_eq_true', Bool.not_eq_false', decide_eq_true_eq, decide_eq_false_iff_not, beq_iff_eq, beq_eq_false_iff_ne, bne_iff_ne, bne_eq_false_iff_eq, ne_eq] at c17
                    refine addrOf_mk ?_
                    refine ⟨_, h.cellP 0 rfl rfl, ?_⟩
                    refine (c143any (n := 13) (by omega)).mono ?_
                    rintro _ w144 ⟨b145, rfl, rfl⟩
                    refine ⟨_, rfl, ?_⟩
                    refine BIf.of (fun c18 => ?_) (fun c18 => ?_)
                    · skip
                      try simp only [Bool.or_eq_true, Bool.and_eq_true, Bool.or_eq_false_iff, Bool.not_eq_true', Bool.not_eq_false', decide_eq_true_eq, decide_eq_false_iff_not, beq_iff_eq, beq_eq_false_iff_ne, bne_iff_ne, bne_eq_false_iff_eq, ne_eq] at c18
                      exact h
                    · skip
                      try simp only [Bool.or_eq_true, Bool.and_eq_true, Bool.or_eq_false_iff, Bool.not_eq_true', Bool.not_eq_false', decide_eq_true_eq, decide_eq_false_iff_not, beq_iff_eq, beq_eq_false_iff_ne, bne_iff_ne, bne_eq_false_iff_eq, ne_eq] at c18
                      refine addrOf_mk ?_
                      refine ⟨_, h.cellP 0 rfl rfl, ?_⟩
                      refine (c143any (n := 12) (by omega)).mono ?_
                      rintro _ w149 ⟨b150, rfl, rfl⟩
                      refine ⟨_, rfl, ?_⟩
                      exact h
                  · skip
                    try simp only [Bool.or_eq_true, Bool.and_eq_true, Bool.or_eq_false_iff, Bool.not_eq_true', Bool.not_eq_false', decide_eq_true_eq, decide_eq_false_iff_not, beq_iff_eq, beq_eq_false_iff_ne, bne_iff_ne, bne_eq_false_iff_eq, ne_eq] at c17
                    exact h
                · clear h
                  rintro (b128 : Bool) w130 h
                  refine BIf.of (fun c19 => ?_) (fun c19 => ?_)
                  · skip
                    try simp only [Bool.or_eq_true, Bool.and_eq_true, Bool.or_eq_false_iff, Bool.not_eq_true', Bool.not_eq_false', decide_eq_true_eq, decide_eq_false_iff_not, beq_iff_eq, beq_eq_false_iff_ne, bne_iff_ne, bne_eq_false_iff_eq, ne_eq] at c19
                    refine addrOf_mk ?_
                    refine ⟨_, h.cellP 0 rfl rfl, ?_⟩
                    refine h.sI 2 rfl (by decide) (by first | assumption | exact wrapR _ | (constructor <;> omega) | decide) (fun w133 h => ?_)
                    refine h.sI 2 rfl (by decide) (by first | assumption | exact wrapR _ | (constructor <;> omega) | decide) (fun w134 h => ?_)
                    refine addrOf_mk ?_
                    refine ⟨_, h.cellP 0 rfl rfl, ?_⟩
                    refine (c143any (n := 12) (by omega)).mono ?_
                    rintro _ w138 ⟨b139, rfl, rfl⟩
                    refine ⟨_, rfl, ?_⟩
                    refine BIf.of (fun c20 => ?_) (fun c20 => ?_)
                    · skip
                      try simp only [Bool.or_eq_true, Bool.and_eq_true, Bool.or_eq_false_iff, Bool.not_eq_true', Bool.not_eq_false', decide_eq_true_eq, decide_eq_false_iff_not, beq_iff_eq, beq_eq_false_iff_ne, bne_iff_ne, bne_eq_false_iff_eq, ne_eq] at c20
                      refine h.sI 2 rfl (by decide) (by first | assumption | exact wrapR _ | (constructor <;> omega) | decide) (fun w140 h => ?_)
                      exact h
                    · skip
                      try simp only [Bool.or_eq_true, Bool.and_eq_true, Bool.or_eq_false_iff, Bool.not_eq_true', Bool.not_eq_false', decide_eq_true_eq, decide_eq_false_iff_not, beq_iff_eq, beq_eq_false_iff_ne, bne_iff_ne, bne_eq_false_iff_eq, ne_eq] at c20
                      exact h
                  · skip
                    try simp only [Bool.or_eq_true, Bool.and_eq_true, Bool.or_eq_false_iff, Bool.not_eq_true', Bool.not_eq_false', decide_eq_true_eq, decide_eq_false_iff_not, beq_iff_eq, beq_eq_false_iff_ne, bne_iff_ne, bne_eq_false_iff_eq, ne_eq] at c19
                    exact h
            · skip
              try simp only [Bool.or_eq_true, Bool.and_eq_true, Bool.or_eq_false_iff, Bool.not_eq_true', Bool.not_eq_false', decide_eq_true_eq, decide_eq_false_iff_not, beq_iff_eq, beq_eq_false_iff_ne, bne_iff_ne, bne_eq_false_iff_eq, ne_eq] at c14
              refine BIf.of (fun c21 => ?_) (fun c21 => ?_)
              · skip
                try simp only [Bool.or_eq_true, Bool.and_eq_true, Bool.or_eq_false_iff, Bool.not_eq_true', Bool.not_eq_false', decide_eq_true_eq, decide_eq_false_iff_not, beq_iff_eq, beq_eq_false_iff_ne, bne_iff_ne, bne_eq_false_iff_eq, ne_eq] at c21
                refine (s146 ((h.front (n := 6) rfl)) hb).mono ?_
                rintro _ w182 ⟨n183, rfl, pn183, h⟩
                have h : SH w0 w182 (BX bky y :: BX bkx x :: aI w5.heap.size 4 inR :: aI w2.heap.size 21 inR :: aI w1.heap.size 4 inR :: aB w.heap.size ([Value.slice t.a t.len t.cap].map Ce.v) :: aC cb s :: RP t l :: F) := ((((((h.front (n := 6) rfl).front (n := 6) rfl).front (n := 6) rfl).front (n := 6) rfl).front (n := 6) rfl).front (n := 6) rfl)
                refine ⟨n183, rfl, ?_⟩
                refine h.sI 2 rfl (by decide) (by first | assumption | exact wrapR _ | (constructor <;> omega) | decide) (fun w184 h => ?_)
                exact h
              · skip
                try simp only [Bool.or_eq_true, Bool.and_eq_true, Bool.or_eq_false_iff, Bool.not_eq_true', Bool.not_eq_false', decide_eq_true_eq, decide_eq_false_iff_not, beq_iff_eq, beq_eq_false_iff_ne, bne_iff_ne, bne_eq_false_iff_eq, ne_eq] at c21
                refine BIf.of (fun c22 => ?_) (fun c22 => ?_)
                · skip
                  try simp only [Bool.or_eq_true, Bool.and_eq_true, Bool.or_eq_false_iff, Bool.not_eq_true', Bool.not_eq_false', decide_eq_true_eq, decide_eq_false_iff_not, beq_iff_eq, beq_eq_false_iff_ne, bne_iff_ne, bne_eq_false_iff_eq, ne_eq] at c22
                  refine (s145 ((h.front (n := 6) rfl)) hb).mono ?_
                  rintro _ w186 ⟨n187, rfl, pn187, h⟩
                  have h : SH w0 w186 (BX bky y :: BX bkx x :: aI w5.heap.size 4 inR :: aI w2.heap.size 21 inR :: aI w1.heap.size 4 inR :: aB w.heap.size ([Value.slice t.a t.len t.cap].map Ce.v) :: aC cb s :: RP t l :: F) := ((((((h.front (n := 6) rfl).front (n := 6) rfl).front (n := 6) rfl).front (n := 6) rfl).front (n := 6) rfl).front (n := 6) rfl)
                  refine ⟨n187, rfl, ?_⟩
                  refine h.sI 2 rfl (by decide) (by first | assumption | exact wrapR _ | (constructor <;> omega) | decide) (fun w188 h => ?_)
                  refine (s77 h 6 rfl hb).mono ?_
                  rintro _ w190 ⟨n191, rfl, ⟨pn191a, pn191b⟩, h⟩
                  refine ⟨n191, rfl, ?_⟩
                  refine h.sI 2 rfl (by decide) (by first | assumption | exact wrapR _ | (constructor <;> omega) | decide) (fun w192 h => ?_)
                  refine (s78 h 6 rfl hb).mono ?_
                  rintro _ w194 ⟨b195, rfl, h⟩
                  refine ⟨b195, rfl, ?_⟩
                  refine BIf.of (fun c23 => ?_) (fun c23 => ?_)
                  · skip
                    try simp only [Bool.or_eq_true, Bool.and_eq_true, Bool.or_eq_false_iff, Bool.not_eq_true', Bool.not_eq_false', decide_eq_true_eq, decide_eq_false_iff_not, beq_iff_eq, beq_eq_false_iff_ne, bne_iff_ne, bne_eq_false_iff_eq, ne_eq] at c23
                    refine h.alloc (fun w196 h ew196 nw196 => ?_)
                    have h : SH w0 w196 (aI w194.heap.size 2 inR :: BX bky y :: BX bkx x :: aI w5.heap.size 4 inR :: aI w2.heap.size 21 inR :: aI w1.heap.size 4 inR :: aB w.heap.size ([Value.slice t.a t.len t.cap].map Ce.v) :: aC cb s :: RP t l :: F) := h.toI 0 [(-1), 3] rfl rfl (by intro x hx; simp only [List.mem_cons, List.not_mem_nil, or_false] at hx; rcases hx with rfl | rfl <;> first | assumption | exact wrapR _ | (constructor <;> omega))
                    refine (s77 h 7 rfl hb).mono ?_
                    rintro _ w198 ⟨n199, rfl, ⟨pn199a, pn199b⟩, h⟩
                    refine ⟨n199, rfl, ?_⟩
                    refine ⟨by omega, ?_⟩
                    refine ⟨by omega, ?_⟩
                    refine ⟨_, rfl, ?_⟩
                    obtain ⟨k24, rfl⟩ := Int.eq_ofNat_of_zero_le pn199a
                    rw [Int.toNat_natCast]
                    refine h.rIx 0 rfl (by omega) (fun n201 pn201 => ?_)
                    refine h.sI 3 rfl (by decide) (by first | assumption | exact wrapR _ | (constructor <;> omega) | decide) (fun w202 h => ?_)
                    exact h.drop
                  · skip
                    try simp only [Bool.or_eq_true, Bool.and_eq_true, Bool.or_eq_false_iff, Bool.not_eq_true', Bool.not_eq_false', decide_eq_true_eq, decide_eq_false_iff_not, beq_iff_eq, beq_eq_false_iff_ne, bne_iff_ne, bne_eq_false_iff_eq, ne_eq] at c23
                    exact h
                · skip
                  try simp only [Bool.or_eq_true, Bool.and_eq_true, Bool.or_eq_false_iff, Bool.not_eq_true', Bool.not_eq_false', decide_eq_true_eq, decide_eq_false_iff_not, beq_iff_eq, beq_eq_false_iff_ne, bne_iff_ne, bne_eq_false_iff_eq, ne_eq] at c22
                  refine BIf.of (fun c25 => ?_) (fun c25 => ?_)
                  · skip
                    try simp only [Bool.or_eq_true, Bool.and_eq_true, Bool.or_eq_false_iff, Bool.not_eq_true', Bool.not_eq_false', decide_eq_true_eq, decide_eq_false_iff_not, beq_iff_eq, beq_eq_false_iff_ne, bne_iff_ne, bne_eq_false_iff_eq, ne_eq] at c25
                    refine JoinW.cut0 (fun w' => SH w0 w' (BX bky y :: BX bkx x :: aI w5.heap.size 4 inR :: aI w2.heap.size 21 inR :: aI w1.heap.size 4 inR :: aB w.heap.size ([Value.slice t.a t.len t.cap].map Ce.v) :: aC cb s :: RP t l :: F)) ?_ ?_
                    · skip
                      refine addrOf_mk ?_
                      refine ⟨_, h.cellP 1 rfl rfl, ?_⟩
                      refine addrOf_mk ?_
                      refine ⟨_, h.cellP 0 rfl rfl, ?_⟩
                      refine ⟨?_, ?_⟩
                      · skip
                        have h := h.drew
                        refine h.alloc (fun w260 h ew260 nw260 => ?_)
                        have h : SH w0 w260 (aI w19.drew.heap.size 2 inR :: BX bky y :: BX bkx x :: aI w5.heap.size 4 inR :: aI w2.heap.size 21 inR :: aI w1.heap.size 4 inR :: aB w.heap.size ([Value.slice t.a t.len t.cap].map Ce.v) :: aC cb s :: RP t l :: F) := h.toI 0 [x.Id, y.Id] rfl rfl (by intro x hx; simp only [List.mem_cons, List.not_mem_nil, or_false] at hx; rcases hx with rfl | rfl <;> first | assumption | exact wrapR _ | (constructor <;> omega))
                        refine ⟨?_, trivial⟩
                        refine (s77 h 7 rfl hb).mono ?_
                        rintro _ w262 ⟨n263, rfl, ⟨pn263a, pn263b⟩, h⟩
                        refine ⟨n263, rfl, ?_⟩
                        refine ⟨⟨_, h.cellP 1 rfl rfl, (by first | rfl | trivial)⟩, ?_⟩
                        refine ⟨⟨_, h.cellP 2 rfl rfl, (by first | rfl | trivial)⟩, ?_⟩
                        refine ⟨by omega, ?_⟩
                        refine ⟨by omega, ?_⟩
                        refine ⟨_, rfl, ?_⟩
                        obtain ⟨k26, rfl⟩ := Int.eq_ofNat_of_zero_le pn263a
                        rw [Int.toNat_natCast]
                        refine h.rIx 0 rfl (by omega) (fun n267 pn267 => ?_)
                        refine ⟨?_, trivial⟩
                        refine h.sI 3 rfl (by decide) (by first | assumption | exact wrapR _ | (constructor <;> omega) | decide) (fun w268 h => ?_)
                        exact h.drop
                      · skip
                        refine ⟨?_, trivial⟩
                        have h := h.drew
                        refine (s77 h 6 rfl hb).mono ?_
                        rintro _ w252 ⟨n253, rfl, ⟨pn253a, pn253b⟩, h⟩
                        refine ⟨n253, rfl, ?_⟩
                        refine ⟨⟨_, h.cellP 0 rfl rfl, (by first | rfl | trivial)⟩, ?_⟩
                        refine ⟨⟨_, h.cellP 1 rfl rfl, (by first | rfl | trivial)⟩, ?_⟩
                        refine ⟨?_, trivial⟩
                        refine h.alloc (fun w256 h ew256 nw256 => ?_)
                        have h : SH w0 w256 (aI w252.heap.size 2 inR :: BX bky y :: BX bkx x :: aI w5.heap.size 4 inR :: aI w2.heap.size 21 inR :: aI w1.heap.size 4 inR :: aB w.heap.size ([Value.slice t.a t.len t.cap].map Ce.v) :: aC cb s :: RP t l :: F) := h.toI 0 [x.Id, y.Id] rfl rfl (by intro x hx; simp only [List.mem_cons, List.not_mem_nil, or_false] at hx; rcases hx with rfl | rfl <;> first | assumption | exact wrapR _ | (constructor <;> omega))
                        refine ⟨by omega, ?_⟩
                        refine ⟨by omega, ?_⟩
                        refine ⟨_, rfl, ?_⟩
                        obtain ⟨k27, rfl⟩ := Int.eq_ofNat_of_zero_le pn253a
                        rw [Int.toNat_natCast]
                        refine h.rIx 0 rfl (by omega) (fun n258 pn258 => ?_)
                        refine ⟨?_, trivial⟩
                        refine h.sI 3 rfl (by decide) (by first | assumption | exact wrapR _ | (constructor <;> omega) | decide) (fun w259 h => ?_)
                        exact h.drop
                    · clear h
                      intro w204 h
                      refine JoinW.cut0 (fun w' => SH w0 w' (BX bky y :: BX bkx x :: aI w5.heap.size 4 inR :: aI w2.heap.size 21 inR :: aI w1.heap.size 4 inR :: aB w.heap.size ([Value.slice t.a t.len t.cap].map Ce.v) :: aC cb s :: RP t l :: F)) ?_ ?_
                      · skip
                        refine (s78 h 6 rfl hb).mono ?_
                        rintro _ w239 ⟨b240, rfl, h⟩
                        refine ⟨b240, rfl, ?_⟩
                        refine BIf.of (fun c28 => ?_) (fun c28 => ?_)
                        · skip
                          try simp only [Bool.or_eq_true, Bool.and_eq_true, Bool.or_eq_false_iff, Bool.not_eq_true', Bool.not_eq_false', decide_eq_true_eq, decide_eq_false_iff_not, beq_iff_eq, beq_eq_false_iff_ne, bne_iff_ne, bne_eq_false_iff_eq, ne_eq] at c28
                          refine addrOf_mk ?_
                          refine ⟨_, h.cellP 0 rfl rfl, ?_⟩
                          refine h.sI 2 rfl (by decide) (by first | assumption | exact wrapR _ | (constructor <;> omega) | decide) (fun w243 h => ?_)
                          refine addrOf_mk ?_
                          refine ⟨_, h.cellP 0 rfl rfl, ?_⟩
                          refine h.sI 2 rfl (by decide) (by first | assumption | exact wrapR _ | (constructor <;> omega) | decide) (fun w246 h => ?_)
                          exact h
                        · skip
                          try simp only [Bool.or_eq_true, Bool.and_eq_true, Bool.or_eq_false_iff, Bool.not_eq_true', Bool.not_eq_false', decide_eq_true_eq, decide_eq_false_iff_not, beq_iff_eq, beq_eq_false_iff_ne, bne_iff_ne, bne_eq_false_iff_eq, ne_eq] at c28
                          exact h
                      · clear h
                        intro w206 h
                        obtain ⟨xs33, ⟨lxs33, pxs33⟩, h⟩ := h.openI 2 rfl
                        obtain ⟨y29, y30, y31, y32, rfl⟩ := list4 lxs33
                        have py29 := pxs33 y29 (by simp)
                        have py30 := pxs33 y30 (by simp)
                        have py31 := pxs33 y31 (by simp)
                        have py32 := pxs33 y32 (by simp)
                        refine ⟨_, h.cell 2 rfl rfl, ?_⟩
                        refine addrOf_mk ?_
                        refine ⟨_, h.cellP 1 rfl rfl, ?_⟩
                        refine addrOf_mk ?_
                        refine ⟨_, h.cellP 0 rfl rfl, ?_⟩
                        refine ⟨?_, trivial⟩
                        have h := h.drew
                        refine (s77 h 6 rfl hb).mono ?_
                        rintro _ w213 ⟨n214, rfl, ⟨pn214a, pn214b⟩, h⟩
                        refine ⟨n214, rfl, ?_⟩
                        refine ⟨⟨_, h.cellP 0 rfl rfl, (by first | rfl | trivial)⟩, ?_⟩
                        refine ⟨⟨_, h.cellP 1 rfl rfl, (by first | rfl | trivial)⟩, ?_⟩
                        refine ⟨⟨_, h.cell 2 rfl rfl, (by first | rfl | trivial)⟩, ?_⟩
                        refine ⟨?_, ?_⟩
                        · skip
                          refine h.alloc (fun w228 h ew228 nw228 => ?_)
                          have h : SH w0 w228 (aI w213.heap.size 4 inR :: BX bky y :: BX bkx x :: aB w5.heap.size ([.int .i64 y29, .int .i64 y30, .int .i64 y31, .int .i64 y32].map Ce.v) :: aI w2.heap.size 21 inR :: aI w1.heap.size 4 inR :: aB w.heap.size ([Value.slice t.a t.len t.cap].map Ce.v) :: aC cb s :: RP t l :: F) := h.toI 0 [_, x.Group, y.Group, n214] rfl rfl (by intro x hx; simp only [List.mem_cons, List.not_mem_nil, or_false] at hx; rcases hx with rfl | rfl | rfl | rfl <;> first | assumption | exact wrapR _ | (constructor <;> omega))
                          refine ⟨?_, trivial⟩
                          refine (s77 h 7 rfl hb).mono ?_
                          rintro _ w230 ⟨n231, rfl, ⟨pn231a, pn231b⟩, h⟩
                          refine ⟨n231, rfl, ?_⟩
                          refine ⟨⟨_, h.cellP 1 rfl rfl, (by first | rfl | trivial)⟩, ?_⟩
                          refine ⟨⟨_, h.cellP 2 rfl rfl, (by first | rfl | trivial)⟩, ?_⟩
                          refine ⟨⟨_, h.cell 3 rfl rfl, (by first | rfl | trivial)⟩, ?_⟩
                          refine ⟨by omega, ?_⟩
                          refine ⟨by omega, ?_⟩
                          refine ⟨_, rfl, ?_⟩
                          obtain ⟨k34, rfl⟩ := Int.eq_ofNat_of_zero_le pn231a
                          rw [Int.toNat_natCast]
                          refine h.rIx 0 rfl (by omega) (fun n236 pn236 => ?_)
                          refine ⟨?_, trivial⟩
                          refine h.setV 3 rfl rfl (fun w237 h nw237 => ?_)
                          have h := h.toI 3 [y29, y30, y31, n236] rfl rfl (by intro x hx; simp only [List.mem_cons, List.not_mem_nil, or_false] at hx; rcases hx with rfl | rfl | rfl | rfl <;> first | assumption | exact wrapR _ | (constructor <;> omega))
                          exact h.drop
                        · skip
                          refine ⟨?_, trivial⟩
                          refine (s77 h 6 rfl hb).mono ?_
                          rintro _ w219 ⟨n220, rfl, ⟨pn220a, pn220b⟩, h⟩
                          refine ⟨n220, rfl, ?_⟩
                          refine ⟨⟨_, h.cellP 0 rfl rfl, (by first | rfl | trivial)⟩, ?_⟩
                          refine ⟨⟨_, h.cellP 1 rfl rfl, (by first | rfl | trivial)⟩, ?_⟩
                          refine ⟨⟨_, h.cell 2 rfl rfl, (by first | rfl | trivial)⟩, ?_⟩
                          refine ⟨?_, trivial⟩
                          refine h.alloc (fun w224 h ew224 nw224 => ?_)
                          have h : SH w0 w224 (aI w219.heap.size 4 inR :: BX bky y :: BX bkx x :: aB w5.heap.size ([.int .i64 y29, .int .i64 y30, .int .i64 y31, .int .i64 y32].map Ce.v) :: aI w2.heap.size 21 inR :: aI w1.heap.size 4 inR :: aB w.heap.size ([Value.slice t.a t.len t.cap].map Ce.v) :: aC cb s :: RP t l :: F) := h.toI 0 [_, x.Group, y.Group, n214] rfl rfl (by intro x hx; simp only [List.mem_cons, List.not_mem_nil, or_false] at hx; rcases hx with rfl | rfl | rfl | rfl <;> first | assumption | exact wrapR _ | (constructor <;> omega))
                          refine ⟨by omega, ?_⟩
                          refine ⟨by omega, ?_⟩
                          refine ⟨_, rfl, ?_⟩
                          obtain ⟨k35, rfl⟩ := Int.eq_ofNat_of_zero_le pn220a
                          rw [Int.toNat_natCast]
                          refine h.rIx 0 rfl (by omega) (fun n226 pn226 => ?_)
                          refine ⟨?_, trivial⟩
                          refine h.setV 3 rfl rfl (fun w227 h nw227 => ?_)
                          have h := h.toI 3 [y29, y30, y31, n226] rfl rfl (by intro x hx; simp only [List.mem_cons, List.not_mem_nil, or_false] at hx; rcases hx with rfl | rfl | rfl | rfl <;> first | assumption | exact wrapR _ | (constructor <;> omega))
                          exact h.drop
                  · skip
                    try simp only [Bool.or_eq_true, Bool.and_eq_true, Bool.or_eq_false_iff, Bool.not_eq_true', Bool.not_eq_false', decide_eq_true_eq, decide_eq_false_iff_not, beq_iff_eq, beq_eq_false_iff_ne, bne_iff_ne, bne_eq_false_iff_eq, ne_eq] at c25
                    refine BIf.of (fun c36 => ?_) (fun c36 => ?_)
                    · skip
                      try simp only [Bool.or_eq_true, Bool.and_eq_true, Bool.or_eq_false_iff, Bool.not_eq_true', Bool.not_eq_false', decide_eq_true_eq, decide_eq_false_iff_not, beq_iff_eq, beq_eq_false_iff_ne, bne_iff_ne, bne_eq_false_iff_eq, ne_eq] at c36
                      refine (s77 h 6 rfl hb).mono ?_
                      rintro _ w270 ⟨n271, rfl, ⟨pn271a, pn271b⟩, h⟩
                      refine ⟨n271, rfl, ?_⟩
                      refine h.sI 2 rfl (by decide) (by first | assumption | exact wrapR _ | (constructor <;> omega) | decide) (fun w272 h => ?_)
                      refine (s78 h 6 rfl hb).mono ?_
                      rintro _ w274 ⟨b275, rfl, h⟩
                      refine ⟨b275, rfl, ?_⟩
                      refine BIf.of (fun c37 => ?_) (fun c37 => ?_)
                      · skip
                        try simp only [Bool.or_eq_true, Bool.and_eq_true, Bool.or_eq_false_iff, Bool.not_eq_true', Bool.not_eq_false', decide_eq_true_eq, decide_eq_false_iff_not, beq_iff_eq, beq_eq_false_iff_ne, bne_iff_ne, bne_eq_false_iff_eq, ne_eq] at c37
                        refine h.alloc (fun w276 h ew276 nw276 => ?_)
                        have h : SH w0 w276 (aI w274.heap.size 3 inR :: BX bky y :: BX bkx x :: aI w5.heap.size 4 inR :: aI w2.heap.size 21 inR :: aI w1.heap.size 4 inR :: aB w.heap.size ([Value.slice t.a t.len t.cap].map Ce.v) :: aC cb s :: RP t l :: F) := h.toI 0 [(-1), 255, 256] rfl rfl (by intro x hx; simp only [List.mem_cons, List.not_mem_nil, or_false] at hx; rcases hx with rfl | rfl | rfl <;> first | assumption | exact wrapR _ | (constructor <;> omega))
                        refine (s77 h 7 rfl hb).mono ?_
                        rintro _ w278 ⟨n279, rfl, ⟨pn279a, pn279b⟩, h⟩
                        refine ⟨n279, rfl, ?_⟩
                        refine ⟨by omega, ?_⟩
                        refine ⟨by omega, ?_⟩
                        refine ⟨_, rfl, ?_⟩
                        obtain ⟨k38, rfl⟩ := Int.eq_ofNat_of_zero_le pn279a
                        rw [Int.toNat_natCast]
                        refine h.rIx 0 rfl (by omega) (fun n281 pn281 => ?_)
                        refine h.sI 3 rfl (by decide) (by first | assumption | exact wrapR _ | (constructor <;> omega) | decide) (fun w282 h => ?_)
                        exact h.drop
                      · skip
                        try simp only [Bool.or_eq_true, Bool.and_eq_true, Bool.or_eq_false_iff, Bool.not_eq_true', Bool.not_eq_false', decide_eq_true_eq, decide_eq_false_iff_not, beq_iff_eq, beq_eq_false_iff_ne, bne_iff_ne, bne_eq_false_iff_eq, ne_eq] at c37
                        exact h
                    · skip
                      try simp only [Bool.or_eq_true, Bool.and_eq_true, Bool.or_eq_false_iff, Bool.not_eq_true', Bool.not_eq_false', decide_eq_true_eq, decide_eq_false_iff_not, beq_iff_eq, beq_eq_false_iff_ne, bne_iff_ne, bne_eq_false_iff_eq, ne_eq] at c36
                      exact h
      · clear h
        intro w21 h
        refine JoinW.cut0 (fun w' => SH w0 w' (BX bky y :: BX bkx x :: aI w5.heap.size 4 inR :: aI w2.heap.size 21 inR :: aI w1.heap.size 4 inR :: aB w.heap.size ([Value.slice t.a t.len t.cap].map Ce.v) :: aC cb s :: RP t l :: F)) ?_ ?_
        · skip
          refine (s78 h 6 rfl hb).mono ?_
          rintro _ w58 ⟨b59, rfl, h⟩
          refine ⟨b59, rfl, ?_⟩
          refine BIf.of (fun c39 => ?_) (fun c39 => ?_)
          · skip
            try simp only [Bool.or_eq_true, Bool.and_eq_true, Bool.or_eq_false_iff, Bool.not_eq_true', Bool.not_eq_false', decide_eq_true_eq, decide_eq_false_iff_not, beq_iff_eq, beq_eq_false_iff_ne, bne_iff_ne, bne_eq_false_iff_eq, ne_eq] at c39
            refine h.alloc (fun w60 h ew60 nw60 => ?_)
            have h : SH w0 w60 (aI w58.heap.size 5 inR :: BX bky y :: BX bkx x :: aI w5.heap.size 4 inR :: aI w2.heap.size 21 inR :: aI w1.heap.size 4 inR :: aB w.heap.size ([Value.slice t.a t.len t.cap].map Ce.v) :: aC cb s :: RP t l :: F) := h.toI 0 [0, (-1), 32, 33, 4611686018427387904] rfl rfl (by intro x hx; simp only [List.mem_cons, List.not_mem_nil, or_false] at hx; rcases hx with rfl | rfl | rfl | rfl | rfl <;> first | assumption | exact wrapR _ | (constructor <;> omega))
            refine (s77 h 7 rfl hb).mono ?_
            rintro _ w62 ⟨n63, rfl, ⟨pn63a, pn63b⟩, h⟩
            refine ⟨n63, rfl, ?_⟩
            refine ⟨by omega, ?_⟩
            refine ⟨by omega, ?_⟩
            refine ⟨_, rfl, ?_⟩
            obtain ⟨k40, rfl⟩ := Int.eq_ofNat_of_zero_le pn63a
            rw [Int.toNat_natCast]
            refine h.rIx 0 rfl (by omega) (fun n65 pn65 => ?_)
            refine h.sI 3 rfl (by decide) (by first | assumption | exact wrapR _ | (constructor <;> omega) | decide) (fun w66 h => ?_)
            exact h.drop
          · skip
            try simp only [Bool.or_eq_true, Bool.and_eq_true, Bool.or_eq_false_iff, Bool.not_eq_true', Bool.not_eq_false', decide_eq_true_eq, decide_eq_false_iff_not, beq_iff_eq, beq_eq_false_iff_ne, bne_iff_ne, bne_eq_false_iff_eq, ne_eq] at c39
            exact h
        · clear h
          intro w23 h
          refine JoinW.cut0 (fun w' => SH w0 w' (BX bky y :: BX bkx x :: aI w5.heap.size 4 inR :: aI w2.heap.size 21 inR :: aI w1.heap.size 4 inR :: aB w.heap.size ([Value.slice t.a t.len t.cap].map Ce.v) :: aC cb s :: RP t l :: F)) ?_ ?_
          · skip
            refine (s78 h 6 rfl hb).mono ?_
            rintro _ w48 ⟨b49, rfl, h⟩
            refine ⟨b49, rfl, ?_⟩
            refine BIf.of (fun c41 => ?_) (fun c41 => ?_)
            · skip
              try simp only [Bool.or_eq_true, Bool.and_eq_true, Bool.or_eq_false_iff, Bool.not_eq_true', Bool.not_eq_false', decide_eq_true_eq, decide_eq_false_iff_not, beq_iff_eq, beq_eq_false_iff_ne, bne_iff_ne, bne_eq_false_iff_eq, ne_eq] at c41
              refine h.alloc (fun w50 h ew50 nw50 => ?_)
              have h : SH w0 w50 (aI w48.heap.size 3 inR :: BX bky y :: BX bkx x :: aI w5.heap.size 4 inR :: aI w2.heap.size 21 inR :: aI w1.heap.size 4 inR :: aB w.heap.size ([Value.slice t.a t.len t.cap].map Ce.v) :: aC cb s :: RP t l :: F) := h.toI 0 [0, 10, (-1)] rfl rfl (by intro x hx; simp only [List.mem_cons, List.not_mem_nil, or_false] at hx; rcases hx with rfl | rfl | rfl <;> first | assumption | exact wrapR _ | (constructor <;> omega))
              refine (s77 h 7 rfl hb).mono ?_
              rintro _ w52 ⟨n53, rfl, ⟨pn53a, pn53b⟩, h⟩
              refine ⟨n53, rfl, ?_⟩
              refine ⟨by omega, ?_⟩
              refine ⟨by omega, ?_⟩
              refine ⟨_, rfl, ?_⟩
              obtain ⟨k42, rfl⟩ := Int.eq_ofNat_of_zero_le pn53a
              rw [Int.toNat_natCast]
              refine h.rIx 0 rfl (by omega) (fun n55 pn55 => ?_)
              refine h.sI 3 rfl (by decide) (by first | assumption | exact wrapR _ | (constructor <;> omega) | decide) (fun w56 h => ?_)
              exact h.drop
            · skip
              try simp only [Bool.or_eq_true, Bool.and_eq_true, Bool.or_eq_false_iff, Bool.not_eq_true', Bool.not_eq_false', decide_eq_true_eq, decide_eq_false_iff_not, beq_iff_eq, beq_eq_false_iff_ne, bne_iff_ne, bne_eq_false_iff_eq, ne_eq] at c41
              exact h
          · clear h
            intro w25 h
            refine JoinW.cut0 (fun w' => SH w0 w' (BX bky y :: BX bkx x :: aI w5.heap.size 4 inR :: aI w2.heap.size 21 inR :: aI w1.heap.size 4 inR :: aB w.heap.size ([Value.slice t.a t.len t.cap].map Ce.v) :: aC cb s :: RP t l :: F)) ?_ ?_
            · skip
              refine (s78 h 6 rfl hb).mono ?_
              rintro _ w38 ⟨b39, rfl, h⟩
              refine ⟨b39, rfl, ?_⟩
              refine BIf.of (fun c43 => ?_) (fun c43 => ?_)
              · skip
                try simp only [Bool.or_eq_true, Bool.and_eq_true, Bool.or_eq_false_iff, Bool.not_eq_true', Bool.not_eq_false', decide_eq_true_eq, decide_eq_false_iff_not, beq_iff_eq, beq_eq_false_iff_ne, bne_iff_ne, bne_eq_false_iff_eq, ne_eq] at c43
                refine h.alloc (fun w40 h ew40 nw40 => ?_)
                have h : SH w0 w40 (aI w38.heap.size 4 inR :: BX bky y :: BX bkx x :: aI w5.heap.size 4 inR :: aI w2.heap.size 21 inR :: aI w1.heap.size 4 inR :: aB w.heap.size ([Value.slice t.a t.len t.cap].map Ce.v) :: aC cb s :: RP t l :: F) := h.toI 0 [(-4611686018427387904), 4611686018427387904, (-2), 5] rfl rfl (by intro x hx; simp only [List.mem_cons, List.not_mem_nil, or_false] at hx; rcases hx with rfl | rfl | rfl | rfl <;> first | assumption | exact wrapR _ | (constructor <;> omega))
                refine (s77 h 7 rfl hb).mono ?_
                rintro _ w42 ⟨n43, rfl, ⟨pn43a, pn43b⟩, h⟩
                refine ⟨n43, rfl, ?_⟩
                refine ⟨by omega, ?_⟩
                refine ⟨by omega, ?_⟩
                refine ⟨_, rfl, ?_⟩
                obtain ⟨k44, rfl⟩ := Int.eq_ofNat_of_zero_le pn43a
                rw [Int.toNat_natCast]
                refine h.rIx 0 rfl (by omega) (fun n45 pn45 => ?_)
                refine h.sI 3 rfl (by decide) (by first | assumption | exact wrapR _ | (constructor <;> omega) | decide) (fun w46 h => ?_)
                exact h.drop
              · skip
                try simp only [Bool.or_eq_true, Bool.and_eq_true, Bool.or_eq_false_iff, Bool.not_eq_true', Bool.not_eq_false', decide_eq_true_eq, decide_eq_false_iff_not, beq_iff_eq, beq_eq_false_iff_ne, bne_iff_ne, bne_eq_false_iff_eq, ne_eq] at c43
                exact h
            · clear h
              intro w27 h
              refine h.rI 2 rfl (by decide) (fun n28 pn28 => ?_)
              refine h.rI 2 rfl (by decide) (fun n29 pn29 => ?_)
              refine h.rI 2 rfl (by decide) (fun n30 pn30 => ?_)
              refine h.rI 2 rfl (by decide) (fun n31 pn31 => ?_)
              refine h.pI 4 [n28, n29, n30, n31] rfl rfl rfl (by intro x hx; simp only [List.mem_cons, List.not_mem_nil, or_false] at hx; rcases hx with rfl | rfl | rfl | rfl <;> first | assumption | exact wrapR _ | (constructor <;> omega)) (fun w32 h => ?_)
              refine h.rI 4 rfl (by decide) (fun n33 pn33 => ?_)
              refine h.rI 4 rfl (by decide) (fun n34 pn34 => ?_)
              refine h.rI 4 rfl (by decide) (fun n35 pn35 => ?_)
              refine h.rI 4 rfl (by decide) (fun n36 pn36 => ?_)
              exact ⟨_, _, _, _, rfl, (by assumption), h.drop.drop.drop.drop.drop.drop⟩
end Go.Proofs.Yteigefjiifihpaa

/- Draws: operations on processes, one behind the other; a run. Conditions: none. -/
set_option linter.unusedVariables false
set_option linter.unusedSimpArgs false
namespace Go.Proofs.Yteigefjiifihpaa
open Go Go.Den
abbrev RO4 (s : Sl) (l : List DProcOp) : Asr := aRow s 4 (recs DProcOp.cells l)
theorem plain_pop (x : DProcOp) : ∀ v, v ∈ x.cells → plainB v = true := by intro v hv; simp [DProcOp.cells] at hv; rcases hv with rfl | rfl | rfl | rfl <;> rfl
theorem s103 {w0 w : World} {F : List Asr} {cb : Nat} {s : Sl} {n : Int} (h : SH w0 w (aC cb s :: F)) (hb : CurB w0 s) (hn : 0 ≤ n ∧ n ≤ 100) :
    CallW Try.prog 103 #[.pointer (some ⟨cb, 0, none⟩), .int .i64 n] w (fun v w' => ∃ (l : List DProc) (t o : Sl) (ops : List DProcOp), v = .tuple #[pAgg t, .slice o.a o.len o.cap] ∧ PInv l ∧ ops.length ≤ 100 ∧ (∀ op, op ∈ ops → inR op.To) ∧ SH w0 w' (RO4 o ops :: aC cb s :: RP t l :: F)) := by
  refine go103 ?_
  unfold W103
  refine h.alloc (fun w1 h e1 n1 => ?_)
  refine (s90 h).mono ?_
  rintro _ w3 ⟨t0, rfl, h⟩
  refine ⟨t0, rfl, ?_⟩
  refine h.alloc (fun w5 h e5 n5 => ?_)
  refine h.setV 0 rfl rfl (fun w6 h n6 => ?_)
  refine h.alloc (fun w7 h e7 n7 => ?_)
  have h : SH w0 w7 (RO4 ⟨some ⟨w6.heap.size, 0, none⟩, 0, 0⟩ [] :: aC cb s :: RP t0 [proc1] :: BS w3.heap.size t0 :: aB w.heap.size (ZT.map Ce.v) :: F) := (((h.drop.nil (some ⟨w6.heap.size, 0, none⟩) 4).front (n := 2) rfl).front (n := 4) rfl).front (n := 2) rfl
  refine LoopW.m2 (fun (o : Sl) (i : Int) w' => ∃ (m : Nat) (l : List DProc) (ops : List DProcOp) (t : Sl), i = m ∧ (m : Int) ≤ n ∧ PInv l ∧ ops.length ≤ m ∧ (∀ op, op ∈ ops → inR op.To) ∧ SH w0 w' (RO4 o ops :: aC cb s :: RP t l :: BS w3.heap.size t :: aB w.heap.size (ZT.map Ce.v) :: F)) (fun _ (i : Int) _ => (n - i).toNat) ⟨0, _, [], t0, rfl, by omega, new_inv, by simp, (fun op hop => by cases hop), h⟩ ?_
  clear h
  rintro (o : Sl) (i : Int) w11 ⟨m, l, ops, t, rfl, hm, hv, hl, hto, h⟩ J hJ
  refine BIf.dec (fun hlt => ?_) (fun hge => ?_)
  · refine ⟨t, h.cell 3 rfl rfl, (s106 (F := RO4 o ops :: BS w3.heap.size t :: aB w.heap.size (ZT.map Ce.v) :: F) ((h.front (n := 2) rfl).front (n := 2) rfl) hb (fun x hx => allR hv hx) (by have := hv.len; omega)).mono ?_⟩
    rintro _ w14 ⟨a, b, c, d, rfl, hc, h⟩
    refine ⟨a, b, c, d, rfl, ?_⟩
    refine h.alloc (fun w19 h e19 n19 => ?_)
    refine h.put 0 rfl rfl rfl (fun w20 h n20 => ?_)
    refine ⟨_, h.cell 0 rfl rfl, _, h.cell 0 rfl rfl, _, h.cell 0 rfl rfl, _, h.cell 0 rfl rfl, ?_⟩
    refine LetW_iff.2 (SH.appendR1 (f := DProcOp.cells) (x := ⟨a, b, c, d⟩) (h.front (n := 3) rfl) rfl rfl rfl (by decide) (by show _ * 32 ≤ _; omega) (plain_pop _) (fun l26 w27 h hl26 _ => ?_))
    refine ⟨t, h.cell 4 rfl rfl, _, h.cell 1 rfl rfl, _, h.cell 1 rfl rfl, _, h.cell 1 rfl rfl, _, h.cell 1 rfl rfl, (s91 (F := RO4 l26 (ops ++ [⟨a, b, c, d⟩]) :: aB w14.heap.size ([Value.int .i64 a, Value.int .i64 b, Value.int .i64 c, Value.int .i64 d].map Ce.v) :: aC cb s :: BS w3.heap.size t :: aB w.heap.size (ZT.map Ce.v) :: F) (h.front (n := 3) rfl) hv).mono ?_⟩
    rintro _ w34 ⟨t2, rfl, h⟩
    refine ⟨t2, _, _, _, rfl, ?_⟩
    refine h.alloc (fun w39 h e39 n39 => ?_)
    refine h.alloc (fun w40 h e40 n40 => ?_)
    refine h.setV 1 rfl rfl (fun w41 h n41 => ?_)
    refine h.put 0 rfl rfl rfl (fun w42 h n42 => ?_)
    refine ⟨t2, h.cell 1 rfl rfl, ?_⟩
    refine h.setV 6 rfl rfl (fun w44 h n44 => ?_)
    rw [w64 (n := (m : Int) + 1) (by omega) (by omega)]
    refine hJ _ _ _ ⟨m + 1, (stepP l a b c d).1, ops ++ [⟨a, b, c, d⟩], t2, by omega, by omega, hv.step a b c d, by rw [List.length_append]; show _ + 1 ≤ _; omega, fun op hop => ?_, ?_⟩ (by omega)
    · rcases List.mem_append.1 hop with h1 | h1
      · exact hto op h1
      · obtain rfl := List.mem_singleton.1 h1; exact hc
    · exact (((((h.dropAt 4).dropAt 1).dropAt 0).front (n := 2) rfl).front (n := 2) rfl)
  · refine ⟨t, h.cell 3 rfl rfl, ?_⟩
    refine h.setV 4 rfl rfl (fun w46 h n46 => ?_)
    refine ⟨t, h.cell 4 rfl rfl, l, t, o, ops, rfl, hv, by omega, hto, ((h.dropAt 4).dropAt 3)⟩
end Go.Proofs.Yteigefjiifihpaa

/- FnProcTold: what an operation tells; the law's walk (two regions printed by a program). Conditions: none. -/
set_option linter.unusedVariables false
set_option linter.unusedSimpArgs false
namespace Go.Proofs.Yteigefjiifihpaa
open Go Go.Den
end Go.Proofs.Yteigefjiifihpaa

/- Draws: a state of the scheduler that may be spoilt; a step. Conditions: none. -/
set_option linter.unusedVariables false
set_option linter.unusedSimpArgs false
namespace Go.Proofs.Yteigefjiifihpaa
open Go Go.Den
end Go.Proofs.Yteigefjiifihpaa
