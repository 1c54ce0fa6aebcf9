/- Part 4 of 5: plain readings of code, rules for them, and a proof over them, joined by a program. Conditions: none. -/
import Derived.Test.YtkgoanjemhbjgaaSpNw3
/- Spaces: frames that can be, on both sides. Conditions: none. -/
set_option linter.unusedVariables false
set_option linter.unusedSimpArgs false
namespace Go.Proofs.Ytkgoanjemhbjgaa
open Go Go.Den
/-- The list of free blocks, lent. -/
structure FrAt (w : World) (l : Sl) (fr : List DBlock) : Prop where
  len : l.len = fr.length
  row : RowAt w l.a (l.len * 2) (fr.flatMap DBlock.cells)
  few : fr.length ≤ 1099511627776
theorem FrAt.ext {w w' : World} {l : Sl} {fr : List DBlock} (h : FrAt w l fr) (e : Ext w w') : FrAt w' l fr := ⟨h.len, e.row h.row, h.few⟩
theorem FrAt.get {w : World} {l : Sl} {fr : List DBlock} (h : FrAt w l fr) {i : Nat} {x : DBlock} (hx : fr[i]? = some x) :
    ∃ p, l.a = some p ∧ w.cell? ((p.add (i * 2)).add 0) = some (.int .i64 x.At) ∧ w.cell? ((p.add (i * 2)).add 1) = some (.int .i64 x.Order) := by
  obtain ⟨p, hp, hc⟩ := RowAt.elem (f := DBlock.cells) (z := 2) (fun _ => rfl) h.row hx (by omega)
  exact ⟨p, hp, hc 0 _ rfl, hc 1 _ rfl⟩
def pw (o : Int) : Int := ((2 ^ o.toNat : Nat) : Int)
theorem pw_rng {o : Int} (h1 : o ≤ 11) : 1 ≤ pw o ∧ pw o ≤ 2048 := by
  unfold pw
  have h1 : 2 ^ o.toNat ≤ 2 ^ 11 := pow_le (by omega)
  have h2 : 1 ≤ 2 ^ o.toNat := Nat.one_le_two_pow
  omega
theorem c176 {o : Int} {w : World} (h0 : 0 ≤ o) (h1 : o ≤ 11) : CallW Try.prog 176 #[.int .i64 o] w (fun v w' => v = .int .i64 (pw o) ∧ w' = w) := by
  refine go176 ?_
  unfold W176
  obtain ⟨n, rfl⟩ := Int.eq_ofNat_of_zero_le h0
  refine LoopW.m2 (fun (x i : Int) w' => ∃ k : Nat, k ≤ n ∧ i = k ∧ x = ((2 ^ k : Nat) : Int) ∧ w' = w) (fun _ (i : Int) _ => ((n : Int) - i).toNat) ⟨0, by omega, rfl, rfl, rfl⟩ ?_
  rintro (x : Int) (i : Int) w ⟨k, hk, rfl, rfl, rfl⟩ J hJ
  refine BIf.dec (fun hlt => ?_) (fun hge => ?_)
  · have h1 : 2 ^ (k + 1) ≤ 2 ^ 11 := pow_le (by omega)
    have h2 : 2 ^ (k + 1) = 2 ^ k * 2 := Nat.pow_succ 2 k
    rw [w64 (by omega) (by omega), w64 (by omega) (by omega)]
    exact hJ _ _ _ ⟨k + 1, by omega, by omega, by rw [h2]; omega, rfl⟩ (by omega)
  · have : k = n := by omega
    subst this
    refine ⟨?_, rfl⟩
    unfold pw; rw [Int.toNat_natCast]
theorem shl_pw {o : Int} (h0 : 0 ≤ o) (h1 : o ≤ 11) : shlI .i64 1 o = pw o := by
  have hp := pw_rng h1
  unfold shlI
  rw [show min o.toNat (IntKind.i64.bits) = o.toNat from Nat.min_eq_left (by show o.toNat ≤ 64; omega)]
  have : (1 : Int) * 2 ^ o.toNat = pw o := by unfold pw; norm_cast; omega
  rw [this, w64 (by omega) (by omega)]
def blkOk (T a o : Int) : Bool := decide (0 ≤ o ∧ o ≤ 10 ∧ 0 ≤ a ∧ a < T ∧ a % pw o = 0 ∧ a + pw o ≤ T)
theorem c145 {T a o : Int} {w : World} (hT : T ≤ 1099511627776) : CallW Try.prog 145 #[.int .i64 T, .agg #[.int .i64 a, .int .i64 o]] w (fun v w' => v = .bool (blkOk T a o) ∧ Ext w w') := by
  refine go145 ?_
  unfold W145
  refine alloc_step (fun w1 e hb n1 => ?_)
  refine ⟨_, hb.cell 1, join_or_ex _ (hb.cell 1) ?_⟩
  refine BIf.of (fun h => ⟨?_, e⟩) (fun h => ?_)
  · simp only [Bool.or_eq_true, decide_eq_true_eq] at h
    unfold blkOk
    rw [decide_eq_false (by omega)]
  · simp only [Bool.or_eq_false_iff, decide_eq_false_iff_not] at h
    have hp := pw_rng (o := o) (by omega)
    refine ⟨_, hb.cell 1, (c176 (by omega) (by omega)).mono ?_⟩
    rintro _ w1 ⟨rfl, rfl⟩
    refine ⟨_, rfl, _, hb.cell 0, join_and_ex _ (hb.cell 0) ?_⟩
    refine JoinW.cut1 (fun (b : Bool) w' => b = ((decide (a ≥ 0) && decide (a < T)) && decide (a % pw o = 0)) ∧ w' = w1) ?_ ?_
    · refine BIf.of (fun h2 => ⟨_, hb.cell 0, by omega, ?_, rfl⟩) (fun h2 => ⟨by rw [h2]; rfl, rfl⟩)
      rw [h2]
      simp only [Bool.and_eq_true, decide_eq_true_eq] at h2
      rw [Int.tmod_eq_emod_of_nonneg h2.1]
      rfl
    rintro (b : Bool) w1 ⟨rfl, rfl⟩
    refine join_and_ex _ (hb.cell 0) ⟨?_, e⟩
    congr 1
    apply Bool.eq_iff_iff.2
    unfold blkOk
    simp only [Bool.and_eq_true, decide_eq_true_eq]
    constructor
    · rintro ⟨⟨⟨h1, h2⟩, h3⟩, h4⟩
      rw [w64 (by omega) (by omega)] at h4
      exact ⟨by omega, by omega, by omega, by omega, h3, h4⟩
    · rintro ⟨h1, h2, h3, h4, h5, h6⟩
      exact ⟨⟨⟨by omega, by omega⟩, h5⟩, by rw [w64 (by omega) (by omega)]; omega⟩
theorem c84 {T a o : Int} {w : World} (hT : T ≤ 1099511627776) : CallW Try.prog 84 #[.int .i64 T, .agg #[.int .i64 a, .int .i64 o]] w (fun v w' => v = .bool (blkOk T a o) ∧ Ext w w') := by
  refine go84 ?_
  unfold W84
  refine alloc_step (fun w1 e hb n1 => ?_)
  refine ⟨_, hb.cell 1, join_or_ex _ (hb.cell 1) (join_or_ex _ (hb.cell 0) (join_or_ex _ (hb.cell 0) ?_))⟩
  refine BIf.of (fun h => ⟨?_, e⟩) (fun h => ?_)
  · simp only [Bool.or_eq_true, decide_eq_true_eq] at h
    unfold blkOk
    rw [decide_eq_false (by omega)]
  · simp only [Bool.or_eq_false_iff, decide_eq_false_iff_not] at h
    have hp := pw_rng (o := o) (by omega)
    refine ⟨_, hb.cell 1, by omega, _, hb.cell 0, ?_⟩
    rw [shl_pw (by omega) (by omega)]
    refine ⟨by omega, join_and_ex _ (hb.cell 0) ⟨?_, e⟩⟩
    congr 1
    apply Bool.eq_iff_iff.2
    rw [Int.tmod_eq_emod_of_nonneg (by omega), w64 (by omega) (by omega)]
    unfold blkOk
    simp only [Bool.and_eq_true, decide_eq_true_eq, beq_iff_eq]
    constructor
    · rintro ⟨h3, h4⟩
      exact ⟨by omega, by omega, by omega, by omega, h3, h4⟩
    · rintro ⟨h1, h2, h3, h4, h5, h6⟩
      exact ⟨h5, h6⟩
/-! ## Frames that can be -/
def BlkAfter (c b : DBlock) : Prop := c.At + pw c.Order ≤ b.At ∧ ¬ (c.Order = b.Order ∧ b.Order < 10 ∧ c.At + pw c.Order = b.At ∧ c.At % (2 * pw b.Order) = 0)
def BlkP (T : Int) (fr : List DBlock) (i : Nat) (b : DBlock) : Prop := blkOk T b.At b.Order = true ∧ ∀ c, 0 < i → fr[i - 1]? = some c → BlkAfter c b
def FOk (T : Int) (fr : List DBlock) : Prop := 0 ≤ T ∧ T ≤ 1024 ∧ ∀ i b, fr[i]? = some b → BlkP T fr i b
def KB (P : Prop) (w : World) (v : Value) (w' : World) : Prop := ∃ b, v = .bool b ∧ (b = true ↔ P) ∧ Ext w w'
def EndAt (fr : List DBlock) (k : Nat) (e : Int) : Prop := (k = 0 ∧ e = 0) ∨ ∃ c, 0 < k ∧ fr[k - 1]? = some c ∧ e = c.At + pw c.Order
theorem blkOk_out {T a o : Int} (h : blkOk T a o = true) : 0 ≤ o ∧ o ≤ 10 ∧ 0 ≤ a ∧ a < T ∧ a % pw o = 0 ∧ a + pw o ≤ T := of_decide_eq_true h
theorem blk_put2 {w : World} {b : Nat} {x : DBlock} {k : World → Prop} (hb : Blk w b [.int .i64 0, .int .i64 0]) (h : ∀ w2, Only (fun j => j = b) w w2 → Blk w2 b [.int .i64 x.At, .int .i64 x.Order] → w2.heap.size = w.heap.size → k w2) :
    MayN w ⟨b, 0, none⟩ 2 ∧ LetW (Den.puts w ⟨b, 0, none⟩ 0 [.int .i64 x.At, .int .i64 x.Order]) k := put_step hb rfl rfl h
theorem c160 {l : Sl} {T : Int} {fr : List DBlock} {w : World} (h : FrAt w l fr) : CallW Try.prog 160 #[.agg #[.int .i64 T, .slice l.a l.len l.cap]] w (KB (FOk T fr) w) := by
  refine go160 ?_
  unfold W160
  refine alloc_step (fun w1 e hb n1 => ?_)
  have h1 := h.ext e
  have hl := h.len
  have hfew := h.few
  refine ⟨_, hb.cell 0, join_or_ex _ (hb.cell 0) ?_⟩
  refine BIf.of (fun hbad => ⟨false, rfl, ⟨(fun h => nomatch h), fun hf => ?_⟩, e⟩) (fun hgood => ?_)
  · simp only [Bool.or_eq_true, decide_eq_true_eq] at hbad
    have := hf.1; have := hf.2.1; omega
  simp only [Bool.or_eq_false_iff, decide_eq_false_iff_not] at hgood
  refine LoopW.m2 (fun (en i : Int) w' => ∃ k : Nat, i = k ∧ k ≤ fr.length ∧ (∀ j b, j < k → fr[j]? = some b → BlkP T fr j b) ∧ EndAt fr k en ∧ Ext w1 w') (fun _ (i : Int) _ => ((fr.length : Int) - i).toNat) ⟨0, rfl, by omega, fun j b hj => absurd hj (Nat.not_lt_zero _), .inl ⟨rfl, rfl⟩, Only.refl _ _⟩ ?_
  rintro (en : Int) (i : Int) w2 ⟨k, rfl, hk, hall, hend, e2⟩ J hJ
  have hb2 := hb.ext e2
  have h2 := h1.ext e2
  have z2 := e2.size
  refine ⟨l, hb2.cell 1, ?_⟩
  rw [hl]
  refine BIf.dec (fun hlt => ?_) (fun hge => ?_)
  · obtain ⟨x, hx⟩ : ∃ x, fr[k]? = some x := ⟨_, List.getElem?_eq_getElem (by omega)⟩
    obtain ⟨p, hp, hc0, hc1⟩ := h2.get hx
    have no : ∀ w', Ext w1 w' → ¬ BlkP T fr k x → KB (FOk T fr) w (.bool false) w' := fun w' e' hn => ⟨false, rfl, ⟨(fun h => nomatch h), fun hf => absurd (hf.2.2 k x hx) hn⟩, Only.trans e e'⟩
    refine ⟨l, hb2.cell 1, by omega, by omega, p, hp, _, hc0, _, hc1, alloc_step (fun w3 e3 hz n3 => blk_put2 hz (fun w4 o4 hz n4 => ?_))⟩
    have e24 : Ext w2 w4 := Ext.own e3 o4 (fun k hk => by omega)
    have hb4 := hb2.ext e24
    refine ⟨_, hb4.cell 0, _, hz.cell 0, _, hz.cell 1, (c145 (by omega)).mono ?_⟩
    rintro _ w5 ⟨rfl, e5⟩
    have hz5 := hz.ext e5
    have e25 := Only.trans e24 e5
    refine ⟨_, rfl, join_or_ex _ (hz5.cell 0) ?_⟩
    refine BIf.of (fun hbad => no _ (Only.trans e2 e25) (fun hP => ?_)) (fun hok => ?_)
    · simp only [Bool.or_eq_true, Bool.not_eq_true', decide_eq_true_eq] at hbad
      rcases hbad with hbad | hbad
      · rw [hP.1] at hbad; cases hbad
      · rcases hend with ⟨_, rfl⟩ | ⟨c, hk0, hc, rfl⟩
        · have := (blkOk_out hP.1).2.2.1; omega
        · have := (hP.2 c hk0 hc).1; omega
    simp only [Bool.or_eq_false_iff, Bool.not_eq_false', decide_eq_false_iff_not] at hok
    obtain ⟨hok, hend2⟩ := hok
    have hbo := blkOk_out hok
    have hpw := pw_rng (o := x.Order) (by omega)
    refine ⟨_, hz5.cell 1, (c176 hbo.1 (by omega)).mono ?_⟩
    rintro _ w5 ⟨rfl, rfl⟩
    refine ⟨_, rfl, ?_⟩
    refine JoinW.cut1 (fun (b : Bool) w' => (b = true ↔ ∃ c, 0 < k ∧ fr[k - 1]? = some c ∧ c.Order = x.Order ∧ x.Order < 10 ∧ en = x.At ∧ c.At % (2 * pw x.Order) = 0) ∧ Ext w5 w') ?_ ?_
    · refine BIf.dec (fun hk0 => ?_) (fun hk0 => ⟨⟨(fun h => nomatch h), fun ⟨c, h, _⟩ => by omega⟩, ext_drew w5⟩)
      have ed := ext_drew w5
      generalize w5.drew = w6 at *
      have hb6 := (hb4.ext e5).ext ed
      have hz6 := hz5.ext ed
      obtain ⟨c, hc⟩ : ∃ c, fr[k - 1]? = some c := ⟨_, List.getElem?_eq_getElem (by omega)⟩
      have hidx : IntKind.i64.wrap ((k : Int) - 1) = ((k - 1 : Nat) : Int) := by rw [w64 (by omega) (by omega)]; omega
      rw [hidx, Int.toNat_natCast]
      obtain ⟨q, hq, hd0, hd1⟩ := (h2.ext (Only.trans e25 ed)).get hc
      have uq : ∀ c', fr[k - 1]? = some c' → c' = c := fun c' h => by rw [hc] at h; injection h with h; exact h.symm
      refine ⟨l, hb6.cell 1, by omega, by omega, q, hq, _, hd1, _, hz6.cell 1, ?_⟩
      refine BIf.eq (fun h3 => ⟨_, hz6.cell 1, BIf.dec (fun h4 => ⟨_, hz6.cell 0, BIf.eq (fun h5 => ?_) (fun h5 => ?_)⟩) (fun h4 => ?_)⟩) (fun h3 => ?_)
      · refine ⟨l, hb6.cell 1, by omega, by omega, q, hq, _, hd0, ?_⟩
        have hcP := (hall (k - 1) c (by omega) hc).1
        have hcb := blkOk_out hcP
        rw [w64 (by omega) (by omega)]
        refine ⟨by omega, ⟨?_, ed⟩⟩
        rw [Int.tmod_eq_emod_of_nonneg hcb.2.2.1, beq_iff_eq]
        exact ⟨fun h6 => ⟨c, by omega, hc, h3, h4, h5.symm, h6⟩, fun ⟨c', _, hc', _, _, _, h6⟩ => by rw [uq c' hc'] at h6; exact h6⟩
      · exact ⟨⟨(fun h => nomatch h), fun ⟨c', _, hc', _, _, h6, _⟩ => absurd h6.symm h5⟩, ed⟩
      · exact ⟨⟨(fun h => nomatch h), fun ⟨c', _, hc', _, h6, _, _⟩ => absurd h6 h4⟩, ed⟩
      · exact ⟨⟨(fun h => nomatch h), fun ⟨c', _, hc', h6, _, _, _⟩ => absurd (by rw [← uq c' hc']; exact h6) h3⟩, ed⟩
    rintro (b : Bool) w6 ⟨hiff, e6⟩
    have e26 := Only.trans e25 e6
    refine BIf.of (fun hbt => no _ (Only.trans e2 e26) (fun hP => ?_)) (fun hbf => ?_)
    · obtain ⟨c, hk0, hc, g1, g2, g3, g4⟩ := hiff.1 hbt
      rcases hend with ⟨hz, _⟩ | ⟨c', _, hc', rfl⟩
      · omega
      · rw [hc] at hc'; injection hc' with hc'; subst hc'
        exact (hP.2 c hk0 hc).2 ⟨g1, g2, g3, g4⟩
    · have hP : BlkP T fr k x := by
        refine ⟨hok, fun c hk0 hc => ?_⟩
        rcases hend with ⟨hz, _⟩ | ⟨c', _, hc', rfl⟩
        · omega
        · rw [hc] at hc'; injection hc' with hc'; subst hc'
          refine ⟨by omega, fun ⟨g1, g2, g3, g4⟩ => ?_⟩
          rw [hiff.2 ⟨c, hk0, hc, g1, g2, g3, g4⟩] at hbf; cases hbf
      refine ⟨_, (hz5.ext e6).cell 0, ?_⟩
      rw [w64 (by omega) (by omega), w64 (by omega) (by omega)]
      refine hJ _ _ _ ⟨k + 1, by omega, by omega, fun j b hj hb => ?_, .inr ⟨x, by omega, hx, rfl⟩, Only.trans e2 e26⟩ (by omega)
      by_cases hjk : j = k
      · subst hjk; rw [hx] at hb; cases hb; exact hP
      · exact hall j b (by omega) hb
  · exact ⟨true, rfl, ⟨fun _ => ⟨by omega, by omega, fun j b hb => hall j b (by have := (List.getElem?_eq_some_iff.1 hb).1; omega) hb⟩, fun _ => rfl⟩, Only.trans e e2⟩
theorem c134 {l : Sl} {T : Int} {fr : List DBlock} {w : World} (h : FrAt w l fr) : CallW Try.prog 134 #[.agg #[.int .i64 T, .slice l.a l.len l.cap]] w (KB (FOk T fr) w) := by
  refine go134 ?_
  unfold W134
  refine alloc_step (fun w1 e hb n1 => ?_)
  have h1 := h.ext e
  have hl := h.len
  have hfew := h.few
  refine ⟨_, hb.cell 0, join_or_ex _ (hb.cell 0) ?_⟩
  refine BIf.of (fun hbad => ⟨false, rfl, ⟨(fun h => nomatch h), fun hf => ?_⟩, e⟩) (fun hgood => ?_)
  · simp only [Bool.or_eq_true, decide_eq_true_eq] at hbad
    have := hf.1; have := hf.2.1; omega
  simp only [Bool.or_eq_false_iff, decide_eq_false_iff_not] at hgood
  refine ⟨l, hb.cell 1, ?_⟩
  rw [hl]
  refine LoopW.m2 (fun (en i : Int) w' => ∃ k : Nat, i = k ∧ k ≤ fr.length ∧ (∀ j b, j < k → fr[j]? = some b → BlkP T fr j b) ∧ EndAt fr k en ∧ Ext w1 w') (fun _ (i : Int) _ => ((fr.length : Int) - i).toNat) ⟨0, rfl, by omega, fun j b hj => absurd hj (Nat.not_lt_zero _), .inl ⟨rfl, rfl⟩, Only.refl _ _⟩ ?_
  rintro (en : Int) (i : Int) w2 ⟨k, rfl, hk, hall, hend, e2⟩ J hJ
  have hb2 := hb.ext e2
  have h2 := h1.ext e2
  have z2 := e2.size
  refine BIf.dec (fun hlt => ?_) (fun hge => ?_)
  · obtain ⟨x, hx⟩ : ∃ x, fr[k]? = some x := ⟨_, List.getElem?_eq_getElem (by omega)⟩
    obtain ⟨p, hp, hc0, hc1⟩ := h2.get hx
    have no : ∀ w', Ext w1 w' → ¬ BlkP T fr k x → KB (FOk T fr) w (.bool false) w' := fun w' e' hn => ⟨false, rfl, ⟨(fun h => nomatch h), fun hf => absurd (hf.2.2 k x hx) hn⟩, Only.trans e e'⟩
    refine ⟨by omega, by omega, p, hp, _, hc0, _, hc1, alloc_step (fun w3 e3 hz n3 => blk_put2 hz (fun w4 o4 hz n4 => ?_))⟩
    have e24 : Ext w2 w4 := Ext.own e3 o4 (fun k hk => by omega)
    have hb4 := hb2.ext e24
    refine ⟨_, hb4.cell 0, _, hz.cell 0, _, hz.cell 1, (c84 (by omega)).mono ?_⟩
    rintro _ w5 ⟨rfl, e5⟩
    have hz5 := hz.ext e5
    have e25 := Only.trans e24 e5
    refine ⟨_, rfl, join_or_ex _ (hz5.cell 0) ?_⟩
    refine BIf.of (fun hbad => no _ (Only.trans e2 e25) (fun hP => ?_)) (fun hok => ?_)
    · simp only [Bool.or_eq_true, Bool.not_eq_true', decide_eq_true_eq] at hbad
      rcases hbad with hbad | hbad
      · rw [hP.1] at hbad; cases hbad
      · rcases hend with ⟨_, rfl⟩ | ⟨c, hk0, hc, rfl⟩
        · have := (blkOk_out hP.1).2.2.1; omega
        · have := (hP.2 c hk0 hc).1; omega
    simp only [Bool.or_eq_false_iff, Bool.not_eq_false', decide_eq_false_iff_not] at hok
    obtain ⟨hok, hend2⟩ := hok
    have hbo := blkOk_out hok
    have hpw := pw_rng (o := x.Order) (by omega)
    have z25 := e25.size
    refine ⟨_, hz5.cell 1, by omega, _, hz5.cell 0, ?_⟩
    rw [shl_pw hbo.1 (by omega)]
    have done : ∀ w', Ext w1 w' → (∀ c, 0 < k → fr[k - 1]? = some c → ¬ (c.Order = x.Order ∧ x.Order < 10 ∧ c.At = x.At - pw x.Order ∧ c.At % (2 * pw x.Order) = 0)) → (J : Int → Int → World → Prop) (IntKind.wrap .i64 (x.At + pw x.Order)) (IntKind.wrap .i64 ((k : Int) + 1)) w' := by
      intro w' e' hno
      have hP : BlkP T fr k x := by
        refine ⟨hok, fun c hk0 hc => ?_⟩
        rcases hend with ⟨hz, _⟩ | ⟨c', _, hc', rfl⟩
        · omega
        · rw [hc] at hc'; injection hc' with hc'; subst hc'
          refine ⟨by omega, fun ⟨g1, g2, g3, g4⟩ => hno c hk0 hc ⟨g1, g2, by rw [g1] at g3; omega, g4⟩⟩
      rw [w64 (by omega) (by omega), w64 (by omega) (by omega)]
      refine hJ _ _ _ ⟨k + 1, by omega, by omega, fun j b hj hb => ?_, .inr ⟨x, by omega, hx, rfl⟩, e'⟩ (by omega)
      by_cases hjk : j = k
      · subst hjk; rw [hx] at hb; cases hb; exact hP
      · exact hall j b (by omega) hb
    refine BIf.dec (fun hk0 => ?_) (fun hk0 => done _ (Only.trans e2 e25) (fun c h => by omega))
    obtain ⟨c, hc⟩ : ∃ c, fr[k - 1]? = some c := ⟨_, List.getElem?_eq_getElem (by omega)⟩
    have hidx : IntKind.i64.wrap ((k : Int) - 1) = ((k - 1 : Nat) : Int) := by rw [w64 (by omega) (by omega)]; omega
    obtain ⟨q, hq, hd0, hd1⟩ := (h2.ext e25).get hc
    have uq : ∀ c', fr[k - 1]? = some c' → c' = c := fun c' h => by rw [hc] at h; injection h with h; exact h.symm
    refine ⟨l, (hb4.ext e5).cell 1, ?_⟩
    rw [hidx, Int.toNat_natCast]
    refine ⟨by omega, by omega, q, hq, _, hd0, _, hd1, alloc_step (fun w6 e6 hy n6 => blk_put2 hy (fun w7 o7 hy n7 => ?_))⟩
    have e57 : Ext w5 w7 := Ext.own e6 o7 (fun k hk => by omega)
    have hz7 := hz5.ext e57
    have e27 := Only.trans e25 e57
    refine ⟨_, hy.cell 1, _, hz7.cell 1, join_and_ex _ (hz7.cell 1) ?_⟩
    refine JoinW.cut1 (fun (b : Bool) w' => b = ((c.Order == x.Order && decide (x.Order < 10)) && decide (c.At = x.At - pw x.Order)) ∧ w' = w7) ?_ ?_
    · refine BIf.of (fun h3 => ⟨_, hy.cell 0, _, hz7.cell 0, ?_, rfl⟩) (fun h3 => ⟨by rw [h3]; rfl, rfl⟩)
      rw [h3, w64 (by omega) (by omega)]
      rfl
    rintro (b : Bool) w7 ⟨rfl, rfl⟩
    have hcP := (hall (k - 1) c (by omega) hc).1
    have hcb := blkOk_out hcP
    refine JoinW.cut1 (fun (b : Bool) w' => b = (((c.Order == x.Order && decide (x.Order < 10)) && decide (c.At = x.At - pw x.Order)) && decide (c.At % (2 * pw x.Order) = 0)) ∧ w' = w7) ?_ ?_
    · refine BIf.of (fun h3 => ⟨_, hy.cell 0, ?_⟩) (fun h3 => ⟨by rw [h3]; rfl, rfl⟩)
      rw [w64 (by omega) (by omega), h3, Int.tmod_eq_emod_of_nonneg hcb.2.2.1]
      exact ⟨by omega, rfl, rfl⟩
    rintro (b : Bool) w7 ⟨rfl, rfl⟩
    refine BIf.of (fun hbt => no _ (Only.trans e2 e27) (fun hP => ?_)) (fun hbf => done _ (Only.trans e2 e27) (fun c' h0 hc' => ?_))
    · simp only [Bool.and_eq_true, decide_eq_true_eq, beq_iff_eq] at hbt
      obtain ⟨⟨⟨g1, g2⟩, g3⟩, g4⟩ := hbt
      exact (hP.2 c (by omega) hc).2 ⟨g1, g2, by rw [g1]; omega, g4⟩
    · rw [uq c' hc']
      rintro ⟨g1, g2, g3, g4⟩
      rw [g1, decide_eq_true g2, decide_eq_true g3, decide_eq_true g4] at hbf
      simp at hbf
  · exact ⟨true, rfl, ⟨fun _ => ⟨by omega, by omega, fun j b hb => hall j b (by have := (List.getElem?_eq_some_iff.1 hb).1; omega) hb⟩, fun _ => rfl⟩, Only.trans e e2⟩
end Go.Proofs.Ytkgoanjemhbjgaa

/- Spaces: pools that can be, which frames are free, copies, an entry read. Conditions: none. -/
set_option linter.unusedVariables false
set_option linter.unusedSimpArgs false
namespace Go.Proofs.Ytkgoanjemhbjgaa
open Go Go.Den
def mOk (m : List Int) : Bool := decide (m.length % 256 = 0) && decide (m.length ≤ 262144)
theorem c159 {s : Sl} {m : List Int} {w : World} (h : s.len = m.length) : CallW Try.prog 159 #[.slice s.a s.len s.cap] w (fun v w' => v = .bool (mOk m) ∧ w' = w) := by
  refine go159 ?_
  unfold W159
  refine ⟨by omega, ?_⟩
  simp only [join_and]
  refine ⟨?_, by trivial⟩
  congr 1
  rw [h, Int.tmod_eq_emod_of_nonneg (by omega)]
  unfold mOk
  apply Bool.eq_iff_iff.2
  simp only [Bool.and_eq_true, decide_eq_true_eq, beq_iff_eq]
  omega
theorem c155 {s : Sl} {m : List Int} {w : World} (h : s.len = m.length) : CallW Try.prog 155 #[.slice s.a s.len s.cap] w (fun v w' => v = .bool (mOk m) ∧ w' = w) := by
  refine go155 ?_
  unfold W155
  refine ⟨by omega, ?_⟩
  simp only [join_and]
  refine ⟨?_, by trivial⟩
  congr 1
  rw [h, Int.tmod_eq_emod_of_nonneg (by omega)]
  unfold mOk
  apply Bool.eq_iff_iff.2
  simp only [Bool.and_eq_true, decide_eq_true_eq, beq_iff_eq]
  omega
def POk (m : List Int) (T : Int) (fr : List DBlock) : Prop := m.length % 256 = 0 ∧ m.length ≤ 262144 ∧ FOk T fr ∧ T = ((m.length / 256 : Nat) : Int)
theorem c99 {sm sf : Sl} {m : List Int} {T : Int} {fr : List DBlock} {w : World} (hm : Bytes w sm m) (hf : FrAt w sf fr) : CallW Try.prog 99 #[.agg #[.slice sm.a sm.len sm.cap, .int .i64 T, .slice sf.a sf.len sf.cap]] w (KB (POk m T fr) w) := by
  refine go99 ?_
  unfold W99
  have hl := hm.len
  have hsm := hm.small
  refine alloc_step (fun w1 e hb n1 => ?_)
  refine ⟨sm, hb.cell 0, (c159 hl).mono ?_⟩
  rintro _ w1 ⟨rfl, rfl⟩
  refine ⟨_, rfl, ?_⟩
  refine JoinW.cut1 (fun (b : Bool) w' => (b = true ↔ m.length % 256 = 0 ∧ m.length ≤ 262144 ∧ FOk T fr) ∧ Ext w1 w') ?_ ?_
  · refine BIf.of (fun h => ⟨_, hb.cell 1, sf, hb.cell 2, (c160 (hf.ext e)).mono ?_⟩) (fun h => ⟨⟨(fun h => nomatch h), fun hp => ?_⟩, Only.refl _ _⟩)
    · rintro _ w2 ⟨b, rfl, hiff, e2⟩
      refine ⟨b, rfl, ?_, e2⟩
      rw [hiff]
      simp only [mOk, Bool.and_eq_true, decide_eq_true_eq] at h
      exact ⟨fun hp => ⟨h.1, h.2, hp⟩, fun hp => hp.2.2⟩
    · simp only [mOk, Bool.and_eq_false_iff, decide_eq_false_iff_not] at h
      have := hp.1; have := hp.2.1
      omega
  rintro (b : Bool) w2 ⟨hiff, e2⟩
  have hb2 := hb.ext e2
  refine JoinW.cut1 (fun (b : Bool) w' => (b = true ↔ POk m T fr) ∧ w' = w2) ?_ ?_
  · refine BIf.of (fun h => ⟨_, hb2.cell 1, sm, hb2.cell 0, by omega, ?_, rfl⟩) (fun h => ⟨⟨(fun h => nomatch h), fun hp => ?_⟩, rfl⟩)
    · have hp := hiff.1 h
      rw [hl, Int.tdiv_eq_ediv_of_nonneg (by omega), w64 (by omega) (by omega), beq_iff_eq]
      exact ⟨fun hT => ⟨hp.1, hp.2.1, hp.2.2, by omega⟩, fun h => by have := h.2.2.2; omega⟩
    · rw [hiff.2 ⟨hp.1, hp.2.1, hp.2.2.1⟩] at h; cases h
  rintro (b : Bool) w2 ⟨hiff2, rfl⟩
  exact ⟨b, rfl, hiff2, Only.trans e e2⟩
theorem c94 {sm sf : Sl} {m : List Int} {T : Int} {fr : List DBlock} {w : World} (hm : Bytes w sm m) (hf : FrAt w sf fr) : CallW Try.prog 94 #[.agg #[.slice sm.a sm.len sm.cap, .int .i64 T, .slice sf.a sf.len sf.cap]] w (KB (POk m T fr) w) := by
  refine go94 ?_
  unfold W94
  have hl := hm.len
  have hsm := hm.small
  refine alloc_step (fun w1 e hb n1 => ?_)
  refine ⟨sm, hb.cell 0, (c155 hl).mono ?_⟩
  rintro _ w1 ⟨rfl, rfl⟩
  refine ⟨_, rfl, ?_⟩
  refine JoinW.cut1 (fun (b : Bool) w' => (b = true ↔ m.length % 256 = 0 ∧ m.length ≤ 262144 ∧ FOk T fr) ∧ Ext w1 w') ?_ ?_
  · refine BIf.of (fun h => ⟨_, hb.cell 1, sf, hb.cell 2, (c134 (hf.ext e)).mono ?_⟩) (fun h => ⟨⟨(fun h => nomatch h), fun hp => ?_⟩, Only.refl _ _⟩)
    · rintro _ w2 ⟨b, rfl, hiff, e2⟩
      refine ⟨b, rfl, ?_, e2⟩
      rw [hiff]
      simp only [mOk, Bool.and_eq_true, decide_eq_true_eq] at h
      exact ⟨fun hp => ⟨h.1, h.2, hp⟩, fun hp => hp.2.2⟩
    · simp only [mOk, Bool.and_eq_false_iff, decide_eq_false_iff_not] at h
      have := hp.1; have := hp.2.1
      omega
  rintro (b : Bool) w2 ⟨hiff, e2⟩
  have hb2 := hb.ext e2
  refine JoinW.cut1 (fun (b : Bool) w' => (b = true ↔ POk m T fr) ∧ w' = w2) ?_ ?_
  · refine BIf.of (fun h => ⟨_, hb2.cell 1, sm, hb2.cell 0, by omega, ?_, rfl⟩) (fun h => ⟨⟨(fun h => nomatch h), fun hp => ?_⟩, rfl⟩)
    · have hp := hiff.1 h
      rw [hl, Int.tdiv_eq_ediv_of_nonneg (by omega), w64 (by omega) (by omega), beq_iff_eq]
      exact ⟨fun hT => ⟨hp.1, hp.2.1, hp.2.2, by omega⟩, fun h => by have := h.2.2.2; omega⟩
    · rw [hiff.2 ⟨hp.1, hp.2.1, hp.2.2.1⟩] at h; cases h
  rintro (b : Bool) w2 ⟨hiff2, rfl⟩
  exact ⟨b, rfl, hiff2, Only.trans e e2⟩
/-! ## Which frames are free -/
def setR (l : List Bool) (a : Nat) : Nat → List Bool
  | 0 => l
  | k + 1 => (setR l a k).set (a + k) true
def fmapF : List DBlock → List Bool → List Bool
  | [], l => l
  | b :: r, l => fmapF r (setR l b.At.toNat (pw b.Order).toNat)
def freeL (T : Int) (fr : List DBlock) : List Bool := fmapF fr (List.replicate T.toNat false)
theorem setR_len (l : List Bool) (a : Nat) : ∀ k, (setR l a k).length = l.length
  | 0 => rfl
  | k + 1 => by unfold setR; rw [List.length_set, setR_len l a k]
theorem fmapF_app : ∀ (a b : List DBlock) (l : List Bool), fmapF (a ++ b) l = fmapF b (fmapF a l)
  | [], b, l => rfl
  | x :: a, b, l => fmapF_app a b (setR l x.At.toNat (pw x.Order).toNat)
theorem fmapF_len : ∀ (a : List DBlock) (l : List Bool), (fmapF a l).length = l.length
  | [], l => rfl
  | x :: a, l => by unfold fmapF; rw [fmapF_len a, setR_len]
theorem freeL_len (T : Int) (fr : List DBlock) : (freeL T fr).length = T.toNat := by unfold freeL; rw [fmapF_len, List.length_replicate]
theorem fmapF_take {fr : List DBlock} {k : Nat} {x : DBlock} (hx : fr[k]? = some x) (l : List Bool) : fmapF (fr.take (k + 1)) l = setR (fmapF (fr.take k) l) x.At.toNat (pw x.Order).toNat := by
  rw [List.take_add_one, hx, fmapF_app]; rfl
def bools (l : List Bool) : List Value := l.map Value.bool
theorem bools_len (l : List Bool) : (bools l).length = l.length := by unfold bools; simp
theorem bools_set (l : List Bool) (i : Nat) (b : Bool) : (bools l).set i (.bool b) = bools (l.set i b) := by unfold bools; rw [List.map_set]
theorem zeros_bool : ∀ n, zerosOf [Value.bool false] n = bools (List.replicate n false)
  | 0 => rfl
  | n + 1 => by rw [zerosOf, zeros_bool n, List.replicate_succ]; rfl
theorem set1_step {w : World} {b i : Nat} {vs : List Value} {v : Value} {k : World → Prop} (hb : Blk w b vs) (hi : i < vs.length) (h : ∀ w2, Only (fun j => j = b) w w2 → Blk w2 b (vs.set i v) → w2.heap.size = w.heap.size → k w2) :
    May w ((⟨b, 0, none⟩ : Addr).add (i * 1)) ∧ LetW (w.setCell ((⟨b, 0, none⟩ : Addr).add (i * 1)) v) k := by
  rw [add_mk, Nat.zero_add, Nat.mul_one]
  exact set_step hb hi h
/-- The map of free frames, made. -/
def FreeV (T : Int) (fr : List DBlock) (w : World) (v : Value) (w' : World) : Prop := ∃ b, v = .slice (some ⟨b, 0, none⟩) T.toNat T.toNat ∧ w.heap.size ≤ b ∧ Blk w' b (bools (freeL T fr)) ∧ Ext w w'
theorem c153 {l : Sl} {T : Int} {fr : List DBlock} {w : World} (h : FrAt w l fr) (hf : FOk T fr) : CallW Try.prog 153 #[.agg #[.int .i64 T, .slice l.a l.len l.cap]] w (FreeV T fr w) := by
  refine go153 ?_
  unfold W153
  have hT0 := hf.1
  have hT1 := hf.2.1
  refine alloc_step (fun w1 e hb n1 => ?_)
  refine ⟨_, hb.cell 0, by omega, by omega, by omega, by omega, alloc_step (fun w3 e3 hm n3 => ?_)⟩
  have hm : Blk w3 w1.heap.size (bools (fmapF (fr.take 0) (List.replicate T.toNat false))) := by
    rw [show zerosOf ti4.zero T.toNat = bools (List.replicate T.toNat false) from zeros_bool _] at hm
    exact hm
  have hb3 := hb.ext e3
  have h3 := h.ext (Only.trans e e3)
  have hl := h.len
  have hfew := h.few
  refine LoopW.m1 (fun (i : Int) w' => ∃ k : Nat, i = k ∧ k ≤ fr.length ∧ Blk w' w1.heap.size (bools (fmapF (fr.take k) (List.replicate T.toNat false))) ∧ Only (fun j => j = w1.heap.size) w3 w') (fun (i : Int) _ => ((fr.length : Int) - i).toNat) ⟨0, rfl, by omega, hm, Only.refl _ _⟩ ?_
  rintro (i : Int) w6 ⟨k, rfl, hk, hm6, o6⟩ J hJ
  have e16 : Ext w1 w6 := e3.own o6 (fun j hj => by omega)
  have hb6 := hb.ext e16
  refine ⟨l, hb6.cell 1, ?_⟩
  rw [hl]
  refine BIf.dec (fun hlt => ?_) (fun hge => ?_)
  · obtain ⟨x, hx⟩ : ∃ x, fr[k]? = some x := ⟨_, List.getElem?_eq_getElem (by omega)⟩
    have hbo := blkOk_out (hf.2.2 k x hx).1
    have hpw := pw_rng (o := x.Order) (by omega)
    refine LoopW.m1 (fun (i : Int) w' => ∃ q : Nat, i = q ∧ q ≤ (pw x.Order).toNat ∧ Blk w' w1.heap.size (bools (setR (fmapF (fr.take k) (List.replicate T.toNat false)) x.At.toNat q)) ∧ Only (fun j => j = w1.heap.size) w3 w') (fun (i : Int) _ => (pw x.Order - i).toNat) ⟨0, rfl, by omega, hm6, o6⟩ ?_
    rintro (i : Int) w10 ⟨q, rfl, hq, hm10, o10⟩ J2 hJ2
    have e10 : Ext w1 w10 := e3.own o10 (fun j hj => by omega)
    have hb10 := hb.ext e10
    obtain ⟨p, hp, hc0, hc1⟩ := (h.ext (Only.trans e e10)).get hx
    refine ⟨l, hb10.cell 1, by omega, by omega, p, hp, _, hc1, (c176 hbo.1 (by omega)).mono ?_⟩
    rintro _ w10 ⟨rfl, rfl⟩
    refine ⟨_, rfl, BIf.dec (fun hq2 => ?_) (fun hq2 => ?_)⟩
    · have hidx : IntKind.i64.wrap (x.At + (q : Int)) = ((x.At.toNat + q : Nat) : Int) := by rw [w64 (by omega) (by omega)]; omega
      refine ⟨l, hb10.cell 1, by omega, by omega, p, hp, _, hc0, ?_⟩
      rw [hidx, Int.toNat_natCast]
      refine ⟨by omega, by omega, _, rfl, set1_step hm10 (by rw [bools_len, setR_len, fmapF_len, List.length_replicate]; omega) (fun w21 o21 hm21 n21 => ?_)⟩
      rw [w64 (by omega) (by omega)]
      rw [bools_set] at hm21
      exact hJ2 _ _ ⟨q + 1, by omega, by omega, hm21, Only.trans o10 o21⟩ (by omega)
    · have hq3 : q = (pw x.Order).toNat := by omega
      subst hq3
      rw [w64 (by omega) (by omega)]
      refine hJ _ _ ⟨k + 1, by omega, by omega, ?_, o10⟩ (by omega)
      rw [fmapF_take hx]; exact hm10
  · rw [List.take_of_length_le (by omega)] at hm6
    exact ⟨_, rfl, by omega, hm6, Only.trans e e16⟩
theorem c150 {l : Sl} {T : Int} {fr : List DBlock} {w : World} (h : FrAt w l fr) (hf : FOk T fr) : CallW Try.prog 150 #[.agg #[.int .i64 T, .slice l.a l.len l.cap]] w (FreeV T fr w) := by
  refine go150 ?_
  unfold W150
  have hT0 := hf.1
  have hT1 := hf.2.1
  refine alloc_step (fun w1 e hb n1 => ?_)
  refine ⟨_, hb.cell 0, by omega, by omega, by omega, by omega, alloc_step (fun w3 e3 hm n3 => ?_)⟩
  have hm : Blk w3 w1.heap.size (bools (fmapF (fr.take 0) (List.replicate T.toNat false))) := by
    rw [show zerosOf ti4.zero T.toNat = bools (List.replicate T.toNat false) from zeros_bool _] at hm
    exact hm
  have hb3 := hb.ext e3
  have hl := h.len
  have hfew := h.few
  refine ⟨l, hb3.cell 1, ?_⟩
  rw [hl]
  refine LoopW.m1 (fun (i : Int) w' => ∃ k : Nat, i = k ∧ k ≤ fr.length ∧ Blk w' w1.heap.size (bools (fmapF (fr.take k) (List.replicate T.toNat false))) ∧ Ext w1 w' ∧ w1.heap.size < w'.heap.size) (fun (i : Int) _ => ((fr.length : Int) - i).toNat) ⟨0, rfl, by omega, hm, e3, by omega⟩ ?_
  rintro (i : Int) w6 ⟨k, rfl, hk, hm6, e16, z6⟩ J hJ
  have hb6 := hb.ext e16
  refine BIf.dec (fun hlt => ?_) (fun hge => ?_)
  · obtain ⟨x, hx⟩ : ∃ x, fr[k]? = some x := ⟨_, List.getElem?_eq_getElem (by omega)⟩
    have hbo := blkOk_out (hf.2.2 k x hx).1
    have hpw := pw_rng (o := x.Order) (by omega)
    obtain ⟨p, hp, hc0, hc1⟩ := (h.ext (Only.trans e e16)).get hx
    refine ⟨by omega, by omega, p, hp, _, hc0, _, hc1, alloc_step (fun w11 e11 hz n11 => blk_put2 hz (fun w12 o12 hz n12 => ?_))⟩
    have e12 : Ext w6 w12 := e11.own o12 (fun j hj => by omega)
    have hm12 := hm6.ext e12
    refine ⟨_, hz.cell 1, ?_⟩
    rw [shl_pw hbo.1 (by omega)]
    refine ⟨by omega, ?_⟩
    refine LoopW.m1 (fun (i : Int) w' => ∃ q : Nat, i = q ∧ q ≤ (pw x.Order).toNat ∧ Blk w' w1.heap.size (bools (setR (fmapF (fr.take k) (List.replicate T.toNat false)) x.At.toNat q)) ∧ Blk w' w6.heap.size [.int .i64 x.At, .int .i64 x.Order] ∧ Ext w1 w' ∧ w6.heap.size < w'.heap.size) (fun (i : Int) _ => (pw x.Order - i).toNat) ⟨0, rfl, by omega, hm12, hz, Only.trans e16 e12, by omega⟩ ?_
    rintro (i : Int) w16 ⟨q, rfl, hq, hm16, hz16, e116, z16⟩ J2 hJ2
    refine BIf.dec (fun hq2 => ?_) (fun hq2 => ?_)
    · have hidx : IntKind.i64.wrap (x.At + (q : Int)) = ((x.At.toNat + q : Nat) : Int) := by rw [w64 (by omega) (by omega)]; omega
      refine ⟨_, hz16.cell 0, ?_⟩
      rw [hidx, Int.toNat_natCast]
      refine ⟨by omega, by omega, _, rfl, set1_step hm16 (by rw [bools_len, setR_len, fmapF_len, List.length_replicate]; omega) (fun w21 o21 hm21 n21 => ?_)⟩
      rw [w64 (by omega) (by omega)]
      rw [bools_set] at hm21
      exact hJ2 _ _ ⟨q + 1, by omega, by omega, hm21, hz16.only o21 (by omega), e116.own o21 (fun j hj => by omega), by omega⟩ (by omega)
    · have hq3 : q = (pw x.Order).toNat := by omega
      subst hq3
      rw [w64 (by omega) (by omega)]
      refine hJ _ _ ⟨k + 1, by omega, by omega, ?_, e116, by omega⟩ (by omega)
      rw [fmapF_take hx]; exact hm16
  · rw [List.take_of_length_le (by omega)] at hm6
    exact ⟨_, rfl, by omega, hm6, Only.trans e e16⟩
/-! ## Copies -/
theorem OwnS.capLe {w : World} {b0 z : Nat} {s : Sl} {vs : List Value} (h : OwnS w b0 s z vs) : s.len ≤ s.cap := by
  rcases h.2 with ⟨h1, h2⟩ | ⟨b, cs, _, _, _, _, h, _⟩
  · omega
  · exact h
theorem own_bytes {w : World} {b0 : Nat} {s : Sl} {m : List Int} (h : OwnS w b0 s 1 (m.map (Value.int .u8))) (hr : ∀ x, x ∈ m → 0 ≤ x ∧ x ≤ 255) (hs : m.length ≤ 1099511627776) : Bytes w s m := by
  have hl := h.len
  have hrow := h.row
  rw [List.length_map, Nat.mul_one] at hl
  rw [Nat.mul_one] at hrow
  exact ⟨hl.symm, OwnS.capLe h, hrow, hr, hs⟩
theorem blocks_len (fr : List DBlock) : (fr.flatMap DBlock.cells).length = fr.length * 2 := flatMap_length DBlock.cells 2 (fun _ => rfl) fr
theorem own_fr {w : World} {b0 : Nat} {s : Sl} {fr : List DBlock} (h : OwnS w b0 s 2 (fr.flatMap DBlock.cells)) (hs : fr.length ≤ 1099511627776) : FrAt w s fr := by
  have hl := h.len
  rw [blocks_len] at hl
  exact ⟨by omega, h.row, hs⟩
theorem plain_int {k : IntKind} {l : List Int} : ∀ v, v ∈ l.map (Value.int k) → plainB v = true := fun v hv => by obtain ⟨x, _, rfl⟩ := List.mem_map.1 hv; rfl
theorem plain_blk {fr : List DBlock} : ∀ v, v ∈ fr.flatMap DBlock.cells → plainB v = true := fun v hv => by
  obtain ⟨x, _, hx⟩ := List.mem_flatMap.1 hv
  simp only [DBlock.cells, List.mem_cons, List.not_mem_nil, or_false] at hx
  rcases hx with rfl | rfl <;> rfl
theorem c156 {s : Sl} {m : List Int} {w : World} (h : Bytes w s m) : CallW Try.prog 156 #[.slice s.a s.len s.cap] w (fun v w' => ∃ t : Sl, v = .slice t.a t.len t.cap ∧ OwnS w' w.heap.size t 1 (m.map (Value.int .u8)) ∧ Ext w w') := by
  refine go156 ?_
  unfold W156
  have hl := h.len
  have hs := h.small
  refine AppendW.own (b0 := w.heap.size) (z := 1) (os := []) (vs := m.map (Value.int .u8)) (OwnS.none _ _ _ _) (by rw [Nat.mul_one]; exact h.row) rfl rfl (by decide) (by show (0 + s.len) * 1 ≤ _; omega) plain_int (Nat.le_refl _) (fun s' w' h1 h2 h3 h4 => ?_)
  refine ⟨s', rfl, h2, h3.mono (fun k hk hh => ?_)⟩
  exact absurd hh.2 (by simp)
theorem c149 {l : Sl} {T : Int} {fr : List DBlock} {w : World} (h : FrAt w l fr) : CallW Try.prog 149 #[.agg #[.int .i64 T, .slice l.a l.len l.cap]] w (fun v w' => ∃ t : Sl, v = .agg #[.int .i64 T, .slice t.a t.len t.cap] ∧ OwnS w' w.heap.size t 2 (fr.flatMap DBlock.cells) ∧ Ext w w') := by
  refine go149 ?_
  unfold W149
  have hl := h.len
  have hs := h.few
  refine alloc_step (fun w1 e1 hb n1 => ?_)
  refine alloc_step (fun w2 e2 hz n2 => ?_)
  have hb := hb.ext e2
  have e := Only.trans e1 e2
  refine ⟨l, hb.cell 1, ?_⟩
  refine AppendW.own (b0 := w2.heap.size) (z := 2) (os := []) (vs := fr.flatMap DBlock.cells) (OwnS.none _ _ _ _) ((h.ext e).row) rfl rfl (by decide) (by show (0 + l.len) * 16 ≤ _; omega) plain_blk (Nat.le_refl _) (fun s' w5 h1 h2 h3 h4 => ?_)
  have e5 : Ext w2 w5 := h3.mono (fun k hk hh => absurd hh.2 (by simp))
  have hb := hb.ext e5
  have hz := hz.ext e5
  have e := Only.trans e e5
  have z5 := e5.size
  refine set_step hb (by simp) (fun w6 o6 hb n6 => ?_)
  have hz := hz.only o6 (by omega)
  have e := Ext.own e o6 (fun k hk => by omega)
  have h2 : OwnS w6 w2.heap.size s' 2 (fr.flatMap DBlock.cells) := h2.only o6 (fun b _ hb0 _ => by omega)
  refine ⟨_, hb.cell 0, s', hb.cell 1, put_step hz rfl rfl (fun w9 o9 hz n9 => ?_)⟩
  have e := Ext.own e o9 (fun k hk => by omega)
  have h2 := h2.only o9 (fun b _ hb0 _ => by omega)
  exact ⟨_, hz.cell 0, s', hz.cell 1, s', rfl, h2.mono (by omega), e⟩
/-- A slice's row does not lie in that block. -/
def Apart (s : Sl) (q : Nat) : Prop := 0 < s.cap → s.a ≠ some ⟨q, 0, none⟩
theorem OwnS.where_ {w : World} {b0 z : Nat} {s : Sl} {vs : List Value} (h : OwnS w b0 s z vs) (hc : 0 < s.cap) : ∃ q, s.a = some ⟨q, 0, none⟩ ∧ b0 ≤ q ∧ q < w.heap.size := by
  rcases h.2 with ⟨h1, h2⟩ | ⟨b, cs, ha, hb, hbl, _⟩
  · omega
  · exact ⟨b, ha, hb, hbl.lt⟩
/-- A pool that is worked on. -/
structure PoolAt (w : World) (b0 b : Nat) (sm sf : Sl) (m : List Int) (T : Int) (fr : List DBlock) : Prop where
  blk : Blk w b [.slice sm.a sm.len sm.cap, .int .i64 T, .slice sf.a sf.len sf.cap]
  mem : OwnS w b0 sm 1 (m.map (Value.int .u8))
  frs : OwnS w b0 sf 2 (fr.flatMap DBlock.cells)
  hb : b0 ≤ b
  mb : Apart sm b
  fb : Apart sf b
  mf : ∀ q, 0 < sm.cap → sm.a = some ⟨q, 0, none⟩ → Apart sf q
theorem PoolAt.ext {w w' : World} {b0 b : Nat} {sm sf : Sl} {m : List Int} {T : Int} {fr : List DBlock} (h : PoolAt w b0 b sm sf m T fr) (e : Ext w w') : PoolAt w' b0 b sm sf m T fr := ⟨h.blk.ext e, h.mem.ext e, h.frs.ext e, h.hb, h.mb, h.fb, h.mf⟩
theorem c95 {sm sf : Sl} {m : List Int} {T : Int} {fr : List DBlock} {w : World} (hm : Bytes w sm m) (hf : FrAt w sf fr) : CallW Try.prog 95 #[.agg #[.slice sm.a sm.len sm.cap, .int .i64 T, .slice sf.a sf.len sf.cap]] w
    (fun v w' => ∃ b tm tf, v = .pointer (some ⟨b, 0, none⟩) ∧ PoolAt w' w.heap.size b tm tf m T fr ∧ Ext w w') := by
  refine go95 ?_
  unfold W95
  refine alloc_step (fun w1 e1 hb n1 => ?_)
  have e := Only.trans e1 (ext_drew w1)
  have hb := hb.ext (ext_drew w1)
  have z1 : w1.drew.heap.size = w1.heap.size := rfl
  generalize w1.drew = w2 at *
  refine ⟨sm, hb.cell 0, _, hb.cell 1, sf, hb.cell 2, (c156 (hm.ext e)).mono ?_⟩
  rintro _ w6 ⟨tm, rfl, om, e6⟩
  have hb := hb.ext e6
  have e := Only.trans e e6
  refine ⟨tm, rfl, ⟨_, hb.cell 1, sf, hb.cell 2, rfl⟩, (c149 (hf.ext e)).mono ?_⟩
  rintro _ w11 ⟨tf, rfl, of, e11⟩
  refine ⟨_, tf, rfl, alloc_step (fun w14 e14 hp n14 => ?_)⟩
  have z6 := e6.size
  have z11 := e11.size
  refine ⟨_, tm, tf, rfl, ⟨hp, (om.ext (Only.trans e11 e14)).mono (by omega), (of.ext e14).mono (by omega), by omega, fun hc ha => ?_, fun hc ha => ?_, fun q hc hq hc2 ha => ?_⟩, Only.trans e (Only.trans e11 e14)⟩
  · obtain ⟨q, hq, _, hlt⟩ := OwnS.where_ om hc
    rw [hq] at ha; cases ha; omega
  · obtain ⟨q, hq, _, hlt⟩ := OwnS.where_ of hc
    rw [hq] at ha; cases ha; omega
  · obtain ⟨q1, hq1, _, hlt1⟩ := OwnS.where_ om hc
    obtain ⟨q2, hq2, hge, _⟩ := OwnS.where_ of hc2
    rw [hq1] at hq; cases hq
    rw [hq2] at ha; cases ha; omega
/-! ## An entry read -/
theorem byt_cut {m : List Int} {a : Nat} {i : Int} (h0 : 0 ≤ i) (h1 : i < 8) : byt ((m.drop a).take 8) i = byt m ((a : Int) + i) := by
  obtain ⟨n, rfl⟩ := Int.eq_ofNat_of_zero_le h0
  unfold byt
  rw [Int.toNat_natCast, show ((a : Int) + (n : Int)).toNat = a + n by omega]
  simp only [List.getD_eq_getElem?_getD, List.getElem?_take, List.getElem?_drop]
  rw [if_pos (by omega)]
theorem hornr_congr {m m' : List Int} {a a' : Int} : ∀ (k : Nat) (x : Int), (∀ i : Int, 0 ≤ i → i < k → byt m (a + i) = byt m' (a' + i)) → hornr m a k x = hornr m' a' k x
  | 0, x, h => rfl
  | k + 1, x, h => by
    unfold hornr
    rw [h (k : Int) (by omega) (by omega)]
    exact hornr_congr k _ (fun i h0 h1 => h i h0 (by omega))
theorem word_cut (m : List Int) (a : Nat) : word ((m.drop a).take 8) 0 = word m a := by
  unfold word
  refine hornr_congr 8 0 (fun i h0 h1 => ?_)
  rw [Int.zero_add]
  exact byt_cut h0 h1
theorem c124 {s : Sl} {m : List Int} {a : Int} {w : World} (h : Bytes w s m) (h0 : 0 ≤ a) (h1 : a + 8 ≤ m.length) : CallW Try.prog 124 #[.slice s.a s.len s.cap, .int .i64 a] w (fun v w' => v = .int .u64 (word m a) ∧ w' = w) := by
  refine go124 ?_
  unfold W124
  have hl := h.len
  have hc := h.cap
  have hs := h.small
  rw [w64 (by omega) (by omega)]
  refine ⟨by omega, by omega, by omega, by omega, ?_⟩
  obtain ⟨n, rfl⟩ := Int.eq_ofNat_of_zero_le h0
  rw [Int.toNat_natCast, show ((n : Int) + 8).toNat - n = 8 by omega]
  refine (c174 (h.cut (a := n) (by omega)) (by omega) (by simp; omega)).mono ?_
  rintro _ w ⟨rfl, rfl⟩
  exact ⟨_, _, rfl, by rw [word_cut], rfl⟩
theorem c126 {b : Nat} {sm : Sl} {x y : Value} {m : List Int} {t i : Int} {w : World} (hp : Blk w b [.slice sm.a sm.len sm.cap, x, y]) (h : Bytes w sm m) (h0 : 0 ≤ t) (hi : 0 ≤ i) (hi2 : i < 32) (h1 : t * 256 + 256 ≤ m.length) : CallW Try.prog 126 #[.pointer (some ⟨b, 0, none⟩), .int .i64 t, .int .i64 i] w (fun v w' => v = .int .u64 (word m (t * 256 + 8 * i)) ∧ w' = w) := by
  refine go126 ?_
  unfold W126
  have hs := h.small
  refine ⟨_, rfl, sm, hp.cell 0, ?_⟩
  rw [w64 (n := t * 256) (by omega) (by omega), w64 (n := 8 * i) (by omega) (by omega), w64 (by omega) (by omega)]
  refine (c168 h (by omega) (by omega)).mono ?_
  rintro _ w ⟨rfl, rfl⟩
  exact ⟨_, _, rfl, rfl, rfl⟩
end Go.Proofs.Ytkgoanjemhbjgaa

/- Spaces: the tables of a space: what is found, and the reference's side. Conditions: none. -/
set_option linter.unusedVariables false
set_option linter.unusedSimpArgs false
namespace Go.Proofs.Ytkgoanjemhbjgaa
open Go Go.Den
/-- An entry at a level: none: it must not be; a page; or a table. -/
def cls (x lvl : Int) : Option Bool :=
  if kindS x lvl < 0 ∨ (kindS x lvl = 1 ∧ 0 < lvl) then none else if kindS x lvl = 0 then some false else some true
def scanT (x : Int → Int) (lvl : Int) (rec : Int → List Int → Option (List Int)) : Nat → List Int → Bool → Option (List Int × Bool)
  | 0, S, any => some (S, any)
  | k + 1, S, any => if x (31 - (k : Int)) = 0 then scanT x lvl rec k S any else match cls (x (31 - (k : Int))) lvl with
    | none => none
    | some true => scanT x lvl rec k S true
    | some false => match rec (efr (x (31 - (k : Int)))) S with
      | none => none
      | some S' => scanT x lvl rec k S' true
def entAt (m : List Int) (t i : Int) : Int := word m (t * 256 + 8 * i)
def tblStep (m : List Int) (free : List Bool) (lvl : Nat) (rec : Int → List Int → Option (List Int)) (t : Int) (S : List Int) : Option (List Int) :=
  if t < 0 ∨ (free.length : Int) ≤ t ∨ free.getD t.toNat false = true ∨ t ∈ S then none
  else match scanT (entAt m t) lvl rec 32 (S ++ [t]) (decide (lvl = 2)) with
    | some (S', true) => some S'
    | _ => none
def tblF (m : List Int) (free : List Bool) : Nat → Int → List Int → Option (List Int)
  | 0 => tblStep m free 0 (fun _ _ => none)
  | n + 1 => tblStep m free (n + 1) (tblF m free n)
def Adds (c : Nat) (rec : Int → List Int → Option (List Int)) : Prop := ∀ t S S', rec t S = some S' → ∃ add, S' = S ++ add ∧ add.length ≤ c
theorem scanT_adds {x : Int → Int} {lvl : Int} {rec : Int → List Int → Option (List Int)} {c : Nat} (hr : Adds c rec) : ∀ (k : Nat) (S : List Int) (any : Bool) (S' : List Int) (any' : Bool), scanT x lvl rec k S any = some (S', any') → ∃ add, S' = S ++ add ∧ add.length ≤ k * c
  | 0, S, any, S', any', h => by unfold scanT at h; injection h with h; injection h with h1 h2; exact ⟨[], by rw [h1, List.append_nil], by simp⟩
  | k + 1, S, any, S', any', h => by
    unfold scanT at h
    have hk : k * c ≤ (k + 1) * c := Nat.mul_le_mul_right c (by omega)
    split at h
    · obtain ⟨add, h1, h2⟩ := scanT_adds hr k _ _ _ _ h
      exact ⟨add, h1, by omega⟩
    · split at h
      · cases h
      · obtain ⟨add, h1, h2⟩ := scanT_adds hr k _ _ _ _ h
        exact ⟨add, h1, by omega⟩
      · split at h
        · cases h
        · rename_i S1 hS1
          obtain ⟨a1, h3, h4⟩ := hr _ _ _ hS1
          obtain ⟨add, h1, h2⟩ := scanT_adds hr k _ _ _ _ h
          exact ⟨a1 ++ add, by rw [h1, h3, List.append_assoc], by rw [List.length_append, Nat.succ_mul]; omega⟩
theorem tblStep_adds {m : List Int} {free : List Bool} {lvl : Nat} {rec : Int → List Int → Option (List Int)} {c : Nat} (hr : Adds c rec) : Adds (32 * c + 1) (tblStep m free lvl rec) := by
  intro t S S' h
  unfold tblStep at h
  split at h
  · cases h
  · split at h
    · rename_i S1 hS1
      injection h with h
      subst h
      obtain ⟨add, h1, h2⟩ := scanT_adds hr 32 _ _ _ _ hS1
      exact ⟨t :: add, by rw [h1]; simp, by simp; omega⟩
    · cases h
theorem adds0 : Adds 0 (fun _ _ => none) := fun t S S' h => by cases h
theorem tblF_adds {m : List Int} {free : List Bool} : Adds 1 (tblF m free 0) ∧ Adds 33 (tblF m free 1) ∧ Adds 1057 (tblF m free 2) :=
  have h0 : Adds 1 (tblF m free 0) := tblStep_adds adds0
  have h1 : Adds 33 (tblF m free 1) := tblStep_adds h0
  ⟨h0, h1, tblStep_adds h1⟩
/-! ## Which tables were seen -/
def seenL (n : Nat) (S : List Int) : List Bool := (List.range n).map (fun (i : Nat) => decide ((i : Int) ∈ S))
theorem seenL_len (n : Nat) (S : List Int) : (seenL n S).length = n := by simp [seenL]
theorem seenL_get {n : Nat} {S : List Int} {i : Nat} (h : i < n) : (bools (seenL n S))[i]? = some (.bool (decide ((i : Int) ∈ S))) := by
  unfold bools seenL
  rw [List.getElem?_map, List.getElem?_map, List.getElem?_range h]
  rfl
theorem seenL_set {n : Nat} {S : List Int} {i : Nat} (h : i < n) : (seenL n S).set i true = seenL n (S ++ [(i : Int)]) := by
  apply List.ext_getElem?
  intro j
  unfold seenL
  rw [List.getElem?_set]
  by_cases hij : i = j
  · subst hij
    rw [if_pos rfl, if_pos (by simpa using h), List.getElem?_map, List.getElem?_range h]
    simp
  · rw [if_neg hij, List.getElem?_map, List.getElem?_map]
    by_cases hj : j < n
    · rw [List.getElem?_range hj]
      simp [Ne.symm hij]
      intro hh
      exact absurd (by omega) hij
    · rw [List.getElem?_eq_none (by simp; omega)]; rfl
theorem seenL_nil (n : Nat) : seenL n [] = List.replicate n false := by
  apply List.ext_getElem?
  intro j
  unfold seenL
  rw [List.getElem?_map, List.getElem?_replicate]
  by_cases hj : j < n
  · rw [List.getElem?_range hj, if_pos hj]; simp
  · rw [if_neg hj, List.getElem?_eq_none (by simp; omega)]; rfl
theorem bools_get {l : List Bool} {i : Nat} (h : i < l.length) : (bools l)[i]? = some (.bool (l.getD i false)) := by
  unfold bools
  rw [List.getElem?_map, List.getElem?_eq_getElem h]
  simp [List.getD_eq_getElem?_getD, List.getElem?_eq_getElem h]
/-- Bytes that are older than what has turned. -/
theorem Bytes.only {S : Nat → Prop} {w w' : World} {s : Sl} {m : List Int} (h : Bytes w s m) (o : Only S w w') (hS : m ≠ [] → ∀ p, s.a = some p → p.block < w.heap.size → ¬ S p.block) : Bytes w' s m := by
  refine ⟨h.len, h.cap, ⟨h.row.1, fun hn => ?_⟩, h.rng, h.small⟩
  have hne : m ≠ [] := fun hm => by have := h.len; rw [hm] at this; simp at this; omega
  obtain ⟨p, hp, hc⟩ := h.row.2 hn
  refine ⟨p, hp, fun j v hj => ?_⟩
  have hcj := hc j v hj
  refine Only.cell o hcj ?_
  rw [add_block]
  refine hS hne p hp ?_
  have hlt : (p.add j).block < w.heap.size := by
    unfold World.cell? at hcj
    rcases hb : w.heap[(p.add j).block]? with _ | o
    · rw [hb] at hcj; exact absurd hcj (by simp)
    · exact (Array.getElem?_eq_some_iff.1 hb).1
  rwa [add_block] at hlt
theorem Bytes.old {w : World} {s : Sl} {m : List Int} (h : Bytes w s m) (hm : m ≠ []) {p : Addr} (hp : s.a = some p) : p.block < w.heap.size := by
  have hl : 0 < m.length := List.length_pos_iff.2 hm
  obtain ⟨q, hq, hc⟩ := h.row.cell (i := 0) (v := .int .u8 m[0]) (by rw [List.getElem?_map, List.getElem?_eq_getElem hl]; rfl)
  rw [hp] at hq; cases hq
  unfold World.cell? at hc
  rw [add_zero] at hc
  rcases hb : w.heap[p.block]? with _ | o
  · rw [hb] at hc; exact absurd hc (by simp)
  · exact (Array.getElem?_eq_some_iff.1 hb).1
structure TCtx (w : World) (sm : Sl) (m : List Int) (bf bs : Nat) (free : List Bool) (S : List Int) : Prop where
  mem : Bytes w sm m
  mo : m ≠ [] → ∀ p, sm.a = some p → p.block ≠ bs
  fr : Blk w bf (bools free)
  seen : Blk w bs (bools (seenL free.length S))
  ne : bf ≠ bs
  ml : m.length = 256 * free.length
  few : free.length ≤ 1024
theorem TCtx.only {w w' : World} {sm : Sl} {m : List Int} {bf bs : Nat} {free : List Bool} {S S' : List Int} (h : TCtx w sm m bf bs free S) (o : Only (fun k => k = bs) w w') (hs : Blk w' bs (bools (seenL free.length S'))) : TCtx w' sm m bf bs free S' :=
  ⟨h.mem.only o (fun hm p hp _ => h.mo hm p hp), h.mo, h.fr.only o h.ne, hs, h.ne, h.ml, h.few⟩
def TabV (sm : Sl) (m : List Int) (bf bs : Nat) (free : List Bool) (S : List Int) (res : Option (List Int)) (w : World) (v : Value) (w' : World) : Prop :=
  ∃ (l : Sl) (b : Bool), v = .tuple #[.slice l.a l.len l.cap, .bool b] ∧ Only (fun k => k = bs) w w' ∧ (res = none → b = false) ∧
    ∀ S', res = some S' → b = true ∧ Blk w' bs (bools (seenL free.length S')) ∧ ∃ add, S' = S ++ add ∧ OwnS w' w.heap.size l 1 (add.map (Value.int .i64))
theorem kindS_cases (x lvl : Int) : kindS x lvl = -4 ∨ kindS x lvl = -5 ∨ kindS x lvl = -6 ∨ kindS x lvl = 0 ∨ kindS x lvl = 1 := by
  unfold kindS
  repeat' split
  all_goals omega
theorem kindS_small {x lvl : Int} (h : kindS x lvl = 0 ∨ kindS x lvl = 1) : x < 1048576 := by
  unfold kindS at h
  by_cases hx : 1048576 ≤ x
  · rw [if_pos hx] at h
    split at h <;> omega
  · omega
theorem c152 {lvl : Nat} (hlv : lvl ≤ 2) {sm : Sl} {m : List Int} {bf bs : Nat} {free : List Bool} {rec : Int → List Int → Option (List Int)} (hadd : Adds 100 rec)
    (hrec : lvl = 0 ∨ ∀ {w : World} {t : Int} {S : List Int}, TCtx w sm m bf bs free S → CallW Try.prog 152 #[.slice sm.a sm.len sm.cap, .slice (some ⟨bf, 0, none⟩) free.length free.length, .slice (some ⟨bs, 0, none⟩) free.length free.length, .int .i64 t, .int .i64 ((lvl : Int) - 1)] w (TabV sm m bf bs free S (rec t S) w))
    {w : World} {t : Int} {S : List Int} (h : TCtx w sm m bf bs free S) :
    CallW Try.prog 152 #[.slice sm.a sm.len sm.cap, .slice (some ⟨bf, 0, none⟩) free.length free.length, .slice (some ⟨bs, 0, none⟩) free.length free.length, .int .i64 t, .int .i64 (lvl : Int)] w (TabV sm m bf bs free S (tblStep m free lvl rec t S) w) := by
  refine CallW.mono (go152 (a0 := sm) (a1 := ⟨some ⟨bf, 0, none⟩, free.length, free.length⟩) (a2 := ⟨some ⟨bs, 0, none⟩, free.length, free.length⟩) (K := TabV sm m bf bs free S (tblStep m free lvl rec t S) w) ?_) (fun _ _ h => h)
  unfold W152
  have hfew := h.few
  have hml := h.ml
  have hblt := h.seen.lt
  -- the table must not be
  have bad : ∀ w', Only (fun k => k = bs) w w' → tblStep m free lvl rec t S = none → ∀ l : Sl, TabV sm m bf bs free S (tblStep m free lvl rec t S) w (.tuple #[.slice l.a l.len l.cap, .bool false]) w' := fun w' o hn l => ⟨l, false, rfl, o, fun _ => rfl, fun S' hS => by rw [hn] at hS; cases hS⟩
  rw [join_or]
  refine JoinW.cut1 (fun (b : Bool) w' => (b = true ↔ t < 0 ∨ (free.length : Int) ≤ t ∨ free.getD t.toNat false = true) ∧ w' = w) ?_ ?_
  · refine BIf.of (fun h1 => ⟨?_, rfl⟩) (fun h1 => ?_)
    · simp only [Bool.or_eq_true, decide_eq_true_eq] at h1
      exact ⟨fun _ => by omega, fun _ => rfl⟩
    · simp only [Bool.or_eq_false_iff, decide_eq_false_iff_not] at h1
      refine ⟨by omega, by show t < ((free.length : Nat) : Int); omega, _, rfl, free.getD t.toNat false, ?_, ?_, rfl⟩
      · rw [add_mk, h.fr.cell, Nat.zero_add, Nat.mul_one, bools_get (by omega)]
      · exact ⟨fun hh => .inr (.inr hh), fun hh => by rcases hh with hh | hh | hh; omega; omega; exact hh⟩
  rintro (b : Bool) w0 ⟨hiff, rfl⟩
  refine JoinW.cut1 (fun (b : Bool) w' => (b = true ↔ t < 0 ∨ (free.length : Int) ≤ t ∨ free.getD t.toNat false = true ∨ t ∈ S) ∧ w' = w0) ?_ ?_
  · refine BIf.of (fun h1 => ⟨?_, rfl⟩) (fun h1 => ?_)
    · have := hiff.1 h1
      exact ⟨fun _ => by rcases this with h | h | h; exact .inl h; exact .inr (.inl h); exact .inr (.inr (.inl h)), fun _ => rfl⟩
    · have h2 : ¬ (t < 0 ∨ (free.length : Int) ≤ t ∨ free.getD t.toNat false = true) := fun hh => by rw [hiff.2 hh] at h1; cases h1
      refine ⟨by omega, by show t < ((free.length : Nat) : Int); omega, _, rfl, decide (t ∈ S), ?_, ?_, rfl⟩
      · rw [add_mk, h.seen.cell, Nat.zero_add, Nat.mul_one, seenL_get (by omega), show ((t.toNat : Nat) : Int) = t by omega]
      · rw [decide_eq_true_eq]
        exact ⟨fun hh => .inr (.inr (.inr hh)), fun hh => by
          rcases hh with hh | hh | hh | hh
          · exact absurd (.inl hh) h2
          · exact absurd (.inr (.inl hh)) h2
          · exact absurd (.inr (.inr hh)) h2
          · exact hh⟩
  clear hiff b
  rintro (b : Bool) w0 ⟨hiff, rfl⟩
  refine BIf.of (fun hb => ?_) (fun hb => ?_)
  · refine alloc_step (fun w1 e1 _ _ => bad _ e1.any ?_ ⟨_, 0, 0⟩)
    unfold tblStep
    rw [if_pos (hiff.1 hb)]
  have hok : ¬ (t < 0 ∨ (free.length : Int) ≤ t ∨ free.getD t.toNat false = true ∨ t ∈ S) := fun hh => by rw [hiff.2 hh] at hb; cases hb
  have hres : tblStep m free lvl rec t S = match scanT (entAt m t) lvl rec 32 (S ++ [t]) (decide (lvl = 2)) with | some (S', true) => some S' | _ => none := by
    unfold tblStep; rw [if_neg hok]
  generalize hR : scanT (entAt m t) lvl rec 32 (S ++ [t]) (decide (lvl = 2)) = R at hres
  have ht0 : 0 ≤ t := by omega
  have ht1 : t < free.length := by omega
  refine ⟨by omega, by show t < ((free.length : Nat) : Int); omega, _, rfl, set1_step h.seen (by rw [bools_len, seenL_len]; omega) (fun w12 o12 hs12 n12 => ?_)⟩
  rw [bools_set, seenL_set (by omega), show ((t.toNat : Nat) : Int) = t by omega] at hs12
  refine alloc_step (fun w13 e13 hl13 n13 => ?_)
  have o13 : Only (fun k => k = bs) w0 w13 := o12.step e13 (fun i hi hf => hf.elim)
  have own13 : OwnS w13 w0.heap.size ⟨some ⟨w12.heap.size, 0, none⟩, 1, 1⟩ 1 ([t].map (Value.int .i64)) := OwnS.new hl13 (by omega) rfl
  refine LoopW.m3 (fun (l : Sl) (any : Bool) (i : Int) w' => ∃ (k : Nat) (add : List Int), k ≤ 32 ∧ i = 32 - (k : Int) ∧ scanT (entAt m t) lvl rec k (S ++ add) (any || decide (lvl = 2)) = R ∧ add.length ≤ 1 + (32 - k) * 100 ∧ Only (fun k => k = bs) w0 w' ∧ Blk w' bs (bools (seenL free.length (S ++ add))) ∧ OwnS w' w0.heap.size l 1 (add.map (Value.int .i64))) (fun _ _ (i : Int) _ => (32 - i).toNat)
    ⟨32, [t], by omega, by omega, by rw [Bool.false_or]; exact hR, by simp, o13, hs12.ext e13, own13⟩ ?_
  rintro (l : Sl) (any : Bool) (i : Int) w18 ⟨k, add, hk, rfl, hsc, hal, o18, hs18, own18⟩ J hJ
  have h18 := h.only o18 hs18
  have z18 := o18.size
  refine BIf.dec (fun hlt => ?_) (fun hge => ?_)
  · obtain ⟨j, rfl⟩ : ∃ j, k = j + 1 := ⟨k - 1, by omega⟩
    have hidx : (32 : Int) - ((j + 1 : Nat) : Int) = 31 - (j : Int) := by omega
    rw [hidx]
    rw [w64 (n := t * 256) (by omega) (by omega), w64 (n := 8 * (31 - (j : Int))) (by omega) (by omega), w64 (n := t * 256 + 8 * (31 - (j : Int))) (by omega) (by omega)]
    refine (c124 h18.mem (by omega) (by omega)).mono ?_
    rintro _ w18 ⟨rfl, rfl⟩
    have hw := word_rng h.mem.rng (t * 256 + 8 * (31 - (j : Int)))
    have hwe : word m (t * 256 + 8 * (31 - (j : Int))) = entAt m t (31 - (j : Int)) := rfl
    rw [hwe] at hw ⊢
    rw [w64 (n := 31 - (j : Int) + 1) (by omega) (by omega)]
    unfold scanT at hsc
    generalize entAt m t (31 - (j : Int)) = x at *
    refine ⟨x, rfl, BIf.eq (fun hx => ?_) (fun hx => ?_)⟩
    · rw [if_pos hx] at hsc
      exact hJ _ _ _ _ ⟨j, add, by omega, by omega, hsc, by omega, o18, hs18, own18⟩ (by omega)
    · rw [if_neg hx] at hsc
      refine (c186 hw.1 hw.2 (by omega) (by omega)).mono ?_
      rintro _ w23 ⟨rfl, e23⟩
      have o23 : Only (fun k => k = bs) w0 w23 := o18.step e23 (fun i hi hf => hf.elim)
      have hs23 := hs18.ext e23
      have own23 := own18.ext e23
      refine ⟨_, rfl, ?_⟩
      refine JoinW.cut1 (fun (b : Bool) w' => (b = true ↔ (kindS x lvl < 0 ∨ (kindS x lvl = 1 ∧ 0 < (lvl : Int)))) ∧ w' = w23) ?_ ?_
      · refine BIf.dec (fun h1 => ⟨⟨fun _ => .inl h1, fun _ => rfl⟩, rfl⟩) (fun h1 => BIf.eq (fun h2 => ⟨?_, rfl⟩) (fun h2 => ⟨?_, rfl⟩))
        · rw [decide_eq_true_eq]; exact ⟨fun h3 => .inr ⟨h2, h3⟩, fun h3 => by omega⟩
        · exact ⟨(fun h => nomatch h), fun h3 => by omega⟩
      rintro (b : Bool) w23 ⟨hb2, rfl⟩
      refine BIf.of (fun hbt => ?_) (fun hbf => ?_)
      · have : cls x lvl = none := by unfold cls; rw [if_pos (hb2.1 hbt)]
        rw [this] at hsc
        refine bad _ o23 ?_ l
        rw [hres, ← hsc]
      · have hnb : ¬ (kindS x lvl < 0 ∨ (kindS x lvl = 1 ∧ 0 < (lvl : Int))) := fun hh => by rw [hb2.2 hh] at hbf; cases hbf
        refine BIf.eq (fun h0 => ?_) (fun h0 => ?_)
        · have hcl : cls x lvl = some false := by unfold cls; rw [if_neg hnb, if_pos h0]
          rw [hcl] at hsc
          have hxs := kindS_small (.inl h0)
          rcases hrec with hl0 | hrec
          · -- at level 0 there is none
            exfalso
            subst hl0
            unfold kindS at h0
            repeat' (split at h0)
            all_goals first
              | omega
              | (rename_i h9; simp at h9)
          refine (c123 hw.1 hxs).mono ?_
          rintro _ w29 ⟨rfl, e29⟩
          refine ⟨_, _, _, _, _, _, _, _, _, _, rfl, ?_⟩
          refine alloc_step (fun w40 e40 hz n40 => put_step hz rfl rfl (fun w41 o41 hz n41 => ?_))
          have e41 : Ext w23 w41 := Ext.own (Only.trans e29 e40) o41 (fun k hk => by have := e29.size; omega)
          have o41' : Only (fun k => k = bs) w0 w41 := o23.step e41 (fun i hi hf => hf.elim)
          have h41 := h.only o41' (hs23.ext e41)
          refine ⟨_, hz.cell 8, ?_⟩
          rw [w64 (by omega) (by omega)]
          refine (hrec h41).mono ?_
          rintro _ w44 ⟨l2, b2, rfl, o44, hn44, hs44⟩
          have o44' : Only (fun k => k = bs) w0 w44 := o41'.step o44 (fun i hi hf => hf)
          refine ⟨l2, b2, rfl, ?_⟩
          cases hr : rec (efr x) (S ++ add) with
          | none =>
            rw [hr] at hsc
            rw [hn44 hr]
            refine BIf.t rfl (bad _ o44' ?_ l)
            rw [hres, ← hsc]
          | some S2 =>
            rw [hr] at hsc
            obtain ⟨rfl, hseen, add2, hS2, own2⟩ := hs44 S2 hr
            obtain ⟨add3, hS3, hlen3⟩ := hadd _ _ _ hr
            have hadd2 : add3 = add2 := List.append_cancel_left (hS3.symm.trans hS2)
            subst hadd2
            refine BIf.f rfl ?_
            have own44 : OwnS w44 w0.heap.size l 1 (add.map (Value.int .i64)) := (own23.ext e41).only o44 (fun b _ hb0 _ hbb => by omega)
            have hll := own44.len
            have hll2 := own2.len
            rw [List.length_map, Nat.mul_one] at hll hll2
            have z44 := o44'.size
            have own2r := own2.row
            have hl2cap : RowAt w44 l2.a (l2.len * 1) (add3.map (Value.int .i64)) := own2r
            refine AppendW.own (b0 := w0.heap.size) (z := 1) own44 hl2cap rfl rfl (by decide) (by show (l.len + l2.len) * 8 ≤ _; omega) plain_int (by omega) (fun s' w48 h1 h2 h3 h4 => ?_)
            have o48 : Only (fun k => k = bs) w0 w48 := o44'.step h3 (fun i hi hf => by have := hf.1; omega)
            rw [← List.map_append] at h2
            refine hJ _ _ _ _ ⟨j, add ++ add3, by omega, by omega, ?_, by rw [List.length_append]; omega, o48, ?_, h2⟩ (by omega)
            · rw [Bool.true_or, ← List.append_assoc, ← hS3]; exact hsc
            · rw [← List.append_assoc, ← hS3]
              exact hseen.only h3 (fun hf => by have := hf.1; omega)
        · have hcl : cls x lvl = some true := by unfold cls; rw [if_neg hnb, if_neg h0]
          rw [hcl] at hsc
          refine hJ _ _ _ _ ⟨j, add, by omega, by omega, ?_, by omega, o23, hs23, own23⟩ (by omega)
          rw [Bool.true_or]; exact hsc
  · have hk0 : k = 0 := by omega
    subst hk0
    unfold scanT at hsc
    rw [join_or]
    have hd : ((lvl : Int) == 2) = decide (lvl = 2) := by
      apply Bool.eq_iff_iff.2
      rw [beq_iff_eq, decide_eq_true_eq]; omega
    rw [hd]
    refine ⟨l, _, rfl, o18, ?_, ?_⟩
    · rw [hres, ← hsc]
      intro hn
      cases hany : (any || decide (lvl = 2)) with
      | false => rfl
      | true => rw [hany] at hn; cases hn
    · rw [hres, ← hsc]
      intro S' hS
      cases hany : (any || decide (lvl = 2)) with
      | false => rw [hany] at hS; cases hS
      | true =>
        rw [hany] at hS
        injection hS with hS
        subst hS
        exact ⟨rfl, hs18, add, rfl, own18⟩
end Go.Proofs.Ytkgoanjemhbjgaa

/- Spaces: the reference's side of a space that can be; an entry on the program's side. Conditions: none. -/
set_option linter.unusedVariables false
set_option linter.unusedSimpArgs false
namespace Go.Proofs.Ytkgoanjemhbjgaa
open Go Go.Den
theorem specTab {sm : Sl} {m : List Int} {bf bs : Nat} {free : List Bool} {w : World} {t : Int} {S : List Int} (h : TCtx w sm m bf bs free S) :
    CallW Try.prog 152 #[.slice sm.a sm.len sm.cap, .slice (some ⟨bf, 0, none⟩) free.length free.length, .slice (some ⟨bs, 0, none⟩) free.length free.length, .int .i64 t, .int .i64 2] w (TabV sm m bf bs free S (tblF m free 2 t S) w) := by
  have h0 : ∀ {w : World} {t : Int} {S : List Int}, TCtx w sm m bf bs free S → CallW Try.prog 152 #[.slice sm.a sm.len sm.cap, .slice (some ⟨bf, 0, none⟩) free.length free.length, .slice (some ⟨bs, 0, none⟩) free.length free.length, .int .i64 t, .int .i64 (((1 : Nat) : Int) - 1)] w (TabV sm m bf bs free S (tblF m free 0 t S) w) :=
    fun {w t S} h => c152 (lvl := 0) (by omega) (rec := fun _ _ => none) (fun t S S' hh => by cases hh) (.inl rfl) h
  have h1 : ∀ {w : World} {t : Int} {S : List Int}, TCtx w sm m bf bs free S → CallW Try.prog 152 #[.slice sm.a sm.len sm.cap, .slice (some ⟨bf, 0, none⟩) free.length free.length, .slice (some ⟨bs, 0, none⟩) free.length free.length, .int .i64 t, .int .i64 (((2 : Nat) : Int) - 1)] w (TabV sm m bf bs free S (tblF m free 1 t S) w) :=
    fun {w t S} h => c152 (lvl := 1) (by omega) (rec := tblF m free 0) (fun t S S' hh => by obtain ⟨a, h1, h2⟩ := tblF_adds.1 t S S' hh; exact ⟨a, h1, by omega⟩) (.inr h0) h
  exact c152 (lvl := 2) (by omega) (rec := tblF m free 1) (fun t S S' hh => by obtain ⟨a, h1, h2⟩ := tblF_adds.2.1 t S S' hh; exact ⟨a, h1, by omega⟩) (.inr h1) h
open Classical in
/-- The tables of a space; none: it is no space. -/
noncomputable def spaceT (m : List Int) (T : Int) (fr : List DBlock) (root : Int) : Option (List Int) := if POk m T fr then tblF m (freeL T fr) 2 root [] else none
theorem spaceT_pos {m : List Int} {T : Int} {fr : List DBlock} {root : Int} (h : POk m T fr) : spaceT m T fr root = tblF m (freeL T fr) 2 root [] := by unfold spaceT; rw [if_pos h]
theorem spaceT_neg {m : List Int} {T : Int} {fr : List DBlock} {root : Int} (h : ¬ POk m T fr) : spaceT m T fr root = none := by unfold spaceT; rw [if_neg h]
def SpV (m : List Int) (T : Int) (fr : List DBlock) (root : Int) (w : World) (v : Value) (w' : World) : Prop :=
  ∃ (l : Sl), v = .tuple #[.slice l.a l.len l.cap, .bool (spaceT m T fr root).isSome] ∧ Ext w w' ∧ ∀ S', spaceT m T fr root = some S' → OwnS w' w.heap.size l 1 (S'.map (Value.int .i64))
theorem freeL_len' {T : Int} {fr : List DBlock} : T.toNat = (freeL T fr).length := (freeL_len T fr).symm
theorem POk.len {m : List Int} {T : Int} {fr : List DBlock} (h : POk m T fr) : m.length = 256 * (freeL T fr).length := by
  rw [freeL_len]
  have h1 := h.1
  have h2 := h.2.2.2
  omega
theorem c91 {sm sf : Sl} {m : List Int} {T : Int} {fr : List DBlock} {root : Int} {w : World} (hm : Bytes w sm m) (hf : FrAt w sf fr) : CallW Try.prog 91 #[.agg #[.slice sm.a sm.len sm.cap, .int .i64 T, .slice sf.a sf.len sf.cap], .int .i64 root] w (SpV m T fr root w) := by
  refine go91 ?_
  unfold W91
  refine alloc_step (fun w1 e hb n1 => ?_)
  refine ⟨sm, hb.cell 0, _, hb.cell 1, sf, hb.cell 2, (c99 (hm.ext e) (hf.ext e)).mono ?_⟩
  rintro _ w6 ⟨b, rfl, hiff, e6⟩
  have e06 := Only.trans e e6
  have hb6 := hb.ext e6
  have z1 := e.size
  have z6 := e6.size
  refine ⟨b, rfl, BIf.of (fun hn => ?_) (fun hy => ?_)⟩
  · have hno : ¬ POk m T fr := fun h => by rw [hiff.2 h] at hn; cases hn
    refine alloc_step (fun w8 e8 _ _ => ⟨⟨some ⟨w6.heap.size, 0, none⟩, 0, 0⟩, ?_, Only.trans e06 e8, fun S' hS => ?_⟩)
    · rw [spaceT_neg hno]; rfl
    · rw [spaceT_neg hno] at hS; cases hS
  have hok : POk m T fr := hiff.1 (by simpa using hy)
  have hT0 := hok.2.2.1.1
  have hT1 := hok.2.2.1.2.1
  have e7 := ext_drew w6
  have zd : w6.drew.heap.size = w6.heap.size := rfl
  have hb7 := hb6.ext e7
  have e07 := Only.trans e06 e7
  generalize w6.drew = w7 at *
  -- behind both orders
  have fin : ∀ (w31 : World) (bf bs : Nat), Ext w w31 → w.heap.size ≤ bf → w.heap.size ≤ bs → bf ≠ bs → Blk w31 bf (bools (freeL T fr)) → Blk w31 bs (bools (List.replicate T.toNat false)) →
      CallW Try.prog 152 #[.slice sm.a sm.len sm.cap, .slice (some ⟨bf, 0, none⟩) T.toNat T.toNat, .slice (some ⟨bs, 0, none⟩) T.toNat T.toNat, .int .i64 root, .int .i64 2] w31 (fun v w' => ∃ (l : Sl) (b : Bool), v = .tuple #[.slice l.a l.len l.cap, .bool b] ∧ SpV m T fr root w (.tuple #[.slice l.a l.len l.cap, .bool b]) w') := by
    intro w31 bf bs e31 hf0 hs0 hne hbf hbs
    have hctx : TCtx w31 sm m bf bs (freeL T fr) [] := ⟨hm.ext e31, fun hne p hp => by have := hm.old hne hp; omega, hbf, by rw [seenL_nil, freeL_len]; exact hbs, hne, hok.len, by rw [freeL_len]; omega⟩
    have hc := specTab (t := root) hctx
    rw [freeL_len] at hc
    refine hc.mono ?_
    rintro _ w36 ⟨l, b, rfl, o, hn, hs⟩
    have z31 := e31.size
    refine ⟨l, b, rfl, l, ?_, e31.own o (fun k hk => by omega), fun S' hS => ?_⟩
    · rw [spaceT_pos hok]
      cases hr : tblF m (freeL T fr) 2 root [] with
      | none => rw [hn hr]; rfl
      | some S' => rw [(hs S' hr).1]; rfl
    · rw [spaceT_pos hok] at hS
      obtain ⟨_, _, add, hadd, own⟩ := hs S' hS
      rw [hadd, List.nil_append]
      exact own.mono (by omega)
  refine ⟨sm, hb7.cell 0, _, hb7.cell 1, sf, hb7.cell 2, _, hb7.cell 1, ?_, ?_, trivial⟩
  · refine (c153 (hf.ext e07) hok.2.2.1).mono ?_
    rintro _ w27 ⟨bf, rfl, hbf0, hbf, e27⟩
    have hb27 := hb7.ext e27
    have z27 := e27.size
    refine ⟨⟨some ⟨bf, 0, none⟩, T.toNat, T.toNat⟩, rfl, ⟨_, hb27.cell 1, rfl⟩, ⟨sm, hb27.cell 0, rfl⟩, ⟨by omega, by omega, by omega, by omega, alloc_step (fun w31 e31 hs31 n31 => ?_)⟩, trivial⟩
    have hb31 := hb27.ext e31
    refine ⟨⟨_, hb31.cell 1, sf, hb31.cell 2, rfl⟩, ⟨sm, hb31.cell 0, rfl⟩, ?_, trivial⟩
    have hbl := hbf.lt
    refine (fin w31 bf w27.heap.size (Only.trans e07 (Only.trans e27 e31)) (by omega) (by omega) (by omega) (hbf.ext e31) (by rw [show zerosOf ti4.zero T.toNat = bools (List.replicate T.toNat false) from zeros_bool _] at hs31; exact hs31)).mono ?_
    rintro _ w36 ⟨l, b, rfl, hV⟩
    exact ⟨l, b, rfl, hV⟩
  · refine ⟨by omega, by omega, by omega, by omega, alloc_step (fun w13 e13 hs13 n13 => ?_)⟩
    have hb13 := hb7.ext e13
    have hs13 : Blk w13 w7.heap.size (bools (List.replicate T.toNat false)) := by rw [show zerosOf ti4.zero T.toNat = bools (List.replicate T.toNat false) from zeros_bool _] at hs13; exact hs13
    refine ⟨⟨_, hb13.cell 1, sf, hb13.cell 2, rfl⟩, ⟨sm, hb13.cell 0, rfl⟩, ?_, trivial⟩
    refine (c153 (hf.ext (Only.trans e07 e13)) hok.2.2.1).mono ?_
    rintro _ w18 ⟨bf, rfl, hbf0, hbf, e18⟩
    have hb18 := hb13.ext e18
    refine ⟨⟨some ⟨bf, 0, none⟩, T.toNat, T.toNat⟩, rfl, ⟨_, hb18.cell 1, rfl⟩, ⟨sm, hb18.cell 0, rfl⟩, ?_, trivial⟩
    refine (fin w18 bf w7.heap.size (Only.trans e07 (Only.trans e13 e18)) (by omega) (by omega) (by omega) hbf (hs13.ext e18)).mono ?_
    rintro _ w36 ⟨l, b, rfl, hV⟩
    exact ⟨l, b, rfl, hV⟩
theorem c33 {sm sf : Sl} {m : List Int} {T : Int} {fr : List DBlock} {root : Int} {w : World} (hm : Bytes w sm m) (hf : FrAt w sf fr) : CallW Try.prog 33 #[.agg #[.slice sm.a sm.len sm.cap, .int .i64 T, .slice sf.a sf.len sf.cap], .int .i64 root] w (fun v w' => v = .bool (spaceT m T fr root).isSome ∧ Ext w w') := by
  refine go33 ?_
  unfold W33
  refine alloc_step (fun w1 e hb n1 => ?_)
  refine ⟨sm, hb.cell 0, _, hb.cell 1, sf, hb.cell 2, (c91 (hm.ext e) (hf.ext e)).mono ?_⟩
  rintro _ w6 ⟨l, rfl, e6, _⟩
  exact ⟨l, _, rfl, rfl, Only.trans e e6⟩
/-! ## What an entry is, as the program asks -/
theorem cls_eq {x : Int} {lvl : Nat} (hl : lvl ≤ 2) : cls x lvl =
    if (!ebit x 0 || decide (1048576 ≤ x)) = true then none
    else if (ebit x 1 || ebit x 2 || ebit x 3) = true then (if ((lvl : Int) != 0 || (ebit x 2 && !ebit x 1)) = true then none else some true)
    else if ((lvl : Int) == 0 || ebit x 4 || ebit x 5 || ebit x 6) = true then none else some false := by
  unfold cls kindS
  have h0 : efr x % pgs ((0 : Nat) : Int) = 0 := by unfold pgs; simp [Int.emod_one]
  generalize ebit x 0 = b0
  generalize ebit x 1 = b1
  generalize ebit x 2 = b2
  generalize ebit x 3 = b3
  generalize ebit x 4 = b4
  generalize ebit x 5 = b5
  generalize ebit x 6 = b6
  have hlv : lvl = 0 ∨ lvl = 1 ∨ lvl = 2 := by omega
  by_cases hx : 1048576 ≤ x
  · rw [if_pos hx]
    cases b0 <;> simp [hx]
  · rw [if_neg hx]
    rcases hlv with rfl | rfl | rfl
    · rw [h0]
      cases b0 <;> cases b1 <;> cases b2 <;> cases b3 <;> cases b4 <;> cases b5 <;> cases b6 <;> simp [hx]
    · generalize efr x % pgs ((1 : Nat) : Int) = r
      by_cases hr : r = 0 <;> cases b0 <;> cases b1 <;> cases b2 <;> cases b3 <;> cases b4 <;> cases b5 <;> cases b6 <;> simp [hx, hr]
    · generalize efr x % pgs ((2 : Nat) : Int) = r
      by_cases hr : r = 0 <;> cases b0 <;> cases b1 <;> cases b2 <;> cases b3 <;> cases b4 <;> cases b5 <;> cases b6 <;> simp [hx, hr]
theorem shr20 {x : Int} (h0 : 0 ≤ x) : (shrI .u64 x 20 != 0) = decide (1048576 ≤ x) := by
  rw [show (20 : Int) = ((20 : Nat) : Int) from rfl, shr_u64 (by omega)]
  apply Bool.eq_iff_iff.2
  rw [bne_iff_ne, decide_eq_true_eq, show ((2 ^ 20 : Nat) : Int) = 1048576 from rfl]
  omega
end Go.Proofs.Ytkgoanjemhbjgaa

/- Spaces: the tables of a space, on the program's side. Conditions: none. -/
set_option linter.unusedVariables false
set_option linter.unusedSimpArgs false
namespace Go.Proofs.Ytkgoanjemhbjgaa
open Go Go.Den
theorem map_step {w : World} {k : World → Prop} (h : ∀ w1, Ext w w1 → SetAt w1 w.heap.size [] → w1.heap.size = w.heap.size + 1 → k w1) : LetW (w.alloc (.map #[] 0)) k :=
  LetW_iff.2 (h _ (ext_alloc w _) (setAt_new w) (size_alloc w _))
/-- What the walk has captured: where each thing lies. -/
structure ICap where
  q0 : Nat
  q1 : Nat
  q2 : Nat
  q3 : Nat
  q4 : Nat
  bf : Nat
  bm : Nat
  bp : Nat
  b0 : Nat
def ICap.ptrs (c : ICap) : List Value := [.pointer (some ⟨c.q0, 0, none⟩), .pointer (some ⟨c.q1, 0, none⟩), .pointer (some ⟨c.q2, 0, none⟩), .pointer (some ⟨c.q3, 0, none⟩), .pointer (some ⟨c.q4, 0, none⟩)]
def ICap.S (c : ICap) (k : Nat) : Prop := k = c.bm ∨ k = c.q2 ∨ c.b0 ≤ k
structure ICtx (w : World) (c : ICap) (sm : Sl) (m : List Int) (free : List Bool) (x y : Value) : Prop where
  h0 : Blk w c.q0 [.slice (some ⟨c.bf, 0, none⟩) free.length free.length]
  hf : Blk w c.bf (bools free)
  h1 : Blk w c.q1 [.map (some c.bm)]
  h3 : Blk w c.q3 [.pointer (some ⟨c.bp, 0, none⟩)]
  h4 : Blk w c.q4 [.func (.func 157) ⟨[]⟩ ⟨c.ptrs⟩]
  hp : Blk w c.bp [.slice sm.a sm.len sm.cap, x, y]
  mem : Bytes w sm m
  mo : m ≠ [] → ∀ p, sm.a = some p → ¬ c.S p.block
  n0 : ¬ c.S c.q0
  nf : ¬ c.S c.bf
  n1 : ¬ c.S c.q1
  n3 : ¬ c.S c.q3
  n4 : ¬ c.S c.q4
  np : ¬ c.S c.bp
  nm : c.bm ≠ c.q2
  ml : m.length = 256 * free.length
  few : free.length ≤ 1024
  mlt : c.bm < c.b0
  qlt : c.q2 < c.b0
  bsz : c.b0 ≤ w.heap.size
theorem ICtx.only {w w' : World} {c : ICap} {sm : Sl} {m : List Int} {free : List Bool} {x y : Value} (h : ICtx w c sm m free x y) (o : Only c.S w w') : ICtx w' c sm m free x y :=
  ⟨h.h0.only o h.n0, h.hf.only o h.nf, h.h1.only o h.n1, h.h3.only o h.n3, h.h4.only o h.n4, h.hp.only o h.np, h.mem.only o (fun hm p hp _ => h.mo hm p hp), h.mo, h.n0, h.nf, h.n1, h.n3, h.n4, h.np, h.nm, h.ml, h.few, h.mlt, h.qlt, Nat.le_trans h.bsz o.size⟩
/-- What was seen so far, and listed. -/
structure ISeen (w : World) (c : ICap) (S : List Int) : Prop where
  set : SetAt w c.bm S
  out : ∃ l : Sl, Blk w c.q2 [.slice l.a l.len l.cap] ∧ OwnS w c.b0 l 1 (S.map (Value.int .i64))
def IV (c : ICap) (res : Option (List Int)) (w : World) (v : Value) (w' : World) : Prop := v = .bool res.isSome ∧ Only c.S w w' ∧ ∀ S', res = some S' → ISeen w' c S'
theorem ISeen.ext {w w' : World} {c : ICap} {S : List Int} (h : ISeen w c S) (e : Ext w w') : ISeen w' c S := by
  obtain ⟨h1, l, h2, h3⟩ := h
  exact ⟨h1.ext e, l, h2.ext e, h3.ext e⟩
theorem c157 {lvl : Nat} (hlv : lvl ≤ 2) {c : ICap} {sm : Sl} {m : List Int} {free : List Bool} {x0 y0 : Value} {rec : Int → List Int → Option (List Int)} {cc : Nat} (hadd : Adds cc rec) (hcc : cc ≤ 100)
    (hrec : lvl = 0 ∨ ∀ {w : World} {t : Int} {S : List Int}, ICtx w c sm m free x0 y0 → ISeen w c S → S.length + cc ≤ 8000 → CallW Try.prog 157 ⟨[.int .i64 t, .int .i64 ((lvl : Int) - 1)] ++ c.ptrs⟩ w (IV c (rec t S) w))
    {w : World} {t : Int} {S : List Int} (h : ICtx w c sm m free x0 y0) (hs : ISeen w c S) (hS : S.length + (32 * cc + 1) ≤ 8000) :
    CallW Try.prog 157 ⟨[.int .i64 t, .int .i64 (lvl : Int)] ++ c.ptrs⟩ w (IV c (tblStep m free lvl rec t S) w) := by
  refine go157 (a0 := t) (a1 := (lvl : Int)) (c0 := ⟨c.q0, 0, none⟩) (c1 := ⟨c.q1, 0, none⟩) (c2 := ⟨c.q2, 0, none⟩) (c3 := ⟨c.q3, 0, none⟩) (c4 := ⟨c.q4, 0, none⟩) ?_
  unfold W157
  have hfew := h.few
  have hml := h.ml
  have bad : ∀ w', Only c.S w w' → tblStep m free lvl rec t S = none → IV c (tblStep m free lvl rec t S) w (.bool false) w' := fun w' o hn => ⟨by rw [hn]; rfl, o, fun S' hS => by rw [hn] at hS; cases hS⟩
  obtain ⟨hset, l0, hl0, own0⟩ := hs
  refine JoinW.cut1 (fun (b : Bool) w' => (b = true ↔ t < 0 ∨ (free.length : Int) ≤ t) ∧ w' = w) ?_ ?_
  · refine BIf.dec (fun h1 => ⟨⟨fun _ => .inl h1, fun _ => rfl⟩, rfl⟩) (fun h1 => ⟨⟨_, _, _⟩, h.h0.cell 0, ?_, rfl⟩)
    rw [decide_eq_true_eq]
    exact ⟨fun hh => .inr hh, fun hh => by rcases hh with hh | hh; omega; exact hh⟩
  rintro (b : Bool) w ⟨hiff, rfl⟩
  refine JoinW.cut1 (fun (b : Bool) w' => (b = true ↔ t < 0 ∨ (free.length : Int) ≤ t ∨ free.getD t.toNat false = true) ∧ w' = w) ?_ ?_
  · refine BIf.of (fun h1 => ⟨?_, rfl⟩) (fun h1 => ?_)
    · have := hiff.1 h1
      exact ⟨fun _ => by omega, fun _ => rfl⟩
    · have h2 : ¬ (t < 0 ∨ (free.length : Int) ≤ t) := fun hh => by rw [hiff.2 hh] at h1; cases h1
      refine ⟨⟨_, _, _⟩, h.h0.cell 0, by omega, by show t < ((free.length : Nat) : Int); omega, _, rfl, free.getD t.toNat false, ?_, ?_, rfl⟩
      · rw [add_mk, h.hf.cell, Nat.zero_add, Nat.mul_one, bools_get (by omega)]
      · exact ⟨fun hh => .inr (.inr hh), fun hh => by rcases hh with hh | hh | hh; omega; omega; exact hh⟩
  clear hiff b
  rintro (b : Bool) w ⟨hiff, rfl⟩
  refine JoinW.cut1 (fun (b : Bool) w' => (b = true ↔ t < 0 ∨ (free.length : Int) ≤ t ∨ free.getD t.toNat false = true ∨ t ∈ S) ∧ w' = w) ?_ ?_
  · refine BIf.of (fun h1 => ⟨?_, rfl⟩) (fun h1 => ?_)
    · have := hiff.1 h1
      exact ⟨fun _ => by rcases this with h | h | h; exact .inl h; exact .inr (.inl h); exact .inr (.inr (.inl h)), fun _ => rfl⟩
    · have h2 : ¬ (t < 0 ∨ (free.length : Int) ≤ t ∨ free.getD t.toNat false = true) := fun hh => by rw [hiff.2 hh] at h1; cases h1
      refine ⟨_, h.h1.cell 0, hset.get t (fun o ho => ⟨decide (t ∈ S), ho, ?_, rfl⟩)⟩
      rw [decide_eq_true_eq]
      exact ⟨fun hh => .inr (.inr (.inr hh)), fun hh => by
        rcases hh with hh | hh | hh | hh
        · exact absurd (.inl hh) h2
        · exact absurd (.inr (.inl hh)) h2
        · exact absurd (.inr (.inr hh)) h2
        · exact hh⟩
  clear hiff b
  rintro (b : Bool) w ⟨hiff, rfl⟩
  refine BIf.of (fun hb => ?_) (fun hb => ?_)
  · refine bad _ (Only.refl _ _) ?_
    unfold tblStep
    rw [if_pos (hiff.1 hb)]
  have hok : ¬ (t < 0 ∨ (free.length : Int) ≤ t ∨ free.getD t.toNat false = true ∨ t ∈ S) := fun hh => by rw [hiff.2 hh] at hb; cases hb
  have hres : tblStep m free lvl rec t S = match scanT (entAt m t) lvl rec 32 (S ++ [t]) (decide (lvl = 2)) with | some (S', true) => some S' | _ => none := by
    unfold tblStep; rw [if_neg hok]; try rfl
  generalize hR : scanT (entAt m t) lvl rec 32 (S ++ [t]) (decide (lvl = 2)) = R at hres
  have ht0 : 0 ≤ t := by omega
  have ht1 : t < free.length := by omega
  have hnS : t ∉ S := fun hh => hok (.inr (.inr (.inr hh)))
  refine ⟨_, h.h1.cell 0, hset.put hnS (fun w11 hset11 o11 => ?_)⟩
  have hbsz := h.bsz
  have hmlt := h.mlt
  have hqlt := h.qlt
  have hl11 := hl0.only o11 (fun hh => h.nm hh.symm)
  have own11 := own0.only o11 (fun b _ hb0 _ hbb => by omega)
  have z11 := o11.size
  refine ⟨l0, hl11.cell 0, LetW_iff.2 ?_⟩
  have hll := own11.len
  rw [List.length_map, Nat.mul_one] at hll
  refine AppendW.one (b0 := c.b0) (z := 1) (x := [.int .i64 t]) own11 (by omega) rfl rfl rfl (by decide) (by show (l0.len + 1) * 8 ≤ _; omega) (fun v hv => by rw [List.mem_singleton.1 hv]; rfl) (fun s' w15 h1 h2 h3 h4 => ?_)
  have hl15 := hl11.only h3 (fun hh => by have := hh.1; omega)
  have hset15 := hset11.only h3 (fun hh => by have := hh.1; omega)
  have z15 := h3.size
  refine set_step hl15 (by simp) (fun w16 o16 hl16 n16 => ?_)
  have hset16 := hset15.only o16 h.nm
  have own16 : OwnS w16 c.b0 s' 1 ((S ++ [t]).map (Value.int .i64)) := by
    rw [List.map_append]
    exact h2.only o16 (fun b _ hb0 _ hbb => by omega)
  have oall : Only c.S w w16 := Only.step (Only.step (o11.mono (fun k _ hk => .inl hk)) h3 (fun i hi hh => .inr (.inr hh.1))) o16 (fun i hi hh => .inr (.inl hh))
  have hbase : ISeen w16 c (S ++ [t]) := ⟨hset16, s', hl16, own16⟩
  refine LoopW.m2 (fun (any : Bool) (i : Int) w' => ∃ (k : Nat) (S1 : List Int), k ≤ 32 ∧ i = 32 - (k : Int) ∧ scanT (entAt m t) lvl rec k S1 any = R ∧ S1.length ≤ S.length + 1 + (32 - k) * cc ∧ Only c.S w w' ∧ ISeen w' c S1) (fun _ (i : Int) _ => (32 - i).toNat)
    ⟨32, S ++ [t], by omega, by omega, by
      rw [← hR]
      congr 1
      apply Bool.eq_iff_iff.2
      rw [beq_iff_eq, decide_eq_true_eq]; omega, by simp, oall, hbase⟩ ?_
  rintro (any : Bool) (i : Int) w20 ⟨k, S1, hk, rfl, hsc, hal, o20, hs20⟩ J hJ
  have h20 := h.only o20
  refine BIf.dec (fun hlt => ?_) (fun hge => ?_)
  · obtain ⟨j, rfl⟩ : ∃ j, k = j + 1 := ⟨k - 1, by omega⟩
    have hidx : (32 : Int) - ((j + 1 : Nat) : Int) = 31 - (j : Int) := by omega
    rw [hidx]
    have hmul : (32 - (j + 1)) * cc + cc = (32 - j) * cc := by rw [← Nat.succ_mul]; congr 1; omega
    have hmul2 : (32 - j) * cc ≤ 32 * cc := Nat.mul_le_mul_right cc (by omega)
    refine ⟨_, h20.h3.cell 0, (c126 h20.hp h20.mem (by omega) (by omega) (by omega) (by omega)).mono ?_⟩
    rintro _ w20 ⟨rfl, rfl⟩
    have hw := word_rng h.mem.rng (t * 256 + 8 * (31 - (j : Int)))
    have hwe : word m (t * 256 + 8 * (31 - (j : Int))) = entAt m t (31 - (j : Int)) := rfl
    rw [hwe] at hw ⊢
    rw [w64 (n := 31 - (j : Int) + 1) (by omega) (by omega)]
    unfold scanT at hsc
    generalize entAt m t (31 - (j : Int)) = x at *
    refine ⟨x, rfl, BIf.eq (fun hx => ?_) (fun hx => ?_)⟩
    · rw [if_pos hx] at hsc
      exact hJ _ _ _ ⟨j, S1, by omega, by omega, hsc, by omega, o20, hs20⟩ (by omega)
    · rw [if_neg hx, cls_eq hlv] at hsc
      refine (c127 hw.1 hw.2).mono ?_
      rintro _ w26 ⟨rfl, e26⟩
      refine ⟨_, _, _, _, _, _, _, _, _, rfl, ?_⟩
      refine alloc_step (fun w36 e36 hz n36 => put_step hz rfl rfl (fun w37 o37 hz n37 => ?_))
      have e37 : Ext w20 w37 := Ext.own (Only.trans e26 e36) o37 (fun k hk => by have := e26.size; omega)
      have o37' : Only c.S w w37 := o20.step e37 (fun i hi hf => hf.elim)
      have h37 := h.only o37'
      have hs37 := hs20.ext e37
      have hno : R = none → ∀ w', Only c.S w w' → IV c (tblStep m free lvl rec t S) w (.bool false) w' := fun hn w' o => bad w' o (by rw [hres, hn])
      refine ⟨_, hz.cell 0, ?_⟩
      refine JoinW.cut1 (fun (b : Bool) w' => b = (!ebit x 0 || decide (1048576 ≤ x)) ∧ w' = w37) ?_ ?_
      · refine BIf.of (fun h1 => ⟨by rw [h1]; rfl, rfl⟩) (fun h1 => ⟨by omega, ?_, rfl⟩)
        rw [shr20 hw.1, h1]; rfl
      rintro (b : Bool) w37 ⟨rfl, rfl⟩
      refine BIf.of (fun h1 => ?_) (fun h1 => ?_)
      · rw [if_pos h1] at hsc
        exact hno hsc.symm _ o37'
      · rw [if_neg (by rw [h1]; simp)] at hsc
        refine ⟨_, hz.cell 1, join_or_ex _ (hz.cell 2) (join_or_ex _ (hz.cell 3) ?_)⟩
        refine BIf.of (fun h2 => ?_) (fun h2 => ?_)
        · rw [if_pos h2] at hsc
          refine JoinW.cut1 (fun (b : Bool) w' => b = ((lvl : Int) != 0 || (ebit x 2 && !ebit x 1)) ∧ w' = w37) ?_ ?_
          · refine BIf.of (fun h3 => ⟨by rw [h3]; rfl, rfl⟩) (fun h3 => ⟨_, hz.cell 2, BIf.of (fun h4 => ⟨_, hz.cell 1, by rw [h3, h4]; rfl, rfl⟩) (fun h4 => ⟨by rw [h3, h4]; rfl, rfl⟩)⟩)
          rintro (b : Bool) w37 ⟨rfl, rfl⟩
          refine BIf.of (fun h3 => ?_) (fun h3 => ?_)
          · rw [if_pos h3] at hsc
            exact hno hsc.symm _ o37'
          · rw [if_neg (by rw [h3]; simp)] at hsc
            exact hJ _ _ _ ⟨j, S1, by omega, by omega, hsc, by omega, o37', hs37⟩ (by omega)
        · rw [if_neg (by rw [h2]; simp)] at hsc
          refine join_or_ex _ (hz.cell 4) (join_or_ex _ (hz.cell 5) (join_or_ex _ (hz.cell 6) ?_))
          refine JoinW.each (BIf.of (fun h3 => ?_) (fun h3 => ?_))
          · rw [if_pos h3] at hsc
            exact BIf.t rfl (hno hsc.symm _ o37')
          · rw [if_neg (by rw [h3]; simp)] at hsc
            rcases hrec with hl0' | hrec
            · exfalso
              subst hl0'
              simp at h3
            refine ⟨⟨157, [], c.ptrs⟩, h37.h4.cell 0, _, hz.cell 8, ?_⟩
            rw [w64 (by omega) (by omega)]
            refine CallW.mono (K := IV c (rec (efr x) S1) w37) (hrec h37 hs37 (by omega)) ?_
            rintro _ w69 ⟨rfl, o69, hs69⟩
            have o69' : Only c.S w w69 := o37'.step o69 (fun i hi hf => hf)
            refine ⟨_, rfl, ?_⟩
            cases hr : rec (efr x) S1 with
            | none =>
              rw [hr] at hsc
              exact BIf.t rfl (hno hsc.symm _ o69')
            | some S2 =>
              rw [hr] at hsc
              obtain ⟨add, hS2, hlen2⟩ := hadd _ _ _ hr
              refine BIf.f rfl (hJ _ _ _ ⟨j, S2, by omega, by omega, hsc, ?_, o69', hs69 S2 hr⟩ (by omega))
              rw [hS2, List.length_append]; omega
  · have hk0 : k = 0 := by omega
    subst hk0
    unfold scanT at hsc
    refine ⟨?_, o20, fun S' hS => ?_⟩
    · rw [hres, ← hsc]
      cases any <;> rfl
    · rw [hres, ← hsc] at hS
      cases any with
      | false => cases hS
      | true => injection hS with hS; subst hS; exact hs20
theorem implTab {c : ICap} {sm : Sl} {m : List Int} {free : List Bool} {x0 y0 : Value} {w : World} {t : Int} {S : List Int} (h : ICtx w c sm m free x0 y0) (hs : ISeen w c S) (hS : S.length ≤ 4000) :
    CallW Try.prog 157 ⟨[.int .i64 t, .int .i64 2] ++ c.ptrs⟩ w (IV c (tblF m free 2 t S) w) := by
  have h0 : ∀ {w : World} {t : Int} {S : List Int}, ICtx w c sm m free x0 y0 → ISeen w c S → S.length + 1 ≤ 8000 → CallW Try.prog 157 ⟨[.int .i64 t, .int .i64 (((1 : Nat) : Int) - 1)] ++ c.ptrs⟩ w (IV c (tblF m free 0 t S) w) :=
    fun {w t S} h hs hl => c157 (lvl := 0) (by omega) (rec := fun _ _ => none) (cc := 0) adds0 (by omega) (.inl rfl) h hs (by omega)
  have h1 : ∀ {w : World} {t : Int} {S : List Int}, ICtx w c sm m free x0 y0 → ISeen w c S → S.length + 33 ≤ 8000 → CallW Try.prog 157 ⟨[.int .i64 t, .int .i64 (((2 : Nat) : Int) - 1)] ++ c.ptrs⟩ w (IV c (tblF m free 1 t S) w) :=
    fun {w t S} h hs hl => c157 (lvl := 1) (by omega) (rec := tblF m free 0) (cc := 1) tblF_adds.1 (by omega) (.inr h0) h hs (by omega)
  exact c157 (lvl := 2) (by omega) (rec := tblF m free 1) (cc := 33) tblF_adds.2.1 (by omega) (.inr h1) h hs (by omega)
/-- The tables that the program lists; nil: none. -/
def ITabs (res : Option (List Int)) (w : World) (v : Value) (w' : World) : Prop := ∃ l : Sl, v = .slice l.a l.len l.cap ∧ Ext w w' ∧ (res = none → l.a = none) ∧ ∀ S', res = some S' → l.a.isSome = true ∧ OwnS w' w.heap.size l 1 (S'.map (Value.int .i64))
theorem tblF_ne {m : List Int} {free : List Bool} {lvl : Nat} {t : Int} {S' : List Int} (h : tblF m free lvl t [] = some S') : S' ≠ [] := by
  have key : ∀ (lvl : Nat) (rec : Int → List Int → Option (List Int)), (∃ c, Adds c rec) → ∀ S', tblStep m free lvl rec t [] = some S' → S' ≠ [] := by
    intro lvl rec ⟨c, hc⟩ S' hS
    unfold tblStep at hS
    split at hS
    · cases hS
    · split at hS
      · rename_i S1 hS1
        injection hS with hS
        subst hS
        obtain ⟨add, h1, _⟩ := scanT_adds hc 32 _ _ _ _ hS1
        rw [h1]; simp
      · cases hS
  have adds : ∀ n, ∃ c, Adds c (tblF m free n) := by
    intro n
    induction n with
    | zero => exact ⟨_, tblStep_adds adds0⟩
    | succ n ih => obtain ⟨c, hc⟩ := ih; exact ⟨_, tblStep_adds hc⟩
  cases lvl with
  | zero => exact key 0 _ ⟨0, adds0⟩ S' h
  | succ n => exact key (n + 1) _ (adds n) S' h
theorem c96 {b : Nat} {sm sf : Sl} {m : List Int} {T : Int} {fr : List DBlock} {root : Int} {w : World} (hp : Blk w b [.slice sm.a sm.len sm.cap, .int .i64 T, .slice sf.a sf.len sf.cap]) (hm : Bytes w sm m) (hf : FrAt w sf fr) (hok : POk m T fr) :
    CallW Try.prog 96 #[.pointer (some ⟨b, 0, none⟩), .int .i64 root] w (ITabs (tblF m (freeL T fr) 2 root []) w) := by
  refine go96 ?_
  unfold W96
  have hT0 := hok.2.2.1.1
  have hT1 := hok.2.2.1.2.1
  have hpl := hp.lt
  refine alloc_step (fun w1 e1 hq3 n1 => ?_)
  have hp1 := hp.ext e1
  refine ⟨_, hq3.cell 0, _, rfl, _, hp1.cell 1, sf, hp1.cell 2, (c150 (hf.ext e1) hok.2.2.1).mono ?_⟩
  rintro _ w7 ⟨bf, rfl, hbf0, hbf, e7⟩
  have z7 := e7.size
  have hbl := hbf.lt
  have hq3 := hq3.ext e7
  refine ⟨⟨some ⟨bf, 0, none⟩, T.toNat, T.toNat⟩, rfl, ?_⟩
  refine alloc_step (fun w9 e9 hq0 n9 => set_step hq0 (by simp) (fun w10 o10 hq0 n10 => ?_))
  have e10 : Ext w7 w10 := Ext.own e9 o10 (fun k hk => by omega)
  refine map_step (fun w11 e11 hset n11 => ?_)
  refine alloc_step (fun w12 e12 hq1 n12 => set_step hq1 (by simp) (fun w13 o13 hq1 n13 => ?_))
  have e13 : Ext w11 w13 := Ext.own e12 o13 (fun k hk => by omega)
  refine alloc_step (fun w14 e14 hq2 n14 => ?_)
  refine alloc_step (fun w15 e15 hq4 n15 => set_step hq4 (by simp) (fun w16 o16 hq4 n16 => ?_))
  have e16 : Ext w14 w16 := Ext.own e15 o16 (fun k hk => by omega)
  have e7_16 : Ext w7 w16 := Only.trans e10 (Only.trans e11 (Only.trans e13 (Only.trans e14 e16)))
  have eall : Ext w w16 := Only.trans e1 (Only.trans e7 e7_16)
  have zall := eall.size
  let c : ICap := ⟨w7.heap.size, w11.heap.size, w13.heap.size, w.heap.size, w14.heap.size, bf, w10.heap.size, b, w16.heap.size⟩
  have hc : ∀ k, c.S k ↔ k = w10.heap.size ∨ k = w13.heap.size ∨ w16.heap.size ≤ k := fun k => Iff.rfl
  have nS : ∀ k, k ≠ w10.heap.size → k ≠ w13.heap.size → k < w16.heap.size → ¬ c.S k := fun k h1 h2 h3 hh => by
    rcases (hc k).1 hh with hh | hh | hh
    · exact h1 hh
    · exact h2 hh
    · omega
  have hctx : ICtx w16 c sm m (freeL T fr) (.int .i64 T) (.slice sf.a sf.len sf.cap) := by
    refine ⟨?_, hbf.ext e7_16, hq1.ext (Only.trans e14 e16), hq3.ext e7_16, hq4, hp.ext eall, hm.ext eall, fun hne p hpa => ?_, ?_, ?_, ?_, ?_, ?_, ?_, ?_, hok.len, by rw [freeL_len]; omega, ?_, ?_, Nat.le_refl _⟩
    · rw [freeL_len]; exact hq0.ext (Only.trans e11 (Only.trans e13 (Only.trans e14 e16)))
    · have := hm.old hne hpa
      rw [hc]; omega
    · exact nS w7.heap.size (by omega) (by omega) (by omega)
    · exact nS bf (by omega) (by omega) (by omega)
    · exact nS w11.heap.size (by omega) (by omega) (by omega)
    · exact nS w.heap.size (by omega) (by omega) (by omega)
    · exact nS w14.heap.size (by omega) (by omega) (by omega)
    · exact nS b (by omega) (by omega) (by omega)
    · show w10.heap.size ≠ w13.heap.size; omega
    · show w10.heap.size < w16.heap.size; omega
    · show w13.heap.size < w16.heap.size; omega
  have hseen : ISeen w16 c [] := ⟨hset.ext (Only.trans e13 (Only.trans e14 e16)), ⟨none, 0, 0⟩, hq2.ext e16, OwnS.none _ _ _ _⟩
  refine ⟨⟨157, [], c.ptrs⟩, hq4.cell 0, ?_⟩
  refine CallW.mono (K := IV c (tblF m (freeL T fr) 2 root []) w16) (implTab hctx hseen (by simp)) ?_
  rintro _ w19 ⟨rfl, o19, hs19⟩
  have e19 : Ext w w19 := eall.own o19 (fun i hi => by rw [hc] at hi; omega)
  refine ⟨_, rfl, ?_⟩
  cases hr : tblF m (freeL T fr) 2 root [] with
  | none => exact BIf.t rfl ⟨⟨none, 0, 0⟩, rfl, e19, fun _ => rfl, fun S' hS => by cases hS⟩
  | some S' =>
    obtain ⟨_, l, hl, own⟩ := hs19 S' hr
    refine BIf.f rfl ⟨l, hl.cell 0, l, rfl, e19, (fun hn => by cases hn), fun S2 hS => ?_⟩
    injection hS with hS
    subst hS
    refine ⟨?_, own.mono (by show w.heap.size ≤ w16.heap.size; omega)⟩
    have hll := own.len
    rw [List.length_map, Nat.mul_one] at hll
    have hne : 0 < S'.length := List.length_pos_iff.2 (tblF_ne hr)
    rcases own.2 with ⟨_, h0⟩ | ⟨q, cs, ha, _⟩
    · omega
    · rw [ha]; rfl
theorem c35 {sm sf : Sl} {m : List Int} {T : Int} {fr : List DBlock} {root : Int} {w : World} (hm : Bytes w sm m) (hf : FrAt w sf fr) : CallW Try.prog 35 #[.agg #[.slice sm.a sm.len sm.cap, .int .i64 T, .slice sf.a sf.len sf.cap], .int .i64 root] w (fun v w' => v = .bool (spaceT m T fr root).isSome ∧ Ext w w') := by
  refine go35 ?_
  unfold W35
  refine alloc_step (fun w1 e hb n1 => ?_)
  refine ⟨sm, hb.cell 0, _, hb.cell 1, sf, hb.cell 2, (c94 (hm.ext e) (hf.ext e)).mono ?_⟩
  rintro _ w6 ⟨b, rfl, hiff, e6⟩
  have e06 := Only.trans e e6
  have hb6 := hb.ext e6
  refine ⟨b, rfl, ?_⟩
  refine JoinW.each (BIf.of (fun hy => ?_) (fun hn => ?_))
  · have hok := hiff.1 hy
    refine ⟨sm, hb6.cell 0, _, hb6.cell 1, sf, hb6.cell 2, (c95 (hm.ext e06) (hf.ext e06)).mono ?_⟩
    rintro _ w15 ⟨bp, tm, tf, rfl, hpool, e15⟩
    have hfew := hf.few
    refine ⟨_, rfl, (c96 hpool.blk (own_bytes hpool.mem hm.rng hm.small) (own_fr hpool.frs hfew) hok).mono ?_⟩
    rintro _ w18 ⟨l, rfl, e18, hn18, hs18⟩
    refine ⟨l, rfl, ?_, Only.trans e06 (Only.trans e15 e18)⟩
    rw [spaceT_pos hok]
    cases hr : tblF m (freeL T fr) 2 root [] with
    | none => rw [hn18 hr]; rfl
    | some S' =>
      have := (hs18 S' hr).1
      cases hl : l.a with
      | none => rw [hl] at this; cases this
      | some p => rfl
  · have hno : ¬ POk m T fr := fun h => by rw [hiff.2 h] at hn; cases hn
    exact ⟨by rw [spaceT_neg hno]; rfl, e06⟩
end Go.Proofs.Ytkgoanjemhbjgaa

/- The law's own functions over trees: copies, sizes, comparisons, marks; printed by a program. Conditions: none. -/
set_option linter.unusedVariables false
set_option linter.unusedSimpArgs false
set_option maxRecDepth 4000
namespace Go.Proofs.Ytkgoanjemhbjgaa
open Go Go.Den

theorem has_Block {d : Dat} (h : Has TyBlock d) : ∃ x_0 : Int, ∃ x_1 : Int, d = .st [.int .i64 x_0, .int .i64 x_1] := by
  obtain ⟨_, rfl, g⟩ := has_st h
  obtain ⟨_, _, rfl, h_0, g⟩ := hasF_cons g
  obtain ⟨_, _, rfl, h_1, g⟩ := hasF_cons g
  obtain rfl := hasF_nil g
  obtain ⟨x_0, rfl⟩ := has_int h_0
  obtain ⟨x_1, rfl⟩ := has_int h_1
  exact ⟨x_0, x_1, rfl⟩
theorem cells_Block {w : World} {x_0 : Int} {x_1 : Int} {cs : List Value} (h : IsD w (.st [.int .i64 x_0, .int .i64 x_1]) cs) : cs = [.int .i64 x_0, .int .i64 x_1] ∧ ((Lit.int .i64 x_0).wf = true) ∧ ((Lit.int .i64 x_1).wf = true) := by
  have q := isD_st h
  obtain ⟨_, _, rfl, i_0, q⟩ := isF_cons q
  obtain ⟨_, _, rfl, i_1, q⟩ := isF_cons q
  obtain rfl := isF_nil q
  obtain ⟨rfl, ws_0⟩ := isD_int i_0
  obtain ⟨rfl, ws_1⟩ := isD_int i_1
  exact ⟨rfl, ws_0, ws_1⟩
theorem has_Frames {d : Dat} (h : Has TyFrames d) : ∃ x_0 : Int, ∃ l_1 : List Dat, d = .st [.int .i64 x_0, .sl 2 l_1] ∧ (∀ e, e ∈ l_1 → Has TyBlock e) := by
  obtain ⟨_, rfl, g⟩ := has_st h
  obtain ⟨_, _, rfl, h_0, g⟩ := hasF_cons g
  obtain ⟨_, _, rfl, h_1, g⟩ := hasF_cons g
  obtain rfl := hasF_nil g
  obtain ⟨x_0, rfl⟩ := has_int h_0
  obtain ⟨l_1, rfl, t_1⟩ := has_sl h_1
  exact ⟨x_0, l_1, rfl, t_1⟩
theorem cells_Frames {w : World} {x_0 : Int} {l_1 : List Dat} {cs : List Value} (h : IsD w (.st [.int .i64 x_0, .sl 2 l_1]) cs) : ∃ s_1 : Sl, cs = [.int .i64 x_0, .slice s_1.a s_1.len s_1.cap] ∧ ((Lit.int .i64 x_0).wf = true) ∧ (IsD w (.sl 2 l_1) [.slice s_1.a s_1.len s_1.cap]) := by
  have q := isD_st h
  obtain ⟨_, _, rfl, i_0, q⟩ := isF_cons q
  obtain ⟨_, _, rfl, i_1, q⟩ := isF_cons q
  obtain rfl := isF_nil q
  obtain ⟨rfl, ws_0⟩ := isD_int i_0
  obtain ⟨s_1, rfl⟩ := isD_sl_s i_1
  have is_1 := i_1
  exact ⟨s_1, rfl, ws_0, is_1⟩
theorem has_Pool {d : Dat} (h : Has TyPool d) : ∃ l_0 : List Dat, ∃ x_1_0 : Int, ∃ l_1_1 : List Dat, d = .st [.sl 1 l_0, .st [.int .i64 x_1_0, .sl 2 l_1_1]] ∧ (∀ e, e ∈ l_0 → Has (.int .u8) e) ∧ (Has TyFrames (.st [.int .i64 x_1_0, .sl 2 l_1_1])) ∧ (∀ e, e ∈ l_1_1 → Has TyBlock e) := by
  obtain ⟨_, rfl, g⟩ := has_st h
  obtain ⟨_, _, rfl, h_0, g⟩ := hasF_cons g
  obtain ⟨_, _, rfl, h_1, g⟩ := hasF_cons g
  obtain rfl := hasF_nil g
  obtain ⟨l_0, rfl, t_0⟩ := has_sl h_0
  have h_1k := h_1
  obtain ⟨x_1_0, l_1_1, rfl, t_1_1⟩ := has_Frames h_1
  exact ⟨l_0, x_1_0, l_1_1, rfl, t_0, h_1k, t_1_1⟩
theorem cells_Pool {w : World} {l_0 : List Dat} {x_1_0 : Int} {l_1_1 : List Dat} {cs : List Value} (h : IsD w (.st [.sl 1 l_0, .st [.int .i64 x_1_0, .sl 2 l_1_1]]) cs) : ∃ s_0 : Sl, ∃ s_1_1 : Sl, cs = [.slice s_0.a s_0.len s_0.cap, .int .i64 x_1_0, .slice s_1_1.a s_1_1.len s_1_1.cap] ∧ (IsD w (.sl 1 l_0) [.slice s_0.a s_0.len s_0.cap]) ∧ (IsD w (.st [.int .i64 x_1_0, .sl 2 l_1_1]) [.int .i64 x_1_0, .slice s_1_1.a s_1_1.len s_1_1.cap]) ∧ ((Lit.int .i64 x_1_0).wf = true) ∧ (IsD w (.sl 2 l_1_1) [.slice s_1_1.a s_1_1.len s_1_1.cap]) := by
  have q := isD_st h
  obtain ⟨_, _, rfl, i_0, q⟩ := isF_cons q
  obtain ⟨_, _, rfl, i_1, q⟩ := isF_cons q
  obtain rfl := isF_nil q
  obtain ⟨s_0, rfl⟩ := isD_sl_s i_0
  have is_0 := i_0
  have is_1 := i_1
  obtain ⟨s_1_1, rfl, ws_1_0, is_1_1⟩ := cells_Frames i_1
  exact ⟨s_0, s_1_1, rfl, is_0, is_1, ws_1_0, is_1_1⟩
/- toByteS -/
theorem c92 {l : List Dat} {a0 : Sl} {w : World} (ht : ∀ e, e ∈ l → Has (.int .u8) e) (h : IsD w (.sl 1 l) [.slice a0.a a0.len a0.cap]) (hs : (Dat.sl 1 l).sz ≤ 4194304) : CallW Try.prog 92 #[.slice a0.a a0.len a0.cap] w (fun v w' => ∃ s : Sl, v = .slice s.a s.len s.cap ∧ Fr w.heap.size w'.heap.size w' (.sl 1 l) [.slice s.a s.len s.cap] ∧ Ext w w') := by
  refine go92 ?_
  unfold W92
  obtain ⟨hlen, hmax, hel⟩ := isD_sl h
  simp only [Dat.sz] at hs
  rw [hlen]; simp only [Int.toNat_natCast]
  refine ⟨by omega, by omega, by omega, by omega, LetW_iff.2 ?_⟩
  have hs0 := ToInv.start (w := w) (z := 1) (zero := ti5.zero) (e := 5) l rfl
  generalize w.alloc (.cells ⟨zerosOf ti5.zero l.length⟩ 5) = w1 at *
  refine LoopW.m1 (fun (i : Int) w' => ∃ (k : Nat) (bs : List Nat) (vs : List Value), i = k ∧ ToInv w w' w.heap.size 1 l k bs vs) (fun (i : Int) _ => (l.length - i).toNat) ⟨0, [], _, rfl, hs0⟩ ?_
  rintro (i : Int) w4 ⟨k, bs, vs, rfl, hi⟩ J hJ
  refine BIf.dec (fun hlt => ?_) (fun hge => ?_)
  · obtain ⟨d, hd⟩ : ∃ d, l[k]? = some d := ⟨_, List.getElem?_eq_getElem (by omega)⟩
    have hsz := szs_get hd
    obtain ⟨p, es, hp, he, hc, his⟩ := isD_at (IsD.ext hi.ext _ _ h) hd
    have ht0 := ht d (mem_get hd)
    obtain ⟨x, rfl⟩ := has_int ht0
    obtain ⟨rfl, ws⟩ := isD_int his
    obtain ⟨b1, ho, hn, hb⟩ := fr_int (lo := w4.heap.size) (hi := w4.heap.size) (w := w4) ws
    obtain ⟨hm, hi2⟩ := hi.step hd (Only.refl _ _) ho hn (fun c hc => (hb c hc).1) rfl
    rw [puts_one] at hi2
    refine ⟨by omega, by omega, p, hp, _, hc 0 _ rfl, by omega, by omega, _, rfl, mayN_one hm, LetW_iff.2 ?_⟩
    rw [w64 (by omega) (by omega)]
    exact hJ _ _ ⟨k + 1, _, _, by omega, hi2⟩ (by omega)
  · exact ⟨⟨some ⟨w.heap.size, 0, none⟩, l.length, l.length⟩, rfl, (hi.done (by omega) hmax).fr, hi.ext⟩

/- toBlock -/
theorem c187 {d : Dat} {cs : List Value} {w : World} (ht : Has TyBlock d) (h : IsD w d cs) (hs : d.sz ≤ 4194304) : CallW Try.prog 187 #[.agg ⟨cs⟩] w (fun v w' => ∃ cs', v = .agg ⟨cs'⟩ ∧ Fr w.heap.size w'.heap.size w' d cs' ∧ Ext w w') := by
  obtain ⟨x_0, x_1, rfl⟩ := has_Block ht
  obtain ⟨rfl, ws_0, ws_1⟩ := cells_Block h
  show CallW Try.prog 187 #[.agg #[.int .i64 x_0, .int .i64 x_1]] w _
  refine go187 ?_
  unfold W187
  refine alloc_step (fun w1 e1 ha n1 => ?_)
  refine alloc_step (fun w2 e2 hc n2 => ?_)
  have ha := ha.ext e2
  refine alloc_step (fun w3 e3 hb n3 => ?_)
  have ha := ha.ext e3
  have hc := hc.ext e3
  have e := Only.trans e1 (Only.trans e2 e3)
  refine ⟨_, ha.cell 0, ?_⟩
  refine set_step hb (by simp) (fun w4 o4 hb n4 => ?_)
  have ha := ha.only o4 (by omega)
  have hc := hc.only o4 (by omega)
  have e := Ext.own e o4 (fun k hk => by omega)
  refine ⟨_, ha.cell 1, ?_⟩
  refine set_step hb (by simp) (fun w5 o5 hb n5 => ?_)
  have ha := ha.only o5 (by omega)
  have hc := hc.only o5 (by omega)
  have e := Ext.own e o5 (fun k hk => by omega)
  refine ⟨_, hb.cell 0, _, hb.cell 1, ?_⟩
  refine put_step hc rfl rfl (fun w6 o6 hc n6 => ?_)
  have e := Ext.own e o6 (fun k hk => by omega)
  refine ⟨_, hc.cell 0, _, hc.cell 1, ?_⟩
  exact ⟨[.int .i64 x_0, .int .i64 x_1], rfl, frF_st (frF_cons (m := w.heap.size) (fr_int ws_0) (frF_cons (m := w.heap.size) (fr_int ws_1) (frF_nil) (by omega) (by omega)) (by omega) (by omega)), e⟩

/- toBlockS -/
theorem c154 {l : List Dat} {a0 : Sl} {w : World} (ht : ∀ e, e ∈ l → Has TyBlock e) (h : IsD w (.sl 2 l) [.slice a0.a a0.len a0.cap]) (hs : (Dat.sl 2 l).sz ≤ 4194304) : CallW Try.prog 154 #[.slice a0.a a0.len a0.cap] w (fun v w' => ∃ s : Sl, v = .slice s.a s.len s.cap ∧ Fr w.heap.size w'.heap.size w' (.sl 2 l) [.slice s.a s.len s.cap] ∧ Ext w w') := by
  refine go154 ?_
  unfold W154
  obtain ⟨hlen, hmax, hel⟩ := isD_sl h
  simp only [Dat.sz] at hs
  rw [hlen]; simp only [Int.toNat_natCast]
  refine ⟨by omega, by omega, by omega, by omega, LetW_iff.2 ?_⟩
  have hs0 := ToInv.start (w := w) (z := 2) (zero := ti123.zero) (e := 123) l rfl
  generalize w.alloc (.cells ⟨zerosOf ti123.zero l.length⟩ 123) = w1 at *
  refine LoopW.m1 (fun (i : Int) w' => ∃ (k : Nat) (bs : List Nat) (vs : List Value), i = k ∧ ToInv w w' w.heap.size 2 l k bs vs) (fun (i : Int) _ => (l.length - i).toNat) ⟨0, [], _, rfl, hs0⟩ ?_
  rintro (i : Int) w4 ⟨k, bs, vs, rfl, hi⟩ J hJ
  refine BIf.dec (fun hlt => ?_) (fun hge => ?_)
  · obtain ⟨d, hd⟩ : ∃ d, l[k]? = some d := ⟨_, List.getElem?_eq_getElem (by omega)⟩
    have hsz := szs_get hd
    obtain ⟨p, es, hp, he, hc, his⟩ := isD_at (IsD.ext hi.ext _ _ h) hd
    have ht0 := ht d (mem_get hd)
    obtain ⟨x_0, x_1, rfl⟩ := has_Block ht0
    have his0 := his
    obtain ⟨rfl, ws_0, ws_1⟩ := cells_Block his
    refine ⟨by omega, by omega, p, hp, _, hc 0 _ rfl, _, hc 1 _ rfl, (c187 (cs := [.int .i64 x_0, .int .i64 x_1]) ht0 his0 (by omega)).mono ?_⟩
    rintro _ w9 ⟨r, rfl, f, e9⟩
    have hr := f.is
    obtain ⟨rfl, wr_0, wr_1⟩ := cells_Block hr
    obtain ⟨b1, ho, hn, hb⟩ := f
    obtain ⟨hm, hi2⟩ := hi.step hd e9 ho hn (fun c hc => (hb c hc).1) rfl
    refine ⟨_, _, rfl, by omega, by omega, _, rfl, hm, LetW_iff.2 ?_⟩
    rw [w64 (by omega) (by omega)]
    exact hJ _ _ ⟨k + 1, _, _, by omega, hi2⟩ (by omega)
  · exact ⟨⟨some ⟨w.heap.size, 0, none⟩, l.length, l.length⟩, rfl, (hi.done (by omega) hmax).fr, hi.ext⟩

/- toFrames -/
theorem c93 {d : Dat} {cs : List Value} {w : World} (ht : Has TyFrames d) (h : IsD w d cs) (hs : d.sz ≤ 4194304) : CallW Try.prog 93 #[.agg ⟨cs⟩] w (fun v w' => ∃ cs', v = .agg ⟨cs'⟩ ∧ Fr w.heap.size w'.heap.size w' d cs' ∧ Ext w w') := by
  obtain ⟨x_0, l_1, rfl, t_1⟩ := has_Frames ht
  obtain ⟨s_1, rfl, ws_0, is_1⟩ := cells_Frames h
  show CallW Try.prog 93 #[.agg #[.int .i64 x_0, .slice s_1.a s_1.len s_1.cap]] w _
  refine go93 ?_
  unfold W93
  refine alloc_step (fun w1 e1 ha n1 => ?_)
  refine alloc_step (fun w2 e2 hc n2 => ?_)
  have ha := ha.ext e2
  refine alloc_step (fun w3 e3 hb n3 => ?_)
  have ha := ha.ext e3
  have hc := hc.ext e3
  have e := Only.trans e1 (Only.trans e2 e3)
  refine ⟨_, ha.cell 0, ?_⟩
  refine set_step hb (by simp) (fun w4 o4 hb n4 => ?_)
  have ha := ha.only o4 (by omega)
  have hc := hc.only o4 (by omega)
  have e := Ext.own e o4 (fun k hk => by omega)
  refine ⟨s_1, ha.cell 1, ?_⟩
  refine (c154 t_1 (IsD.ext e _ _ is_1) (by simp only [Dat.sz, Dat.szs] at hs ⊢; omega)).mono ?_
  rintro _ w5 ⟨r_1, rfl, f_1, e5⟩
  refine ⟨r_1, rfl, ?_⟩
  have ha := ha.ext e5
  have hb := hb.ext e5
  have hc := hc.ext e5
  have e := Only.trans e e5
  have z5 := e5.size
  refine set_step hb (by simp) (fun w6 o6 hb n6 => ?_)
  have ha := ha.only o6 (by omega)
  have hc := hc.only o6 (by omega)
  have e := Ext.own e o6 (fun k hk => by omega)
  have f_1 := f_1.only o6 (fun k _ _ => by omega)
  refine ⟨_, hb.cell 0, r_1, hb.cell 1, ?_⟩
  refine put_step hc rfl rfl (fun w7 o7 hc n7 => ?_)
  have e := Ext.own e o7 (fun k hk => by omega)
  have f_1 := f_1.only o7 (fun k _ _ => by omega)
  refine ⟨_, hc.cell 0, r_1, hc.cell 1, ?_⟩
  exact ⟨[.int .i64 x_0, .slice r_1.a r_1.len r_1.cap], rfl, frF_st (frF_cons (m := w.heap.size) (fr_int ws_0) (frF_cons (m := w5.heap.size) (f_1.mono (by omega) (Nat.le_refl _)) (frF_nil) (by omega) (by omega)) (by omega) (by omega)), e⟩

/- toPool -/
theorem c34 {d : Dat} {cs : List Value} {w : World} (ht : Has TyPool d) (h : IsD w d cs) (hs : d.sz ≤ 4194304) : CallW Try.prog 34 #[.agg ⟨cs⟩] w (fun v w' => ∃ cs', v = .agg ⟨cs'⟩ ∧ Fr w.heap.size w'.heap.size w' d cs' ∧ Ext w w') := by
  obtain ⟨l_0, x_1_0, l_1_1, rfl, t_0, h_1k, t_1_1⟩ := has_Pool ht
  obtain ⟨s_0, s_1_1, rfl, is_0, is_1, ws_1_0, is_1_1⟩ := cells_Pool h
  show CallW Try.prog 34 #[.agg #[.slice s_0.a s_0.len s_0.cap, .int .i64 x_1_0, .slice s_1_1.a s_1_1.len s_1_1.cap]] w _
  refine go34 ?_
  unfold W34
  refine alloc_step (fun w1 e1 ha n1 => ?_)
  refine alloc_step (fun w2 e2 hc n2 => ?_)
  have ha := ha.ext e2
  refine alloc_step (fun w3 e3 hb n3 => ?_)
  have ha := ha.ext e3
  have hc := hc.ext e3
  have e := Only.trans e1 (Only.trans e2 e3)
  refine ⟨s_0, ha.cell 0, ?_⟩
  refine (c92 t_0 (IsD.ext e _ _ is_0) (by simp only [Dat.sz, Dat.szs] at hs ⊢; omega)).mono ?_
  rintro _ w4 ⟨r_0, rfl, f_0, e4⟩
  refine ⟨r_0, rfl, ?_⟩
  have ha := ha.ext e4
  have hb := hb.ext e4
  have hc := hc.ext e4
  have e := Only.trans e e4
  have z4 := e4.size
  refine set_step hb (by simp) (fun w5 o5 hb n5 => ?_)
  have ha := ha.only o5 (by omega)
  have hc := hc.only o5 (by omega)
  have e := Ext.own e o5 (fun k hk => by omega)
  have f_0 := f_0.only o5 (fun k _ _ => by omega)
  refine ⟨_, ha.cell 1, s_1_1, ha.cell 2, ?_⟩
  refine (c93 (cs := [.int .i64 x_1_0, .slice s_1_1.a s_1_1.len s_1_1.cap]) h_1k (IsD.ext e _ _ is_1) (by simp only [Dat.sz, Dat.szs] at hs ⊢; omega)).mono ?_
  rintro _ w6 ⟨r_1, rfl, f_1, e6⟩
  have hr_1 := f_1.is
  obtain ⟨r_1_1, rfl, wr_1_0, ir_1_1⟩ := cells_Frames hr_1
  refine ⟨_, r_1_1, rfl, ?_⟩
  have ha := ha.ext e6
  have hb := hb.ext e6
  have hc := hc.ext e6
  have e := Only.trans e e6
  have z6 := e6.size
  have f_0 := f_0.ext e6
  refine putAt_step hb rfl (by simp [setAll_length]) (fun w7 o7 hb n7 => ?_)
  have ha := ha.only o7 (by omega)
  have hc := hc.only o7 (by omega)
  have e := Ext.own e o7 (fun k hk => by omega)
  have f_0 := f_0.only o7 (fun k _ _ => by omega)
  have f_1 := f_1.only o7 (fun k _ _ => by omega)
  refine ⟨r_0, hb.cell 0, _, hb.cell 1, r_1_1, hb.cell 2, ?_⟩
  refine put_step hc rfl rfl (fun w8 o8 hc n8 => ?_)
  have e := Ext.own e o8 (fun k hk => by omega)
  have f_0 := f_0.only o8 (fun k _ _ => by omega)
  have f_1 := f_1.only o8 (fun k _ _ => by omega)
  refine ⟨r_0, hc.cell 0, _, hc.cell 1, r_1_1, hc.cell 2, ?_⟩
  exact ⟨[.slice r_0.a r_0.len r_0.cap, .int .i64 x_1_0, .slice r_1_1.a r_1_1.len r_1_1.cap], rfl, frF_st (frF_cons (m := w4.heap.size) (f_0.mono (by omega) (Nat.le_refl _)) (frF_cons (m := w6.heap.size) (f_1.mono (by omega) (Nat.le_refl _)) (frF_nil) (by omega) (by omega)) (by omega) (by omega)), e⟩

/- szByteS -/
theorem c89 {l : List Dat} {a0 : Sl} {left : Int} {w : World} (ht : ∀ e, e ∈ l → Has (.int .u8) e) (h : IsD w (.sl 1 l) [.slice a0.a a0.len a0.cap]) (h0 : 0 ≤ left) (hl : left ≤ 4611686018427387904) : CallW Try.prog 89 #[.slice a0.a a0.len a0.cap, .int .i64 left] w (fun v w' => SzPost (Dat.sl 1 l).sz left v ∧ Ext w w') := by
  refine go89 ?_
  unfold W89
  obtain ⟨hlen, hmax, hel⟩ := isD_sl h
  have hmx : maxLen = 9223372036854775807 := rfl
  rw [hlen, w64 (by omega) (by omega)]
  have hz : Dat.szs l = 0 := by
    refine szs_zero (fun d hd => ?_)
    have ht0 := ht d hd
    obtain ⟨x, rfl⟩ := has_int ht0
    rfl
  refine BIf.dec (fun hn => ⟨⟨_, rfl, .inr ⟨by omega, by simp only [Dat.sz]; omega⟩⟩, Only.refl _ _⟩) (fun hp => ⟨⟨_, rfl, .inl ⟨by simp only [Dat.sz]; omega, by omega⟩⟩, Only.refl _ _⟩)

/- szBlockS -/
theorem c151 {l : List Dat} {a0 : Sl} {left : Int} {w : World} (ht : ∀ e, e ∈ l → Has TyBlock e) (h : IsD w (.sl 2 l) [.slice a0.a a0.len a0.cap]) (h0 : 0 ≤ left) (hl : left ≤ 4611686018427387904) : CallW Try.prog 151 #[.slice a0.a a0.len a0.cap, .int .i64 left] w (fun v w' => SzPost (Dat.sl 2 l).sz left v ∧ Ext w w') := by
  refine go151 ?_
  unfold W151
  obtain ⟨hlen, hmax, hel⟩ := isD_sl h
  have hmx : maxLen = 9223372036854775807 := rfl
  rw [hlen, w64 (by omega) (by omega)]
  have hz : Dat.szs l = 0 := by
    refine szs_zero (fun d hd => ?_)
    have ht0 := ht d hd
    obtain ⟨x_0, x_1, rfl⟩ := has_Block ht0
    rfl
  refine BIf.dec (fun hn => ⟨⟨_, rfl, .inr ⟨by omega, by simp only [Dat.sz]; omega⟩⟩, Only.refl _ _⟩) (fun hp => ⟨⟨_, rfl, .inl ⟨by simp only [Dat.sz]; omega, by omega⟩⟩, Only.refl _ _⟩)

/- szFrames -/
theorem c90 {d : Dat} {cs : List Value} {left : Int} {w : World} (ht : Has TyFrames d) (h : IsD w d cs) (h0 : 0 ≤ left) (hl : left ≤ 4611686018427387904) : CallW Try.prog 90 #[.agg ⟨cs⟩, .int .i64 left] w (fun v w' => SzPost d.sz left v ∧ Ext w w') := by
  obtain ⟨x_0, l_1, rfl, t_1⟩ := has_Frames ht
  obtain ⟨s_1, rfl, ws_0, is_1⟩ := cells_Frames h
  show CallW Try.prog 90 #[.agg #[.int .i64 x_0, .slice s_1.a s_1.len s_1.cap], .int .i64 left] w _
  refine go90 ?_
  unfold W90
  refine alloc_step (fun w1 e ha n1 => ?_)
  have hmx : maxLen = 9223372036854775807 := rfl
  have hx : (0 : Int) ≤ left ∧ left ≤ left := ⟨h0, Int.le_refl _⟩
  have hd := Int.sub_zero left
  refine ⟨s_1, ha.cell 1, (c151 t_1 (IsD.ext e _ _ is_1) (by omega) (by omega)).mono ?_⟩
  rintro _ w2 ⟨⟨r2, rfl, hr2⟩, e2⟩
  have ha := ha.ext e2
  have e := Only.trans e e2
  refine ⟨r2, rfl, BIf.dec (fun hn => ⟨⟨_, rfl, .inr ⟨by omega, by simp only [Dat.sz, Dat.szs] at *; omega⟩⟩, e⟩) (fun hp2 => ?_)⟩
  exact ⟨⟨_, rfl, .inl ⟨by simp only [Dat.sz, Dat.szs] at *; omega, by omega⟩⟩, e⟩

/- szPool -/
theorem c32 {d : Dat} {cs : List Value} {left : Int} {w : World} (ht : Has TyPool d) (h : IsD w d cs) (h0 : 0 ≤ left) (hl : left ≤ 4611686018427387904) : CallW Try.prog 32 #[.agg ⟨cs⟩, .int .i64 left] w (fun v w' => SzPost d.sz left v ∧ Ext w w') := by
  obtain ⟨l_0, x_1_0, l_1_1, rfl, t_0, h_1k, t_1_1⟩ := has_Pool ht
  obtain ⟨s_0, s_1_1, rfl, is_0, is_1, ws_1_0, is_1_1⟩ := cells_Pool h
  show CallW Try.prog 32 #[.agg #[.slice s_0.a s_0.len s_0.cap, .int .i64 x_1_0, .slice s_1_1.a s_1_1.len s_1_1.cap], .int .i64 left] w _
  refine go32 ?_
  unfold W32
  refine alloc_step (fun w1 e ha n1 => ?_)
  have hmx : maxLen = 9223372036854775807 := rfl
  have hx : (0 : Int) ≤ left ∧ left ≤ left := ⟨h0, Int.le_refl _⟩
  have hd := Int.sub_zero left
  refine ⟨s_0, ha.cell 0, (c89 t_0 (IsD.ext e _ _ is_0) (by omega) (by omega)).mono ?_⟩
  rintro _ w2 ⟨⟨r2, rfl, hr2⟩, e2⟩
  have ha := ha.ext e2
  have e := Only.trans e e2
  refine ⟨r2, rfl, BIf.dec (fun hn => ⟨⟨_, rfl, .inr ⟨by omega, by simp only [Dat.sz, Dat.szs] at *; omega⟩⟩, e⟩) (fun hp2 => ?_)⟩
  refine ⟨_, ha.cell 1, s_1_1, ha.cell 2, (c90 (cs := [.int .i64 x_1_0, .slice s_1_1.a s_1_1.len s_1_1.cap]) h_1k (IsD.ext e _ _ is_1) (by omega) (by omega)).mono ?_⟩
  rintro _ w3 ⟨⟨r3, rfl, hr3⟩, e3⟩
  have ha := ha.ext e3
  have e := Only.trans e e3
  refine ⟨r3, rfl, BIf.dec (fun hn => ⟨⟨_, rfl, .inr ⟨by omega, by simp only [Dat.sz, Dat.szs] at *; omega⟩⟩, e⟩) (fun hp3 => ?_)⟩
  exact ⟨⟨_, rfl, .inl ⟨by simp only [Dat.sz, Dat.szs] at *; omega, by omega⟩⟩, e⟩

/- eqByteS -/
theorem c97 {l : List Dat} {a0 a1 : Sl} {w : World} (ht : ∀ e, e ∈ l → Has (.int .u8) e) (h : IsD w (.sl 1 l) [.slice a0.a a0.len a0.cap]) (h2 : IsD w (.sl 1 l) [.slice a1.a a1.len a1.cap]) : CallW Try.prog 97 #[.slice a0.a a0.len a0.cap, .slice a1.a a1.len a1.cap] w (fun v w' => v = .bool true ∧ Ext w w') := by
  refine go97 ?_
  unfold W97
  obtain ⟨hlen, hmax, hel⟩ := isD_sl h
  obtain ⟨hlen2, _, hel2⟩ := isD_sl h2
  have hmx : maxLen = 9223372036854775807 := rfl
  rw [hlen, hlen2]
  refine BIf.f (by simp) ?_
  refine LoopW.m1 (fun (i : Int) w' => ∃ k : Nat, i = k ∧ k ≤ l.length ∧ Ext w w') (fun (i : Int) _ => (l.length - i).toNat) ⟨0, rfl, by omega, Only.refl _ _⟩ ?_
  rintro (i : Int) w4 ⟨k, rfl, hk, e4⟩ J hJ
  refine BIf.dec (fun hlt => ?_) (fun hge => ⟨rfl, e4⟩)
  obtain ⟨d, hd⟩ : ∃ d, l[k]? = some d := ⟨_, List.getElem?_eq_getElem (by omega)⟩
  have e4 := Only.trans e4 (ext_drew w4)
  obtain ⟨p, es, hp, he, hc, his⟩ := isD_at (IsD.ext e4 _ _ h) hd
  obtain ⟨p2, es2, hp2, he2, hc2, his2⟩ := isD_at (IsD.ext e4 _ _ h2) hd
  have ht0 := ht d (mem_get hd)
  have ht1 := ht0
  obtain ⟨x, rfl⟩ := has_int ht1
  obtain ⟨rfl, ws⟩ := isD_int his
  obtain ⟨rfl, wu⟩ := isD_int his2
  refine ⟨by omega, by omega, p, hp, _, hc 0 _ rfl, by omega, by omega, p2, hp2, _, hc2 0 _ rfl, BIf.f (by simp) ?_⟩
  rw [w64 (by omega) (by omega)]
  exact hJ _ _ ⟨k + 1, by omega, by omega, e4⟩ (by omega)

/- eqBlock -/
theorem c188 {d : Dat} {cs1 cs2 : List Value} {w : World} (ht : Has TyBlock d) (h : IsD w d cs1) (h2 : IsD w d cs2) : CallW Try.prog 188 #[.agg ⟨cs1⟩, .agg ⟨cs2⟩] w (fun v w' => v = .bool true ∧ Ext w w') := by
  obtain ⟨x_0, x_1, rfl⟩ := has_Block ht
  obtain ⟨rfl, ws_0, ws_1⟩ := cells_Block h
  obtain ⟨rfl, wu_0, wu_1⟩ := cells_Block h2
  show CallW Try.prog 188 #[.agg #[.int .i64 x_0, .int .i64 x_1], .agg #[.int .i64 x_0, .int .i64 x_1]] w _
  refine go188 ?_
  unfold W188
  refine alloc_step (fun w1 e1 ha n1 => ?_)
  refine alloc_step (fun w2 e2 hb n2 => ?_)
  have ha := ha.ext e2
  have e := Only.trans e1 e2
  refine ⟨_, ha.cell 0, _, hb.cell 0, BIf.f (by simp) ?_⟩
  refine ⟨_, ha.cell 1, _, hb.cell 1, BIf.f (by simp) ?_⟩
  exact ⟨rfl, e⟩

/- eqBlockS -/
theorem c158 {l : List Dat} {a0 a1 : Sl} {w : World} (ht : ∀ e, e ∈ l → Has TyBlock e) (h : IsD w (.sl 2 l) [.slice a0.a a0.len a0.cap]) (h2 : IsD w (.sl 2 l) [.slice a1.a a1.len a1.cap]) : CallW Try.prog 158 #[.slice a0.a a0.len a0.cap, .slice a1.a a1.len a1.cap] w (fun v w' => v = .bool true ∧ Ext w w') := by
  refine go158 ?_
  unfold W158
  obtain ⟨hlen, hmax, hel⟩ := isD_sl h
  obtain ⟨hlen2, _, hel2⟩ := isD_sl h2
  have hmx : maxLen = 9223372036854775807 := rfl
  rw [hlen, hlen2]
  refine BIf.f (by simp) ?_
  refine LoopW.m1 (fun (i : Int) w' => ∃ k : Nat, i = k ∧ k ≤ l.length ∧ Ext w w') (fun (i : Int) _ => (l.length - i).toNat) ⟨0, rfl, by omega, Only.refl _ _⟩ ?_
  rintro (i : Int) w4 ⟨k, rfl, hk, e4⟩ J hJ
  refine BIf.dec (fun hlt => ?_) (fun hge => ⟨rfl, e4⟩)
  obtain ⟨d, hd⟩ : ∃ d, l[k]? = some d := ⟨_, List.getElem?_eq_getElem (by omega)⟩
  have e4 := Only.trans e4 (ext_drew w4)
  obtain ⟨p, es, hp, he, hc, his⟩ := isD_at (IsD.ext e4 _ _ h) hd
  obtain ⟨p2, es2, hp2, he2, hc2, his2⟩ := isD_at (IsD.ext e4 _ _ h2) hd
  have ht0 := ht d (mem_get hd)
  have ht1 := ht0
  obtain ⟨x_0, x_1, rfl⟩ := has_Block ht1
  have his0 := his
  have his20 := his2
  obtain ⟨rfl, ws_0, ws_1⟩ := cells_Block his
  obtain ⟨rfl, wu_0, wu_1⟩ := cells_Block his2
  refine ⟨by omega, by omega, p, hp, _, hc 0 _ rfl, _, hc 1 _ rfl, by omega, by omega, p2, hp2, _, hc2 0 _ rfl, _, hc2 1 _ rfl, (c188 (cs1 := [.int .i64 x_0, .int .i64 x_1]) (cs2 := [.int .i64 x_0, .int .i64 x_1]) ht0 his0 his20).mono ?_⟩
  rintro _ w9 ⟨rfl, e9⟩
  refine ⟨true, rfl, BIf.f rfl ?_⟩
  rw [w64 (by omega) (by omega)]
  exact hJ _ _ ⟨k + 1, by omega, by omega, Only.trans e4 e9⟩ (by omega)

/- eqFrames -/
theorem c98 {d : Dat} {cs1 cs2 : List Value} {w : World} (ht : Has TyFrames d) (h : IsD w d cs1) (h2 : IsD w d cs2) : CallW Try.prog 98 #[.agg ⟨cs1⟩, .agg ⟨cs2⟩] w (fun v w' => v = .bool true ∧ Ext w w') := by
  obtain ⟨x_0, l_1, rfl, t_1⟩ := has_Frames ht
  obtain ⟨s_1, rfl, ws_0, is_1⟩ := cells_Frames h
  obtain ⟨u_1, rfl, wu_0, iu_1⟩ := cells_Frames h2
  show CallW Try.prog 98 #[.agg #[.int .i64 x_0, .slice s_1.a s_1.len s_1.cap], .agg #[.int .i64 x_0, .slice u_1.a u_1.len u_1.cap]] w _
  refine go98 ?_
  unfold W98
  refine alloc_step (fun w1 e1 ha n1 => ?_)
  refine alloc_step (fun w2 e2 hb n2 => ?_)
  have ha := ha.ext e2
  have e := Only.trans e1 e2
  refine ⟨_, ha.cell 0, _, hb.cell 0, BIf.f (by simp) ?_⟩
  refine ⟨s_1, ha.cell 1, u_1, hb.cell 1, (c158 t_1 (IsD.ext e _ _ is_1) (IsD.ext e _ _ iu_1)).mono ?_⟩
  rintro _ w3 ⟨rfl, e3⟩
  have ha := ha.ext e3
  have hb := hb.ext e3
  have e := Only.trans e e3
  refine ⟨true, rfl, BIf.f rfl ?_⟩
  exact ⟨rfl, e⟩

/- eqPool -/
theorem c36 {d : Dat} {cs1 cs2 : List Value} {w : World} (ht : Has TyPool d) (h : IsD w d cs1) (h2 : IsD w d cs2) : CallW Try.prog 36 #[.agg ⟨cs1⟩, .agg ⟨cs2⟩] w (fun v w' => v = .bool true ∧ Ext w w') := by
  obtain ⟨l_0, x_1_0, l_1_1, rfl, t_0, h_1k, t_1_1⟩ := has_Pool ht
  obtain ⟨s_0, s_1_1, rfl, is_0, is_1, ws_1_0, is_1_1⟩ := cells_Pool h
  obtain ⟨u_0, u_1_1, rfl, iu_0, iu_1, wu_1_0, iu_1_1⟩ := cells_Pool h2
  show CallW Try.prog 36 #[.agg #[.slice s_0.a s_0.len s_0.cap, .int .i64 x_1_0, .slice s_1_1.a s_1_1.len s_1_1.cap], .agg #[.slice u_0.a u_0.len u_0.cap, .int .i64 x_1_0, .slice u_1_1.a u_1_1.len u_1_1.cap]] w _
  refine go36 ?_
  unfold W36
  refine alloc_step (fun w1 e1 ha n1 => ?_)
  refine alloc_step (fun w2 e2 hb n2 => ?_)
  have ha := ha.ext e2
  have e := Only.trans e1 e2
  refine ⟨s_0, ha.cell 0, u_0, hb.cell 0, (c97 t_0 (IsD.ext e _ _ is_0) (IsD.ext e _ _ iu_0)).mono ?_⟩
  rintro _ w3 ⟨rfl, e3⟩
  have ha := ha.ext e3
  have hb := hb.ext e3
  have e := Only.trans e e3
  refine ⟨true, rfl, BIf.f rfl ?_⟩
  refine ⟨_, ha.cell 1, s_1_1, ha.cell 2, _, hb.cell 1, u_1_1, hb.cell 2, (c98 (cs1 := [.int .i64 x_1_0, .slice s_1_1.a s_1_1.len s_1_1.cap]) (cs2 := [.int .i64 x_1_0, .slice u_1_1.a u_1_1.len u_1_1.cap]) h_1k (IsD.ext e _ _ is_1) (IsD.ext e _ _ iu_1)).mono ?_⟩
  rintro _ w4 ⟨rfl, e4⟩
  have ha := ha.ext e4
  have hb := hb.ext e4
  have e := Only.trans e e4
  refine ⟨true, rfl, BIf.f rfl ?_⟩
  exact ⟨rfl, e⟩

end Go.Proofs.Ytkgoanjemhbjgaa

/- FnExactSpaceOk: both sides, for the walk. Conditions: none. -/
set_option linter.unusedVariables false
set_option linter.unusedSimpArgs false
namespace Go.Proofs.Ytkgoanjemhbjgaa
open Go Go.Den
theorem pool_of {x : DPool} {w : World} {cs : List Value} (h : IsD w x.dat cs) (hs : x.dat.sz ≤ 1048576) : ∃ sm sf : Sl, cs = [.slice sm.a sm.len sm.cap, .int .i64 x.Free.Total, .slice sf.a sf.len sf.cap] ∧ Bytes w sm x.Mem ∧ FrAt w sf x.Free.Free := by
  obtain ⟨sm, sf, rfl, im, _, _, iff⟩ := cells_Pool h
  have hsz : x.dat.sz = (Dat.sl 1 (x.Mem.map (Dat.int .u8))).sz + ((0 + (((x.Free.Free.map DBlock.dat).length + Dat.szs (x.Free.Free.map DBlock.dat)) + 0)) + 0) := rfl
  rw [sz_nums, List.length_map] at hsz
  have hm := isD_len im
  have hf := isD_len iff
  exact ⟨sm, sf, rfl, ⟨hm.1, isD_cap im, isD_nums im, fun y hy => wf_u8_rng (isD_wf im y hy), by omega⟩, ⟨hf.1, isD_row iff (fun _ => rfl) (fun es y hy => DBlock.is_cells hy), by omega⟩⟩
theorem specSpaceOk {x : DPool} {root : Int} {w : World} {cs : List Value} (h : IsD w x.dat cs) (hs : x.dat.sz ≤ 1048576) : CallW Try.prog 33 #[.agg ⟨cs⟩, .int .i64 root] w (fun v w' => v = .bool (spaceT x.Mem x.Free.Total x.Free.Free root).isSome ∧ Ext w w') := by
  obtain ⟨sm, sf, rfl, hm, hf⟩ := pool_of h hs
  exact c33 hm hf
theorem implSpaceOk {x : DPool} {root : Int} {w : World} {cs : List Value} (h : IsD w x.dat cs) (hs : x.dat.sz ≤ 1048576) : CallW Try.prog 35 #[.agg ⟨cs⟩, .int .i64 root] w (fun v w' => v = .bool (spaceT x.Mem x.Free.Total x.Free.Free root).isSome ∧ Ext w w') := by
  obtain ⟨sm, sf, rfl, hm, hf⟩ := pool_of h hs
  exact c35 hm hf
end Go.Proofs.Ytkgoanjemhbjgaa

/- Frames: the list of blocks of a set, on both sides: greedy, and by halves. Conditions: none. -/
set_option linter.unusedVariables false
set_option linter.unusedSimpArgs false
namespace Go.Proofs.Ytkgoanjemhbjgaa
open Go Go.Den
/-! ## The plain law -/
def wholeP (l : List Bool) (a n : Nat) : Prop := a + n ≤ l.length ∧ ∀ i, i < n → l.getD (a + i) false = true
instance (l : List Bool) (a n : Nat) : Decidable (wholeP l a n) := by unfold wholeP; exact inferInstance
def ordF (l : List Bool) (a : Nat) : Nat → Nat → Nat
  | 0, o => o
  | f + 1, o => if o < 10 ∧ a % 2 ^ (o + 1) = 0 ∧ wholeP l a (2 ^ (o + 1)) then ordF l a f (o + 1) else o
def listF (l : List Bool) (a : Nat) : List DBlock :=
  if a < l.length then (if l.getD a false = true then ⟨a, ordF l a 10 0⟩ :: listF l (a + 2 ^ ordF l a 10 0) else listF l (a + 1)) else []
termination_by l.length - a
decreasing_by
  all_goals have := Nat.one_le_two_pow (n := ordF l a 10 0); omega
def walkF (l : List Bool) : Nat → Nat → List DBlock
  | 0, a => if l.length ≤ a then [] else if wholeP l a (2 ^ 0) then [⟨a, (0 : Nat)⟩] else []
  | o + 1, a => if l.length ≤ a then [] else if wholeP l a (2 ^ (o + 1)) then [⟨a, ((o + 1 : Nat) : Int)⟩] else walkF l o a ++ walkF l o (a + 2 ^ o)
theorem listF_end {l : List Bool} {a : Nat} (h : l.length ≤ a) : listF l a = [] := by rw [listF, if_neg (by omega)]
theorem whole_half {l : List Bool} {a o : Nat} (h : wholeP l a (2 ^ (o + 1))) : wholeP l a (2 ^ o) := by
  have h2 : 2 ^ (o + 1) = 2 ^ o * 2 := Nat.pow_succ 2 o
  exact ⟨by have := h.1; omega, fun i hi => h.2 i (by omega)⟩
theorem whole_le {l : List Bool} {a : Nat} : ∀ {o o' : Nat}, o' ≤ o → wholeP l a (2 ^ o) → wholeP l a (2 ^ o')
  | 0, o', hle, h => by rw [show o' = 0 by omega]; exact h
  | o + 1, o', hle, h => by
    rcases Nat.lt_or_ge o' (o + 1) with h1 | h1
    · exact whole_le (by omega) (whole_half h)
    · rw [show o' = o + 1 by omega]; exact h
theorem mod_le {a : Nat} : ∀ {o o' : Nat}, o' ≤ o → a % 2 ^ o = 0 → a % 2 ^ o' = 0 := fun {o o'} hle h =>
  Nat.mod_eq_zero_of_dvd (Nat.dvd_trans (Nat.pow_dvd_pow 2 hle) (Nat.dvd_of_mod_eq_zero h))
theorem ordF_is {l : List Bool} {a o : Nat} (ho : o ≤ 10) (hm : a % 2 ^ o = 0) (hw : wholeP l a (2 ^ o)) (hs : o = 10 ∨ a % 2 ^ (o + 1) ≠ 0 ∨ ¬ wholeP l a (2 ^ (o + 1))) : ∀ (f k : Nat), k ≤ o → o < k + f + 1 → ordF l a f k = o
  | 0, k, hk, hf => by unfold ordF; omega
  | f + 1, k, hk, hf => by
    unfold ordF
    rcases Nat.lt_or_ge k o with h | h
    · rw [if_pos ⟨by omega, mod_le (by omega) hm, whole_le (by omega) hw⟩]
      exact ordF_is ho hm hw hs f (k + 1) (by omega) (by omega)
    · have hko : k = o := by omega
      subst hko
      rw [if_neg (fun hh => by
        rcases hs with hs | hs | hs
        · omega
        · exact hs hh.2.1
        · exact hs hh.2.2)]
theorem list_walk {l : List Bool} : ∀ (o a : Nat), o ≤ 10 → a % 2 ^ o = 0 → (o = 10 ∨ a % 2 ^ (o + 1) ≠ 0 ∨ ¬ wholeP l a (2 ^ (o + 1))) → listF l a = walkF l o a ++ listF l (a + 2 ^ o)
  | 0, a, ho, hm, hs => by
    unfold walkF
    by_cases h1 : l.length ≤ a
    · rw [if_pos h1, listF_end h1, listF_end (by omega)]; rfl
    · rw [if_neg h1]
      by_cases h2 : wholeP l a (2 ^ 0)
      · have ho2 := ordF_is ho hm h2 hs 10 0 (by omega) (by omega)
        rw [if_pos h2, listF, if_pos (by omega), if_pos (by have := h2.2 0 (by decide); simpa using this), ho2]
        rfl
      · have hf : ¬ (l.getD a false = true) := fun hh => h2 ⟨by show a + 1 ≤ _; omega, fun i hi => by rw [show i = 0 by omega]; exact hh⟩
        rw [if_neg h2, listF, if_pos (by omega), if_neg hf]
        rfl
  | o + 1, a, ho, hm, hs => by
    unfold walkF
    have h2p : 2 ^ (o + 1) = 2 ^ o * 2 := Nat.pow_succ 2 o
    by_cases h1 : l.length ≤ a
    · rw [if_pos h1, listF_end h1, listF_end (by omega)]; rfl
    · rw [if_neg h1]
      by_cases h2 : wholeP l a (2 ^ (o + 1))
      · have ho2 := ordF_is ho hm h2 hs 10 0 (by omega) (by omega)
        have hp := Nat.one_le_two_pow (n := o + 1)
        rw [if_pos h2, listF, if_pos (by omega), if_pos (by have := h2.2 0 (by omega); simpa using this), ho2]
        rfl
      · have hm' : a % 2 ^ o = 0 := mod_le (by omega) hm
        have hp := Nat.one_le_two_pow (n := o)
        have hr : (a + 2 ^ o) % 2 ^ (o + 1) ≠ 0 := by
          rw [Nat.add_mod, hm, Nat.zero_add, Nat.mod_mod, Nat.mod_eq_of_lt (by omega)]; omega
        rw [if_neg h2, list_walk o a (by omega) hm' (.inr (.inr h2)), list_walk o (a + 2 ^ o) (by omega) (by rw [Nat.add_mod, hm', Nat.zero_add, Nat.mod_self]; rfl) (.inr (.inl hr)), List.append_assoc, h2p, show a + 2 ^ o + 2 ^ o = a + 2 ^ o * 2 by omega]
theorem list_eq {l : List Bool} (h : l.length ≤ 1024) : listF l 0 = walkF l 10 0 := by
  rw [list_walk 10 0 (by omega) (by decide) (.inl rfl), listF_end (a := 0 + 2 ^ 10) (by have : 2 ^ 10 = 1024 := rfl; omega), List.append_nil]
theorem walkF_len {l : List Bool} : ∀ (o a : Nat), (walkF l o a).length ≤ 2 ^ o
  | 0, a => by unfold walkF; split; simp; split <;> simp
  | o + 1, a => by
    unfold walkF
    have h2p : 2 ^ (o + 1) = 2 ^ o * 2 := Nat.pow_succ 2 o
    have hp := Nat.one_le_two_pow (n := o)
    split
    · simp
    · split
      · simp; omega
      · have h1 := walkF_len (l := l) o a
        have h2 := walkF_len (l := l) o (a + 2 ^ o)
        rw [List.length_append]; omega
/-! ## Bools that are lent -/
structure Bls (w : World) (s : Sl) (l : List Bool) : Prop where
  len : s.len = l.length
  cap : s.len ≤ s.cap
  row : RowAt w s.a s.len (bools l)
  small : l.length ≤ 1099511627776
theorem Bls.ext {w w' : World} {s : Sl} {l : List Bool} (h : Bls w s l) (e : Ext w w') : Bls w' s l := ⟨h.len, h.cap, e.row h.row, h.small⟩
theorem Bls.at {w : World} {s : Sl} {l : List Bool} (h : Bls w s l) {i : Nat} (h1 : i < l.length) : ∃ p, s.a = some p ∧ w.cell? (p.add (i * 1)) = some (.bool (l.getD i false)) := by
  obtain ⟨p, hp, hc⟩ := h.row.cell (bools_get h1)
  exact ⟨p, hp, by rw [Nat.mul_one]; exact hc⟩
theorem bls_blk {w : World} {b : Nat} {l : List Bool} (h : Blk w b (bools l)) (hs : l.length ≤ 1099511627776) : Bls w ⟨some ⟨b, 0, none⟩, l.length, l.length⟩ l := ⟨rfl, Nat.le_refl _, row_of_blk h (bools_len l), hs⟩
theorem Bls.cut {w : World} {s : Sl} {l : List Bool} (h : Bls w s l) {a n : Nat} (hn : 0 < n) (ha : a + n ≤ l.length) : Bls w ⟨cutA s.a s.cap a 1, n, s.cap - a⟩ ((l.drop a).take n) := by
  have hl := h.len
  have hc := h.cap
  have hsm := h.small
  refine ⟨by simp; omega, by show n ≤ s.cap - a; omega, ?_, by simp; omega⟩
  obtain ⟨p, hp, hcell⟩ := h.row.2 (by omega)
  refine ⟨by rw [bools_len]; simp; omega, fun _ => ⟨p.add (a * 1), ?_, fun j v hj => ?_⟩⟩
  · show cutA s.a s.cap a 1 = _
    unfold cutA
    rw [hp, if_neg (by omega)]
    rfl
  · rw [add_add, Nat.mul_one]
    refine hcell _ v ?_
    unfold bools at hj ⊢
    rw [List.map_take, List.map_drop, List.getElem?_take] at hj
    split at hj
    · rw [List.getElem?_drop] at hj; exact hj
    · cases hj
/-! ## The reference's side -/
theorem c182 {s : Sl} {l : List Bool} {a n : Nat} {w : World} (h : Bls w s l) (ha : a ≤ 1099511627776) (hn : n ≤ 1099511627776) : CallW Try.prog 182 #[.slice s.a s.len s.cap, .int .i64 (a : Int), .int .i64 (n : Int)] w (fun v w' => v = .bool (decide (wholeP l a n)) ∧ w' = w) := by
  refine go182 ?_
  unfold W182
  have hl := h.len
  have hs := h.small
  rw [w64 (n := (a : Int) + (n : Int)) (by omega) (by omega)]
  refine BIf.dec (fun hgt => ⟨by rw [decide_eq_false (fun hh => by have := hh.1; omega)], rfl⟩) (fun hle => ?_)
  refine LoopW.m1 (fun (i : Int) w' => ∃ k : Nat, i = k ∧ k ≤ n ∧ (∀ j, j < k → l.getD (a + j) false = true) ∧ w' = w) (fun (i : Int) _ => ((n : Int) - i).toNat) ⟨0, rfl, by omega, fun j hj => absurd hj (Nat.not_lt_zero _), rfl⟩ ?_
  rintro (i : Int) w ⟨k, rfl, hk, hall, rfl⟩ J hJ
  refine BIf.dec (fun hlt => ?_) (fun hge => ⟨by rw [decide_eq_true ⟨by omega, fun j hj => hall j (by omega)⟩], rfl⟩)
  have hidx : IntKind.i64.wrap ((a : Int) + (k : Int)) = ((a + k : Nat) : Int) := by rw [w64 (by omega) (by omega)]; omega
  rw [hidx, Int.toNat_natCast]
  obtain ⟨p, hp, hc⟩ := h.at (i := a + k) (by omega)
  refine ⟨by omega, by omega, p, hp, _, hc, BIf.of (fun hb => ?_) (fun hb => ?_)⟩
  · have hb : l.getD (a + k) false = false := by simpa using hb
    exact ⟨by rw [decide_eq_false (fun hh => by rw [hh.2 k (by omega)] at hb; cases hb)], rfl⟩
  · have hb : l.getD (a + k) false = true := by simpa using hb
    rw [w64 (by omega) (by omega)]
    refine hJ _ _ ⟨k + 1, by omega, by omega, fun j hj => ?_, rfl⟩ (by omega)
    by_cases hjk : j = k
    · rw [hjk]; exact hb
    · exact hall j (by omega)
def FrV (T : Int) (fr : List DBlock) (w : World) (v : Value) (w' : World) : Prop := ∃ t : Sl, v = .agg #[.int .i64 T, .slice t.a t.len t.cap] ∧ OwnS w' w.heap.size t 2 (fr.flatMap DBlock.cells) ∧ Ext w w'
theorem pw_nat (n : Nat) : pw (n : Int) = ((2 ^ n : Nat) : Int) := by unfold pw; rw [Int.toNat_natCast]
theorem ordF_le (l : List Bool) (a : Nat) : ∀ f o, o ≤ 10 → ordF l a f o ≤ 10
  | 0, o, h => h
  | f + 1, o, h => by unfold ordF; split; exact ordF_le l a f (o + 1) (by omega); exact h
theorem listF_len (l : List Bool) (a : Nat) : (listF l a).length ≤ l.length - a := by
  rw [listF]
  split
  · split
    · have := listF_len l (a + 2 ^ ordF l a 10 0)
      have hp := Nat.one_le_two_pow (n := ordF l a 10 0)
      rw [List.length_cons]; omega
    · have := listF_len l (a + 1); omega
  · simp
termination_by l.length - a
decreasing_by
  all_goals have := Nat.one_le_two_pow (n := ordF l a 10 0); omega
theorem Bls.only {S : Nat → Prop} {w w' : World} {s : Sl} {l : List Bool} (h : Bls w s l) (o : Only S w w') (hS : ∀ p, s.a = some p → p.block < w.heap.size → ¬ S p.block) : Bls w' s l := by
  refine ⟨h.len, h.cap, ⟨h.row.1, fun hn => ?_⟩, h.small⟩
  obtain ⟨p, hp, hc⟩ := h.row.2 hn
  refine ⟨p, hp, fun j v hj => ?_⟩
  have hcj := hc j v hj
  refine Only.cell o hcj ?_
  rw [add_block]
  refine hS p hp ?_
  have hlt : (p.add j).block < w.heap.size := by
    unfold World.cell? at hcj
    rcases hb : w.heap[(p.add j).block]? with _ | o
    · rw [hb] at hcj; exact absurd hcj (by simp)
    · exact (Array.getElem?_eq_some_iff.1 hb).1
  rwa [add_block] at hlt
theorem c143 {s : Sl} {l : List Bool} {w : World} (h : Bls w s l) (hl1024 : l.length ≤ 1024) : CallW Try.prog 143 #[.slice s.a s.len s.cap] w (FrV l.length (listF l 0) w) := by
  refine go143 ?_
  unfold W143
  have hl := h.len
  rw [hl]
  refine alloc_step (fun w1 e1 hr n1 => ?_)
  refine alloc_step (fun w2 e2 _ n2 => ?_)
  refine alloc_step (fun w3 e3 hf n3 => put_step hf rfl rfl (fun w4 o4 hf n4 => ?_))
  have e24 : Ext w2 w4 := Ext.own e3 o4 (fun k hk => by omega)
  have e4 : Ext w w4 := Only.trans e1 (Only.trans e2 e24)
  have hr4 := hr.ext (Only.trans e2 e24)
  refine LoopW.m1 (fun (i : Int) w' => ∃ (a : Nat) (out : List DBlock) (t : Sl), i = a ∧ out.length ≤ a ∧ a ≤ 3000 ∧ out ++ listF l a = listF l 0 ∧ Ext w w' ∧ w4.heap.size ≤ w'.heap.size ∧ Blk w' w.heap.size [.int .i64 0, .slice none 0 0] ∧ Blk w' w2.heap.size [.int .i64 (l.length : Int), .slice t.a t.len t.cap] ∧ OwnS w' w4.heap.size t 2 (out.flatMap DBlock.cells)) (fun (i : Int) _ => ((l.length : Int) - i).toNat)
    ⟨0, [], ⟨some ⟨w1.heap.size, 0, none⟩, 0, 0⟩, rfl, by simp, by omega, rfl, e4, Nat.le_refl _, hr4, hf, OwnS.none _ _ _ _⟩ ?_
  rintro (i : Int) w7 ⟨a, out, t, rfl, hol, ha3, hls, e7, z7, hr7, hf7, own7⟩ J hJ
  have h7 := h.ext e7
  refine BIf.dec (fun hlt => ?_) (fun hge => ?_)
  · rw [Int.toNat_natCast]
    obtain ⟨p, hp, hc⟩ := h7.at (i := a) (by omega)
    refine ⟨by omega, by omega, p, hp, _, hc, BIf.of (fun hb => ?_) (fun hb => ?_)⟩
    · have hb : ¬ (l.getD a false = true) := by simpa using hb
      rw [w64 (by omega) (by omega)]
      rw [listF, if_pos (by omega), if_neg hb] at hls
      exact hJ _ _ ⟨a + 1, out, t, by omega, by omega, by omega, hls, e7, z7, hr7, hf7, own7⟩ (by omega)
    · have hb : l.getD a false = true := by simpa using hb
      rw [listF, if_pos (by omega), if_pos hb] at hls
      generalize hO : ordF l a 10 0 = O at *
      refine LoopW.m1 (fun (i : Int) w' => ∃ o : Nat, i = o ∧ o ≤ 10 ∧ ordF l a (10 - o) o = O ∧ w' = w7) (fun (i : Int) _ => (10 - i).toNat) ⟨0, rfl, by omega, hO, rfl⟩ ?_
      rintro (i : Int) w7 ⟨o, rfl, ho, hoF, rfl⟩ J2 hJ2
      have hp1 : 2 ^ (o + 1) ≤ 2 ^ 11 := pow_le (by omega)
      have hp2 : 1 ≤ 2 ^ (o + 1) := Nat.one_le_two_pow
      have hp3 : (2 : Nat) ^ 11 = 2048 := by decide
      have hw1 : IntKind.i64.wrap ((o : Int) + 1) = ((o + 1 : Nat) : Int) := by rw [w64 (by omega) (by omega)]; omega
      rw [hw1]
      refine JoinW.cut1 (fun (b : Bool) w' => (b = true ↔ o < 10 ∧ a % 2 ^ (o + 1) = 0) ∧ w' = w7) ?_ ?_
      · refine BIf.dec (fun h1 => (c176 (by omega) (by omega)).mono ?_) (fun h1 => ⟨⟨(fun h => nomatch h), fun hh => by omega⟩, rfl⟩)
        rintro _ w7 ⟨rfl, rfl⟩
        refine ⟨_, rfl, by rw [pw_nat]; omega, ?_, rfl⟩
        rw [pw_nat, Int.tmod_eq_emod_of_nonneg (by omega), beq_iff_eq]
        constructor
        · intro hh; exact ⟨by omega, by omega⟩
        · intro hh; have := hh.2; omega
      rintro (b : Bool) w7 ⟨hb1, rfl⟩
      refine JoinW.cut1 (fun (b : Bool) w' => (b = true ↔ o < 10 ∧ a % 2 ^ (o + 1) = 0 ∧ wholeP l a (2 ^ (o + 1))) ∧ w' = w7) ?_ ?_
      · refine BIf.of (fun h1 => (c176 (by omega) (by omega)).mono ?_) (fun h1 => ⟨⟨(fun h => nomatch h), fun hh => by rw [hb1.2 ⟨hh.1, hh.2.1⟩] at h1; cases h1⟩, rfl⟩)
        rintro _ w7 ⟨rfl, rfl⟩
        refine ⟨_, rfl, ?_⟩
        rw [pw_nat]
        have h7w := c182 (a := a) (n := 2 ^ (o + 1)) h7 (by omega) (by omega)
        rw [hl] at h7w
        refine h7w.mono ?_
        rintro _ w7 ⟨rfl, rfl⟩
        refine ⟨_, rfl, ?_, rfl⟩
        rw [decide_eq_true_eq]
        exact ⟨fun hh => ⟨(hb1.1 h1).1, (hb1.1 h1).2, hh⟩, fun hh => hh.2.2⟩
      clear hb1 b
      rintro (b : Bool) w7 ⟨hb2, rfl⟩
      refine BIf.of (fun hbt => ?_) (fun hbf => ?_)
      · have hh := hb2.1 hbt
        obtain ⟨f, hf10⟩ : ∃ f, 10 - o = f + 1 := ⟨10 - o - 1, by omega⟩
        rw [hf10] at hoF
        unfold ordF at hoF
        rw [if_pos hh] at hoF
        exact hJ2 _ _ ⟨o + 1, by omega, by omega, by rw [show 10 - (o + 1) = f by omega]; exact hoF, rfl⟩ (by omega)
      · have hoO : o = O := by
          rw [← hoF]
          cases hf10 : 10 - o with
          | zero => rfl
          | succ f => unfold ordF; rw [if_neg (fun hh => by rw [hb2.2 hh] at hbf; cases hbf)]
        subst hoO
        have hpo1 : 2 ^ o ≤ 2 ^ 10 := pow_le (by omega)
        have hpo2 : 1 ≤ 2 ^ o := Nat.one_le_two_pow
        have hpo3 : (2 : Nat) ^ 10 = 1024 := by decide
        have hll := own7.len
        rw [blocks_len] at hll
        refine ⟨t, hf7.cell 1, LetW_iff.2 ?_⟩
        refine AppendW.one (b0 := w4.heap.size) (z := 2) (x := [.int .i64 (a : Int), .int .i64 (o : Int)]) own7 z7 rfl rfl rfl (by decide) (by show (t.len + 1) * 16 ≤ _; omega) (fun v hv => by simp only [List.mem_cons, List.not_mem_nil, or_false] at hv; rcases hv with rfl | rfl <;> rfl) (fun s' w22 h1 h2 h3 h4 => ?_)
        have e22 : Ext w w22 := e7.own h3 (fun i hi => by have := hi.1; have := e4.size; omega)
        have z22 := h3.size
        have hf22 := hf7.only h3 (fun hh => by have := hh.1; have := e24.size; omega)
        have hr22 := hr7.only h3 (fun hh => by have := hh.1; have := e4.size; omega)
        refine set_step hf22 (by simp) (fun w23 o23 hf23 n23 => ?_)
        have e23 : Ext w w23 := e22.own o23 (fun i hi => by omega)
        have hr23 := hr22.only o23 (by omega)
        have own23 := h2.only o23 (fun b _ hb0 _ hbb => by have := e24.size; omega)
        refine (c176 (by omega) (by omega)).mono ?_
        rintro _ w23 ⟨rfl, rfl⟩
        refine ⟨_, rfl, ?_⟩
        rw [pw_nat, w64 (by omega) (by omega)]
        refine hJ _ _ ⟨a + 2 ^ o, out ++ [⟨a, o⟩], s', by omega, by rw [List.length_append, List.length_singleton]; omega, by omega, by rw [List.append_assoc]; exact hls, e23, by omega, hr23, hf23, ?_⟩ (by omega)
        rw [List.flatMap_append]
        exact own23
  · rw [listF_end (by omega), List.append_nil] at hls
    subst hls
    refine ⟨_, hf7.cell 0, t, hf7.cell 1, put_step hr7 rfl rfl (fun w38 o38 hr38 n38 => ?_)⟩
    have z4 := e4.size
    have own38 := own7.only o38 (fun b _ hb0 _ hbb => by omega)
    exact ⟨_, hr38.cell 0, t, hr38.cell 1, t, rfl, own38.mono z4, e7.own o38 (fun i hi => by omega)⟩
/-! ## The program's side -/
theorem c199 {s : Sl} {l : List Bool} {w : World} (h : Bls w s l) : CallW Try.prog 199 #[.slice s.a s.len s.cap, .bool false] w (fun v w' => ∃ i : Int, v = .int .i64 i ∧ (i < 0 ↔ ∀ k, k < l.length → l.getD k false = true) ∧ w' = w) := by
  refine go199 ?_
  unfold W199
  have hl := h.len
  have hs := h.small
  rw [hl]
  refine LoopW.m1 (fun (i : Int) w' => ∃ k : Nat, i = k ∧ k ≤ l.length ∧ (∀ j, j < k → l.getD j false = true) ∧ w' = w) (fun (i : Int) _ => ((l.length : Int) - i).toNat) ⟨0, rfl, by omega, fun j hj => absurd hj (Nat.not_lt_zero _), rfl⟩ ?_
  rintro (i : Int) w ⟨k, rfl, hk, hall, rfl⟩ J hJ
  refine BIf.dec (fun hlt => ?_) (fun hge => ⟨_, rfl, ⟨fun _ j hj => hall j (by omega), fun _ => by omega⟩, rfl⟩)
  rw [Int.toNat_natCast]
  obtain ⟨p, hp, hc⟩ := h.at (i := k) (by omega)
  refine ⟨by omega, by omega, p, hp, _, hc, BIf.of (fun hb => ?_) (fun hb => ?_)⟩
  · have hb : l.getD k false = false := (eq_of_beq hb).symm
    exact ⟨_, rfl, ⟨fun hh => by omega, fun hh => by rw [hh k (by omega)] at hb; cases hb⟩, rfl⟩
  · have hb : l.getD k false = true := by
      cases hx : l.getD k false with
      | true => rfl
      | false => rw [hx] at hb; cases hb
    rw [w64 (by omega) (by omega)]
    refine hJ _ _ ⟨k + 1, by omega, by omega, fun j hj => ?_, rfl⟩ (by omega)
    by_cases hjk : j = k
    · rw [hjk]; exact hb
    · exact hall j (by omega)
theorem c185 {s : Sl} {l : List Bool} {w : World} (h : Bls w s l) : CallW Try.prog 185 #[.slice s.a s.len s.cap, .bool false] w (fun v w' => ∃ b, v = .bool b ∧ (b = false ↔ ∀ k, k < l.length → l.getD k false = true) ∧ w' = w) := by
  refine go185 ?_
  unfold W185
  refine (c199 h).mono ?_
  rintro _ w ⟨i, rfl, hiff, rfl⟩
  refine ⟨i, rfl, _, rfl, ?_, rfl⟩
  rw [← hiff, decide_eq_false_iff_not]; omega
structure WCtx (w : World) (bF bM bW b0 : Nat) (s : Sl) (l : List Bool) : Prop where
  m : Blk w bM [.slice s.a s.len s.cap]
  bl : Bls w s l
  fn : Blk w bW [.func (.func 184) ⟨[]⟩ ⟨[.pointer (some ⟨bF, 0, none⟩), .pointer (some ⟨bM, 0, none⟩), .pointer (some ⟨bW, 0, none⟩)]⟩]
  mo : ∀ p, s.a = some p → 0 < l.length → p.block ≠ bF
  nm : bM ≠ bF ∧ bM < b0
  nw : bW ≠ bF ∧ bW < b0
  nf : bF < b0
  bsz : b0 ≤ w.heap.size
  old : ∀ p, s.a = some p → 0 < l.length → p.block < b0
theorem WCtx.only {w w' : World} {bF bM bW b0 : Nat} {s : Sl} {l : List Bool} (h : WCtx w bF bM bW b0 s l) (o : Only (fun k => k = bF ∨ b0 ≤ k) w w') : WCtx w' bF bM bW b0 s l := by
  have hn := h.nm
  have hw := h.nw
  refine ⟨h.m.only o (by omega), ?_, h.fn.only o (by omega), h.mo, h.nm, h.nw, h.nf, Nat.le_trans h.bsz o.size, h.old⟩
  by_cases h0 : 0 < l.length
  · exact h.bl.only o (fun p hp _ hh => by
      have := h.old p hp h0
      have := h.mo p hp h0
      omega)
  · refine ⟨h.bl.len, h.bl.cap, ⟨h.bl.row.1, fun hn => ?_⟩, h.bl.small⟩
    have := h.bl.len; omega
def WV (bF b0 : Nat) (T : Int) (out : List DBlock) (w : World) (v : Value) (w' : World) : Prop := v = .tuple #[] ∧ Only (fun k => k = bF ∨ b0 ≤ k) w w' ∧ ∃ t : Sl, Blk w' bF [.int .i64 T, .slice t.a t.len t.cap] ∧ OwnS w' b0 t 2 (out.flatMap DBlock.cells)
def wPtrs (bF bM bW : Nat) : List Value := [.pointer (some ⟨bF, 0, none⟩), .pointer (some ⟨bM, 0, none⟩), .pointer (some ⟨bW, 0, none⟩)]
theorem walkF_eq (l : List Bool) (o a : Nat) : walkF l o a = if l.length ≤ a then [] else if wholeP l a (2 ^ o) then [⟨a, (o : Int)⟩] else match o with | 0 => [] | o' + 1 => walkF l o' a ++ walkF l o' (a + 2 ^ o') := by
  cases o <;> rfl
theorem getD_cut {l : List Bool} {a n k : Nat} (hk : k < n) : ((l.drop a).take n).getD k false = l.getD (a + k) false := by
  simp only [List.getD_eq_getElem?_getD, List.getElem?_take, List.getElem?_drop]
  rw [if_pos hk]
theorem c184s {bF bM bW b0 : Nat} {s : Sl} {l : List Bool} (hl1024 : l.length ≤ 1024) {o : Nat} (ho : o ≤ 10)
    (hrec : o = 0 ∨ ∃ o', o = o' + 1 ∧ ∀ {a : Nat} {out : List DBlock} {t : Sl} {w : World}, a ≤ 4096 → WCtx w bF bM bW b0 s l → Blk w bF [.int .i64 (l.length : Int), .slice t.a t.len t.cap] → OwnS w b0 t 2 (out.flatMap DBlock.cells) → out.length + 2 ^ o' ≤ 4096 →
      CallW Try.prog 184 ⟨[.int .i64 (a : Int), .int .i64 (o' : Int)] ++ wPtrs bF bM bW⟩ w (WV bF b0 l.length (out ++ walkF l o' a) w))
    {a : Nat} {out : List DBlock} {t : Sl} {w : World} (ha : a ≤ 4096) (h : WCtx w bF bM bW b0 s l) (hF : Blk w bF [.int .i64 (l.length : Int), .slice t.a t.len t.cap]) (own : OwnS w b0 t 2 (out.flatMap DBlock.cells)) (hol : out.length + 2 ^ o ≤ 4096) :
    CallW Try.prog 184 ⟨[.int .i64 (a : Int), .int .i64 (o : Int)] ++ wPtrs bF bM bW⟩ w (WV bF b0 l.length (out ++ walkF l o a) w) := by
  refine go184 (a0 := (a : Int)) (a1 := (o : Int)) (c0 := ⟨bF, 0, none⟩) (c1 := ⟨bM, 0, none⟩) (c2 := ⟨bW, 0, none⟩) ?_
  unfold W184
  have hp1 : 2 ^ o ≤ 2 ^ 10 := pow_le ho
  have hp2 : 1 ≤ 2 ^ o := Nat.one_le_two_pow
  have hp3 : (2 : Nat) ^ 10 = 1024 := by decide
  have hbl := h.bl.len
  have hcap := h.bl.cap
  have hwe := walkF_eq l o a
  refine ⟨by omega, _, hF.cell 0, BIf.dec (fun hge => ?_) (fun hlt => ?_)⟩
  · rw [if_pos (by omega)] at hwe
    rw [hwe, List.append_nil]
    exact ⟨rfl, Only.refl _ _, t, hF, own⟩
  rw [if_neg (by omega)] at hwe
  refine ⟨_, hF.cell 0, ?_⟩
  rw [shl_pw (by omega) (by omega), pw_nat]
  have hsum : IntKind.i64.wrap ((a : Int) + ((2 ^ o : Nat) : Int)) = ((a + 2 ^ o : Nat) : Int) := by rw [w64 (by omega) (by omega)]; omega
  rw [hsum]
  refine JoinW.cut1 (fun (b : Bool) w' => (b = true ↔ wholeP l a (2 ^ o)) ∧ w' = w) ?_ ?_
  · refine BIf.dec (fun h1 => ⟨s, h.m.cell 0, by omega, by omega, by omega, by omega, ?_⟩) (fun h1 => ⟨⟨(fun hh => nomatch hh), fun hh => by have := hh.1; omega⟩, rfl⟩)
    rw [Int.toNat_natCast, Int.toNat_natCast, show a + 2 ^ o - a = 2 ^ o by omega]
    refine (c185 (h.bl.cut (a := a) (n := 2 ^ o) (by omega) (by omega))).mono ?_
    rintro _ w ⟨b, rfl, hiff, rfl⟩
    refine ⟨b, rfl, ?_, rfl⟩
    have hlen : ((l.drop a).take (2 ^ o)).length = 2 ^ o := by simp; omega
    rw [hlen] at hiff
    rw [Bool.not_eq_true', hiff]
    exact ⟨fun hh => ⟨by omega, fun i hi => by rw [← getD_cut hi]; exact hh i hi⟩, fun hh k hk => by rw [getD_cut hk]; exact hh.2 k hk⟩
  rintro (b : Bool) w ⟨hiff, rfl⟩
  have hnf := h.nf
  have hbsz := h.bsz
  refine BIf.of (fun hbt => ?_) (fun hbf => ?_)
  · rw [if_pos (hiff.1 hbt)] at hwe
    have hll := own.len
    rw [blocks_len] at hll
    refine ⟨t, hF.cell 1, LetW_iff.2 ?_⟩
    refine AppendW.one (b0 := b0) (z := 2) (x := [.int .i64 (a : Int), .int .i64 (o : Int)]) own hbsz rfl rfl rfl (by decide) (by show (t.len + 1) * 16 ≤ _; omega) (fun v hv => by simp only [List.mem_cons, List.not_mem_nil, or_false] at hv; rcases hv with rfl | rfl <;> rfl) (fun s' w9 h1 h2 h3 h4 => ?_)
    have hF9 := hF.only h3 (fun hh => by have := hh.1; omega)
    refine set_step (i := 1) hF9 (by simp) (fun w10 o10 hF10 n10 => ?_)
    refine ⟨rfl, Only.step (h3.mono (fun i _ hi => .inr hi.1)) o10 (fun i _ hi => .inl hi), s', hF10, ?_⟩
    rw [hwe, List.flatMap_append]
    exact h2.only o10 (fun b _ hb0 _ hbb => by have hbb : b = bF := hbb; omega)
  · rw [if_neg (fun hh => by rw [hiff.2 hh] at hbf; cases hbf)] at hwe
    rcases hrec with rfl | ⟨o', rfl, hrec⟩
    · refine BIf.t rfl ⟨rfl, Only.refl _ _, t, hF, ?_⟩
      rw [hwe, List.append_nil]; exact own
    · have hpo : 2 ^ (o' + 1) = 2 ^ o' * 2 := Nat.pow_succ 2 o'
      have hpo1 : 1 ≤ 2 ^ o' := Nat.one_le_two_pow
      have ho1 : IntKind.i64.wrap (((o' + 1 : Nat) : Int) - 1) = (o' : Int) := by rw [w64 (by omega) (by omega)]; omega
      have hd : IntKind.i64.wrap ((a : Int) + IntKind.i64.wrap (Int.tdiv ((2 ^ (o' + 1) : Nat) : Int) 2)) = ((a + 2 ^ o' : Nat) : Int) := by
        rw [Int.tdiv_eq_ediv_of_nonneg (by omega), w64 (n := ((2 ^ (o' + 1) : Nat) : Int) / 2) (by omega) (by omega), w64 (by omega) (by omega)]; omega
      rw [ho1, hd]
      refine BIf.f (by simp; omega) ⟨⟨184, [], wPtrs bF bM bW⟩, h.fn.cell 0, ?_⟩
      refine CallW.mono (K := WV bF b0 l.length (out ++ walkF l o' a) w) (hrec ha h hF own (by omega)) ?_
      rintro _ w13 ⟨rfl, o13, t2, hF2, own2⟩
      have h13 := h.only o13
      have hwl := walkF_len (l := l) o' a
      refine ⟨rfl, ⟨184, [], wPtrs bF bM bW⟩, h13.fn.cell 0, by omega, ?_⟩
      refine CallW.mono (K := WV bF b0 l.length ((out ++ walkF l o' a) ++ walkF l o' (a + 2 ^ o')) w13) (hrec (by omega) h13 hF2 own2 (by rw [List.length_append]; omega)) ?_
      rintro _ w16 ⟨rfl, o16, t3, hF3, own3⟩
      refine ⟨rfl, rfl, o13.step o16 (fun i _ hi => hi), t3, hF3, ?_⟩
      rw [hwe, ← List.append_assoc]; exact own3
theorem c184 {bF bM bW b0 : Nat} {s : Sl} {l : List Bool} (hl1024 : l.length ≤ 1024) : ∀ (o : Nat), o ≤ 10 → ∀ {a : Nat} {out : List DBlock} {t : Sl} {w : World}, a ≤ 4096 → WCtx w bF bM bW b0 s l → Blk w bF [.int .i64 (l.length : Int), .slice t.a t.len t.cap] → OwnS w b0 t 2 (out.flatMap DBlock.cells) → out.length + 2 ^ o ≤ 4096 →
    CallW Try.prog 184 ⟨[.int .i64 (a : Int), .int .i64 (o : Int)] ++ wPtrs bF bM bW⟩ w (WV bF b0 l.length (out ++ walkF l o a) w)
  | 0, ho, _, _, _, _, ha, h, hF, own, hol => c184s hl1024 ho (.inl rfl) ha h hF own hol
  | o + 1, ho, _, _, _, _, ha, h, hF, own, hol => c184s hl1024 ho (.inr ⟨o, rfl, fun {a out t w} ha h hF own hol => c184 hl1024 o (by omega) ha h hF own hol⟩) ha h hF own hol
theorem Bls.old {w : World} {s : Sl} {l : List Bool} (h : Bls w s l) (h0 : 0 < l.length) {p : Addr} (hp : s.a = some p) : p.block < w.heap.size := by
  obtain ⟨q, hq, hc⟩ := h.row.cell (bools_get h0)
  rw [hp] at hq; cases hq
  unfold World.cell? at hc
  rw [add_zero] at hc
  rcases hb : w.heap[p.block]? with _ | o
  · rw [hb] at hc; exact absurd hc (by simp)
  · exact (Array.getElem?_eq_some_iff.1 hb).1
theorem c148 {s : Sl} {l : List Bool} {w : World} (h : Bls w s l) (hl1024 : l.length ≤ 1024) : CallW Try.prog 148 #[.slice s.a s.len s.cap] w (FrV l.length (listF l 0) w) := by
  refine go148 ?_
  unfold W148
  have hl := h.len
  refine alloc_step (fun w1 e1 hM n1 => ?_)
  refine alloc_step (fun w2 e2 hr n2 => ?_)
  have hM2 := hM.ext e2
  refine ⟨s, hM2.cell 0, ?_⟩
  rw [hl]
  refine alloc_step (fun w4 e4 hF n4 => put_step hF rfl rfl (fun w5 o5 hF n5 => ?_))
  have e25 : Ext w2 w5 := Ext.own e4 o5 (fun k hk => by omega)
  refine alloc_step (fun w6 e6 hW n6 => set_step hW (by simp) (fun w7 o7 hW n7 => ?_))
  have e57 : Ext w5 w7 := Ext.own e6 o7 (fun k hk => by omega)
  have e27 := Only.trans e25 e57
  have e7 : Ext w w7 := Only.trans e1 (Only.trans e2 e27)
  have z7 := e7.size
  have hctx : WCtx w7 w2.heap.size w.heap.size w5.heap.size w7.heap.size s l := ⟨hM2.ext e27, h.ext e7, hW, fun p hp h0 => by have := h.old h0 hp; omega, by omega, by omega, by omega, Nat.le_refl _, fun p hp h0 => by have := h.old h0 hp; omega⟩
  refine ⟨⟨184, [], wPtrs w2.heap.size w.heap.size w5.heap.size⟩, hW.cell 0, ?_⟩
  refine CallW.mono (K := WV w2.heap.size w7.heap.size l.length ([] ++ walkF l 10 0) w7) (c184 (a := 0) hl1024 10 (by omega) (by omega) hctx (hF.ext e57) (t := ⟨none, 0, 0⟩) (out := []) (OwnS.none _ _ _ _) (by decide)) ?_
  rintro _ w10 ⟨rfl, o10, t, hF10, own10⟩
  have hr10 := (hr.ext e27).only o10 (fun hh => by omega)
  refine ⟨rfl, _, hF10.cell 0, t, hF10.cell 1, put_step hr10 rfl rfl (fun w13 o13 hr13 n13 => ?_)⟩
  have z10 := o10.size
  have e10 : Ext w w10 := e7.own o10 (fun i hi => by omega)
  rw [List.nil_append, ← list_eq hl1024] at own10
  refine ⟨_, hr13.cell 0, t, hr13.cell 1, t, rfl, (own10.only o13 (fun b _ hb0 _ hbb => by omega)).mono z7, e10.own o13 (fun i hi => by omega)⟩
end Go.Proofs.Ytkgoanjemhbjgaa

/- Frames: one taken, on both sides. Conditions: none. -/
set_option linter.unusedVariables false
set_option linter.unusedSimpArgs false
namespace Go.Proofs.Ytkgoanjemhbjgaa
open Go Go.Den
def setV (b : Bool) (l : List Bool) (a : Nat) : Nat → List Bool
  | 0 => l
  | k + 1 => (setV b l a k).set (a + k) b
theorem setV_len (b : Bool) (l : List Bool) (a : Nat) : ∀ k, (setV b l a k).length = l.length
  | 0 => rfl
  | k + 1 => by unfold setV; rw [List.length_set, setV_len b l a k]
theorem c183 {q a n : Nat} {b : Bool} {l : List Bool} {w : World} (h : Blk w q (bools l)) (hn : a + n ≤ l.length) (hs : l.length ≤ 4096) : CallW Try.prog 183 #[.slice (some ⟨q, 0, none⟩) l.length l.length, .int .i64 (a : Int), .int .i64 (n : Int), .bool b] w (fun v w' => v = .tuple #[] ∧ Blk w' q (bools (setV b l a n)) ∧ Only (fun k => k = q) w w') := by
  refine CallW.mono (go183 (a0 := ⟨some ⟨q, 0, none⟩, l.length, l.length⟩) (K := fun v w' => v = .tuple #[] ∧ Blk w' q (bools (setV b l a n)) ∧ Only (fun k => k = q) w w') ?_) (fun _ _ h => h)
  unfold W183
  refine LoopW.m1 (fun (i : Int) w' => ∃ k : Nat, i = k ∧ k ≤ n ∧ Blk w' q (bools (setV b l a k)) ∧ Only (fun k => k = q) w w') (fun (i : Int) _ => ((n : Int) - i).toNat) ⟨0, rfl, by omega, h, Only.refl _ _⟩ ?_
  rintro (i : Int) w3 ⟨k, rfl, hk, h3, o3⟩ J hJ
  refine BIf.dec (fun hlt => ?_) (fun hge => ?_)
  · have hidx : IntKind.i64.wrap ((a : Int) + (k : Int)) = ((a + k : Nat) : Int) := by rw [w64 (by omega) (by omega)]; omega
    rw [hidx, Int.toNat_natCast]
    refine ⟨by omega, by show ((a + k : Nat) : Int) < ((l.length : Nat) : Int); omega, _, rfl, set1_step h3 (by rw [bools_len, setV_len]; omega) (fun w5 o5 h5 n5 => ?_)⟩
    rw [bools_set] at h5
    rw [w64 (by omega) (by omega)]
    exact hJ _ _ ⟨k + 1, by omega, by omega, h5, Only.trans o3 o5⟩ (by omega)
  · have : k = n := by omega
    subst this
    exact ⟨rfl, h3, o3⟩
theorem c162 {l : Sl} {T : Int} {fr : List DBlock} {w : World} (h : FrAt w l fr) : CallW Try.prog 162 #[.agg #[.int .i64 T, .slice l.a l.len l.cap]] w (FrV T fr w) := by
  refine go162 ?_
  unfold W162
  have hl := h.len
  have hs := h.few
  refine alloc_step (fun w1 e1 hb n1 => ?_)
  refine alloc_step (fun w2 e2 hz n2 => ?_)
  have hb := (hb.ext e2).ext (ext_drew w2)
  have hz := hz.ext (ext_drew w2)
  have e := Only.trans e1 (Only.trans e2 (ext_drew w2))
  have zd : w2.drew.heap.size = w2.heap.size := rfl
  generalize w2.drew = w2 at *
  refine ⟨_, hb.cell 0, l, hb.cell 1, ?_⟩
  refine alloc_step (fun w5 e5 _ n5 => ?_)
  have hb := hb.ext e5
  have hz := hz.ext e5
  have e := Only.trans e e5
  refine ⟨⟨l, hb.cell 1, rfl⟩, ⟨_, hb.cell 0, rfl⟩, ?_⟩
  refine AppendW.own (b0 := w5.heap.size) (z := 2) (os := []) (vs := fr.flatMap DBlock.cells) (OwnS.none _ _ _ _) ((h.ext e).row) rfl rfl (by decide) (by show (0 + l.len) * 16 ≤ _; omega) plain_blk (Nat.le_refl _) (fun s' w9 h1 h2 h3 h4 => ?_)
  have e9 : Ext w5 w9 := h3.mono (fun k hk hh => by have h5 := hh.1; omega)
  have hb := hb.ext e9
  have hz := hz.ext e9
  have e := Only.trans e e9
  have z9 := e9.size
  refine ⟨⟨_, hb.cell 0, rfl⟩, put_step hz rfl rfl (fun w11 o11 hz n11 => ?_)⟩
  have e := Ext.own e o11 (fun k hk => by omega)
  have h2 := h2.only o11 (fun b _ hb0 _ hbb => by omega)
  exact ⟨_, hz.cell 0, s', hz.cell 1, s', rfl, h2.mono (by omega), e⟩
/-! ## The best block -/
def ordAt (fr : List DBlock) (i : Int) : Int := match fr[i.toNat]? with | some y => y.Order | none => 0
def bestF (fr : List DBlock) (o : Int) : Nat → Int
  | 0 => -1
  | k + 1 => match fr[k]? with
    | none => bestF fr o k
    | some x => if o ≤ x.Order ∧ (bestF fr o k < 0 ∨ x.Order < ordAt fr (bestF fr o k)) then (k : Int) else bestF fr o k
theorem bestF_rng (fr : List DBlock) (o : Int) : ∀ k, -1 ≤ bestF fr o k ∧ bestF fr o k < k
  | 0 => by unfold bestF; omega
  | k + 1 => by
    have := bestF_rng fr o k
    unfold bestF
    split
    · omega
    · split <;> omega
theorem bestF_ord (fr : List DBlock) (o : Int) : ∀ k, bestF fr o k = -1 ∨ ∃ x, fr[(bestF fr o k).toNat]? = some x ∧ o ≤ x.Order
  | 0 => .inl rfl
  | k + 1 => by
    have := bestF_ord fr o k
    unfold bestF
    split
    · exact this
    · rename_i x hx
      split
      · rename_i h; exact .inr ⟨x, by rw [Int.toNat_natCast]; exact hx, h.1⟩
      · exact this
open Classical in
noncomputable def takeF (T : Int) (fr : List DBlock) (o : Int) : Int × List DBlock × Int :=
  if ¬ FOk T fr ∨ o < 0 ∨ 10 < o then (0, [], -1)
  else if bestF fr o fr.length < 0 then (T, fr, -1)
  else match fr[(bestF fr o fr.length).toNat]? with
    | none => (T, fr, -1)
    | some x => (T, listF (setV false (freeL T fr) x.At.toNat (2 ^ o.toNat)) 0, x.At)
def TkV (r : Int × List DBlock × Int) (w : World) (v : Value) (w' : World) : Prop := ∃ t : Sl, v = .tuple #[.agg #[.int .i64 r.1, .slice t.a t.len t.cap], .int .i64 r.2.2] ∧ OwnS w' w.heap.size t 2 (r.2.1.flatMap DBlock.cells) ∧ Ext w w'
theorem takeF_bad {T o : Int} {fr : List DBlock} (h : ¬ FOk T fr ∨ o < 0 ∨ 10 < o) : takeF T fr o = (0, [], -1) := by unfold takeF; rw [if_pos h]
theorem takeF_none {T o : Int} {fr : List DBlock} (h : ¬ (¬ FOk T fr ∨ o < 0 ∨ 10 < o)) (hb : bestF fr o fr.length < 0) : takeF T fr o = (T, fr, -1) := by unfold takeF; rw [if_neg h, if_pos hb]
theorem takeF_some {T o : Int} {fr : List DBlock} (h : ¬ (¬ FOk T fr ∨ o < 0 ∨ 10 < o)) {x : DBlock} (hb : 0 ≤ bestF fr o fr.length) (hx : fr[(bestF fr o fr.length).toNat]? = some x) : takeF T fr o = (T, listF (setV false (freeL T fr) x.At.toNat (2 ^ o.toNat)) 0, x.At) := by unfold takeF; rw [if_neg h, if_neg (by omega), hx]
theorem pow_mono_le {a b : Int} (h : a ≤ b) : pw a ≤ pw b := by
  unfold pw
  have : 2 ^ a.toNat ≤ 2 ^ b.toNat := pow_le (by omega)
  omega
theorem c144 {l : Sl} {T o : Int} {fr : List DBlock} {w : World} (h : FrAt w l fr) : CallW Try.prog 144 #[.agg #[.int .i64 T, .slice l.a l.len l.cap], .int .i64 o] w (TkV (takeF T fr o) w) := by
  refine go144 ?_
  unfold W144
  have hl := h.len
  have hfew := h.few
  refine alloc_step (fun w1 e1 hb n1 => ?_)
  refine alloc_step (fun w2 e2 hz n2 => ?_)
  have hb := hb.ext e2
  have e := Only.trans e1 e2
  refine ⟨_, hb.cell 0, l, hb.cell 1, (c160 (h.ext e)).mono ?_⟩
  rintro _ w6 ⟨b, rfl, hiff, e6⟩
  have hb := hb.ext e6
  have hz := hz.ext e6
  have e := Only.trans e e6
  have z6 := e6.size
  refine ⟨b, rfl, ?_⟩
  simp only [join_or]
  refine BIf.of (fun hbad => ?_) (fun hgood => ?_)
  · have hbd : ¬ FOk T fr ∨ o < 0 ∨ 10 < o := by
      simp only [Bool.or_eq_true, Bool.not_eq_true', decide_eq_true_eq] at hbad
      rcases hbad with (hb1 | hb1) | hb1
      · exact .inl (fun hf => by rw [hiff.2 hf] at hb1; cases hb1)
      · exact .inr (.inl hb1)
      · exact .inr (.inr hb1)
    refine put_step hz rfl rfl (fun w14 o14 hz n14 => ?_)
    refine ⟨_, hz.cell 0, ⟨none, 0, 0⟩, hz.cell 1, ?_⟩
    rw [takeF_bad hbd]
    exact ⟨⟨none, 0, 0⟩, rfl, OwnS.none _ _ _ _, Ext.own e o14 (fun k hk => by omega)⟩
  have hgd : ¬ (¬ FOk T fr ∨ o < 0 ∨ 10 < o) := by
    simp only [Bool.or_eq_false_iff, Bool.not_eq_false', decide_eq_false_iff_not] at hgood
    rintro (hh | hh | hh)
    · exact hh (hiff.1 hgood.1.1)
    · omega
    · omega
  have hok : FOk T fr := Classical.byContradiction (fun hn => hgd (.inl hn))
  refine LoopW.m2 (fun (best i : Int) w' => ∃ k : Nat, i = k ∧ k ≤ fr.length ∧ best = bestF fr o k ∧ Ext w6 w') (fun _ (i : Int) _ => ((fr.length : Int) - i).toNat) ⟨0, rfl, by omega, rfl, Only.refl _ _⟩ ?_
  rintro (best : Int) (i : Int) w20 ⟨k, rfl, hk, rfl, e20⟩ J hJ
  have hb20 := hb.ext e20
  have hz20 := hz.ext e20
  have ew20 := Only.trans e e20
  have z20 := e20.size
  have hr := bestF_rng fr o k
  refine ⟨l, hb20.cell 1, ?_⟩
  rw [hl]
  refine BIf.dec (fun hlt => ?_) (fun hge => ?_)
  · obtain ⟨x, hx⟩ : ∃ x, fr[k]? = some x := ⟨_, List.getElem?_eq_getElem (by omega)⟩
    have hst : bestF fr o (k + 1) = if o ≤ x.Order ∧ (bestF fr o k < 0 ∨ x.Order < ordAt fr (bestF fr o k)) then (k : Int) else bestF fr o k := by
      rw [bestF, hx]; try rfl
    have ed := ext_drew w20
    refine JoinW.cut1 (fun (b : Bool) w' => (b = true ↔ o ≤ x.Order ∧ (bestF fr o k < 0 ∨ x.Order < ordAt fr (bestF fr o k))) ∧ Ext w20 w') ?_ ?_
    · generalize w20.drew = w21 at *
      have hb21 := hb20.ext ed
      have h21 := h.ext (Only.trans ew20 ed)
      obtain ⟨p, hp, hc0, hc1⟩ := h21.get hx
      refine ⟨l, hb21.cell 1, by omega, by omega, p, hp, _, hc1, ?_⟩
      refine BIf.dec (fun h1 => BIf.dec (fun h2 => ⟨⟨fun _ => ⟨h1, .inl h2⟩, fun _ => rfl⟩, ed⟩) (fun h2 => ?_)) (fun h1 => ⟨⟨(fun hh => nomatch hh), fun hh => absurd hh.1 h1⟩, ed⟩)
      obtain ⟨y, hy⟩ : ∃ y, fr[(bestF fr o k).toNat]? = some y := ⟨_, List.getElem?_eq_getElem (by omega)⟩
      have hoy : ordAt fr (bestF fr o k) = y.Order := by unfold ordAt; rw [hy]
      obtain ⟨q, hq, hd0, hd1⟩ := h21.get hy
      rw [hoy]
      refine ⟨l, hb21.cell 1, by omega, by omega, p, hp, _, hc1, l, hb21.cell 1, by omega, by omega, q, hq, _, hd1, ?_, ed⟩
      rw [decide_eq_true_eq]
      exact ⟨fun hh => ⟨h1, .inr hh⟩, fun hh => by rcases hh.2 with hh | hh; exact absurd hh h2; exact hh⟩
    rintro (b : Bool) w24 ⟨hb24, e24⟩
    rw [w64 (by omega) (by omega)]
    refine BIf.of (fun hbt => ?_) (fun hbf => ?_)
    · exact hJ _ _ _ ⟨k + 1, by omega, by omega, by rw [hst, if_pos (hb24.1 hbt)], Only.trans e20 e24⟩ (by omega)
    · exact hJ _ _ _ ⟨k + 1, by omega, by omega, by rw [hst, if_neg (fun hh => by rw [hb24.2 hh] at hbf; cases hbf)], Only.trans e20 e24⟩ (by omega)
  · have hkl : k = fr.length := by omega
    subst hkl
    refine BIf.dec (fun hneg => ?_) (fun hpos => ?_)
    · rw [takeF_none hgd hneg]
      refine ⟨_, hb20.cell 0, l, hb20.cell 1, (c162 (h.ext ew20)).mono ?_⟩
      rintro _ w37 ⟨t, rfl, own, e37⟩
      have hz37 := hz20.ext e37
      have z37 := e37.size
      refine ⟨_, t, rfl, put_step hz37 rfl rfl (fun w40 o40 hz40 n40 => ?_)⟩
      have own40 := own.only o40 (fun b _ hb0 _ hbb => by omega)
      exact ⟨_, hz40.cell 0, t, hz40.cell 1, t, rfl, own40.mono (by omega), Ext.own (Only.trans ew20 e37) o40 (fun k hk => by omega)⟩
    · obtain ⟨x, hx⟩ : ∃ x, fr[(bestF fr o fr.length).toNat]? = some x := ⟨_, List.getElem?_eq_getElem (by omega)⟩
      rw [takeF_some hgd (by omega) hx]
      have hbo := blkOk_out (hok.2.2 _ x hx).1
      have hox : o ≤ x.Order := by
        rcases bestF_ord fr o fr.length with hh | ⟨y, hy, hyo⟩
        · omega
        · rw [hx] at hy; cases hy; exact hyo
      have hT0 := hok.1
      have hT1 := hok.2.1
      have ho0 : 0 ≤ o := by omega
      have hpo := pw_rng (o := o) (by omega)
      have hpm := pow_mono_le hox
      have hpn : pw o = ((2 ^ o.toNat : Nat) : Int) := rfl
      refine ⟨_, hb20.cell 0, l, hb20.cell 1, (c153 (h.ext ew20) hok).mono ?_⟩
      rintro _ w46 ⟨bf, rfl, hbf0, hbf, e46⟩
      have z46 := e46.size
      have e46d := Only.trans e46 (ext_drew w46)
      have hb46 := hb20.ext e46d
      have hz46 := hz20.ext e46d
      have hbf46 := hbf.ext (ext_drew w46)
      have zd : w46.drew.heap.size = w46.heap.size := rfl
      generalize w46.drew = w47 at *
      have h47 := h.ext (Only.trans ew20 e46d)
      obtain ⟨p, hp, hc0, hc1⟩ := h47.get hx
      refine ⟨⟨some ⟨bf, 0, none⟩, T.toNat, T.toNat⟩, rfl, l, hb46.cell 1, by omega, by omega, p, hp, _, hc0, (c176 ho0 (by omega)).mono ?_⟩
      rintro _ w47 ⟨rfl, rfl⟩
      refine ⟨_, rfl, ⟨_, hc0, rfl⟩, ⟨l, hb46.cell 1, rfl⟩, ?_⟩
      have hfl := freeL_len T fr
      have hmk := c183 (a := x.At.toNat) (n := 2 ^ o.toNat) (b := false) hbf46 (by omega) (by omega)
      rw [hfl, show ((x.At.toNat : Nat) : Int) = x.At by omega] at hmk
      refine hmk.mono ?_
      rintro _ w57 ⟨rfl, hbf57, o57⟩
      have eb57 : Ext w20 w57 := Ext.own e46d o57 (fun k hk => by omega)
      have e57d := Only.trans eb57 (ext_drew w57)
      have hb57 := hb20.ext e57d
      have hz57 := hz20.ext e57d
      have hbf57 := hbf57.ext (ext_drew w57)
      have zd2 : w57.drew.heap.size = w57.heap.size := rfl
      generalize w57.drew = w58 at *
      have h58 := h.ext (Only.trans ew20 e57d)
      obtain ⟨p2, hp2, hd0, hd1⟩ := h58.get hx
      rw [hp] at hp2; cases hp2
      refine ⟨rfl, l, hb57.cell 1, by omega, by omega, p, hp, _, hd0, ?_⟩
      have hlen2 : (setV false (freeL T fr) x.At.toNat (2 ^ o.toNat)).length = T.toNat := by rw [setV_len, hfl]
      have hls := c143 (bls_blk hbf57 (by omega)) (by omega)
      rw [hlen2] at hls
      refine hls.mono ?_
      rintro _ w62 ⟨t, rfl, own62, e62⟩
      have hb62 := hb57.ext e62
      have hz62 := hz57.ext e62
      have z57 := e57d.size
      have z62 := e62.size
      refine ⟨_, t, rfl, ⟨_, e62.cell hd0, rfl⟩, ⟨l, hb62.cell 1, rfl⟩, put_step hz62 rfl rfl (fun w67 o67 hz67 n67 => ?_)⟩
      have hb67 := hb62.only o67 (by omega)
      have e67 : Ext w w67 := Ext.own (Only.trans ew20 (Only.trans e57d e62)) o67 (fun k hk => by omega)
      obtain ⟨p3, hp3, hf0, hf1⟩ := (h.ext e67).get hx
      rw [hp] at hp3; cases hp3
      have own67 := own62.only o67 (fun b _ hb0 _ hbb => by omega)
      refine ⟨⟨_, hf0, rfl⟩, ⟨l, hb67.cell 1, rfl⟩, _, hz67.cell 0, t, hz67.cell 1, t, ?_, own67.mono (by omega), e67⟩
      rw [show ((T.toNat : Nat) : Int) = T by omega]
end Go.Proofs.Ytkgoanjemhbjgaa

/- Frames: one taken, on the program's side; pools: a frame taken and cleared. Conditions: none. -/
set_option linter.unusedVariables false
set_option linter.unusedSimpArgs false
namespace Go.Proofs.Ytkgoanjemhbjgaa
open Go Go.Den
theorem c83 {l : Sl} {T o : Int} {fr : List DBlock} {w : World} (h : FrAt w l fr) : CallW Try.prog 83 #[.agg #[.int .i64 T, .slice l.a l.len l.cap], .int .i64 o] w (TkV (takeF T fr o) w) := by
  refine go83 ?_
  unfold W83
  have hl := h.len
  have hfew := h.few
  refine alloc_step (fun w1 e1 hb n1 => ?_)
  refine alloc_step (fun w2 e2 hz n2 => ?_)
  have hb := hb.ext e2
  have e := Only.trans e1 e2
  refine ⟨_, hb.cell 0, l, hb.cell 1, (c134 (h.ext e)).mono ?_⟩
  rintro _ w6 ⟨b, rfl, hiff, e6⟩
  have hb := hb.ext e6
  have hz := hz.ext e6
  have e := Only.trans e e6
  have z6 := e6.size
  refine ⟨b, rfl, ?_⟩
  simp only [join_or]
  refine BIf.of (fun hbad => ?_) (fun hgood => ?_)
  · have hbd : ¬ FOk T fr ∨ o < 0 ∨ 10 < o := by
      simp only [Bool.or_eq_true, Bool.not_eq_true', decide_eq_true_eq] at hbad
      rcases hbad with (hb1 | hb1) | hb1
      · exact .inl (fun hf => by rw [hiff.2 hf] at hb1; cases hb1)
      · exact .inr (.inl hb1)
      · exact .inr (.inr hb1)
    refine put_step hz rfl rfl (fun w14 o14 hz n14 => ?_)
    refine ⟨_, hz.cell 0, ⟨none, 0, 0⟩, hz.cell 1, ?_⟩
    rw [takeF_bad hbd]
    exact ⟨⟨none, 0, 0⟩, rfl, OwnS.none _ _ _ _, Ext.own e o14 (fun k hk => by omega)⟩
  have hgd : ¬ (¬ FOk T fr ∨ o < 0 ∨ 10 < o) := by
    simp only [Bool.or_eq_false_iff, Bool.not_eq_false', decide_eq_false_iff_not] at hgood
    rintro (hh | hh | hh)
    · exact hh (hiff.1 hgood.1.1)
    · omega
    · omega
  have hok : FOk T fr := Classical.byContradiction (fun hn => hgd (.inl hn))
  refine ⟨l, hb.cell 1, ?_⟩
  rw [hl]
  refine LoopW.m2 (fun (best i : Int) w' => ∃ k : Nat, i = k ∧ k ≤ fr.length ∧ best = bestF fr o k ∧ Ext w6 w') (fun _ (i : Int) _ => ((fr.length : Int) - i).toNat) ⟨0, rfl, by omega, rfl, Only.refl _ _⟩ ?_
  rintro (best : Int) (i : Int) w20 ⟨k, rfl, hk, rfl, e20⟩ J hJ
  have hb20 := hb.ext e20
  have hz20 := hz.ext e20
  have ew20 := Only.trans e e20
  have z20 := e20.size
  have hr := bestF_rng fr o k
  refine BIf.dec (fun hlt => ?_) (fun hge => ?_)
  · obtain ⟨x, hx⟩ : ∃ x, fr[k]? = some x := ⟨_, List.getElem?_eq_getElem (by omega)⟩
    have hst : bestF fr o (k + 1) = if o ≤ x.Order ∧ (bestF fr o k < 0 ∨ x.Order < ordAt fr (bestF fr o k)) then (k : Int) else bestF fr o k := by
      rw [bestF, hx]; try rfl
    obtain ⟨p0, hp0, hx0, hx1⟩ := (h.ext ew20).get hx
    refine ⟨by omega, by omega, p0, hp0, _, hx0, _, hx1, alloc_step (fun w25 e25 hy n25 => blk_put2 hy (fun w26 o26 hy n26 => ?_))⟩
    have e26 : Ext w20 w26 := Ext.own e25 o26 (fun j hj => by omega)
    have ed := Only.trans e26 (ext_drew w26)
    have hy := hy.ext (ext_drew w26)
    refine JoinW.cut1 (fun (b : Bool) w' => (b = true ↔ o ≤ x.Order ∧ (bestF fr o k < 0 ∨ x.Order < ordAt fr (bestF fr o k))) ∧ Ext w20 w') ?_ ?_
    · generalize w26.drew = w21 at *
      have hb21 := hb20.ext ed
      have h21 := h.ext (Only.trans ew20 ed)
      refine ⟨_, hy.cell 1, ?_⟩
      refine BIf.dec (fun h1 => BIf.dec (fun h2 => ⟨⟨fun _ => ⟨h1, .inl h2⟩, fun _ => rfl⟩, ed⟩) (fun h2 => ?_)) (fun h1 => ⟨⟨(fun hh => nomatch hh), fun hh => absurd hh.1 h1⟩, ed⟩)
      obtain ⟨y, hyy⟩ : ∃ y, fr[(bestF fr o k).toNat]? = some y := ⟨_, List.getElem?_eq_getElem (by omega)⟩
      have hoy : ordAt fr (bestF fr o k) = y.Order := by unfold ordAt; rw [hyy]
      obtain ⟨q, hq, hd0, hd1⟩ := h21.get hyy
      rw [hoy]
      refine ⟨_, hy.cell 1, l, hb21.cell 1, by omega, by omega, q, hq, _, hd1, ?_, ed⟩
      rw [decide_eq_true_eq]
      exact ⟨fun hh => ⟨h1, .inr hh⟩, fun hh => by rcases hh.2 with hh | hh; exact absurd hh h2; exact hh⟩
    rintro (b : Bool) w24 ⟨hb24, e24⟩
    rw [w64 (by omega) (by omega)]
    refine BIf.of (fun hbt => ?_) (fun hbf => ?_)
    · exact hJ _ _ _ ⟨k + 1, by omega, by omega, by rw [hst, if_pos (hb24.1 hbt)], Only.trans e20 e24⟩ (by omega)
    · exact hJ _ _ _ ⟨k + 1, by omega, by omega, by rw [hst, if_neg (fun hh => by rw [hb24.2 hh] at hbf; cases hbf)], Only.trans e20 e24⟩ (by omega)
  · have hkl : k = fr.length := by omega
    subst hkl
    refine BIf.dec (fun hneg => ?_) (fun hpos => ?_)
    · rw [takeF_none hgd hneg]
      refine ⟨_, hb20.cell 0, l, hb20.cell 1, (c149 (h.ext ew20)).mono ?_⟩
      rintro _ w37 ⟨t, rfl, own, e37⟩
      have hz37 := hz20.ext e37
      have z37 := e37.size
      refine ⟨_, t, rfl, put_step hz37 rfl rfl (fun w40 o40 hz40 n40 => ?_)⟩
      have own40 := own.only o40 (fun b _ hb0 _ hbb => by omega)
      exact ⟨_, hz40.cell 0, t, hz40.cell 1, t, rfl, own40.mono (by omega), Ext.own (Only.trans ew20 e37) o40 (fun k hk => by omega)⟩
    · obtain ⟨x, hx⟩ : ∃ x, fr[(bestF fr o fr.length).toNat]? = some x := ⟨_, List.getElem?_eq_getElem (by omega)⟩
      rw [takeF_some hgd (by omega) hx]
      have hbo := blkOk_out (hok.2.2 _ x hx).1
      have hox : o ≤ x.Order := by
        rcases bestF_ord fr o fr.length with hh | ⟨y, hy, hyo⟩
        · omega
        · rw [hx] at hy; cases hy; exact hyo
      have hT0 := hok.1
      have hT1 := hok.2.1
      have ho0 : 0 ≤ o := by omega
      have hpo := pw_rng (o := o) (by omega)
      have hpm := pow_mono_le hox
      have hpn : pw o = ((2 ^ o.toNat : Nat) : Int) := rfl
      have hfl := freeL_len T fr
      refine ⟨_, hb20.cell 0, l, hb20.cell 1, (c150 (h.ext ew20) hok).mono ?_⟩
      rintro _ w47 ⟨bf, rfl, hbf0, hbf, e47⟩
      have z47 := e47.size
      have hb47 := hb20.ext e47
      have hz47 := hz20.ext e47
      have hbfl := hbf.lt
      obtain ⟨p, hp, hc0, hc1⟩ := (h.ext (Only.trans ew20 e47)).get hx
      refine ⟨⟨some ⟨bf, 0, none⟩, T.toNat, T.toNat⟩, rfl, l, hb47.cell 1, by omega, by omega, p, hp, _, hc0, _, hc1, alloc_step (fun w53 e53 hy n53 => blk_put2 hy (fun w54 o54 hy n54 => ?_))⟩
      have e54 : Ext w47 w54 := Ext.own e53 o54 (fun j hj => by omega)
      rw [shl_pw ho0 (by omega)]
      refine ⟨by omega, ?_⟩
      refine LoopW.m1 (fun (i : Int) w' => ∃ q : Nat, i = q ∧ q ≤ 2 ^ o.toNat ∧ Blk w' bf (bools (setV false (freeL T fr) x.At.toNat q)) ∧ Blk w' w47.heap.size [.int .i64 x.At, .int .i64 x.Order] ∧ Ext w20 w' ∧ w47.heap.size < w'.heap.size) (fun (i : Int) _ => (pw o - i).toNat) ⟨0, rfl, by omega, hbf.ext e54, hy, Only.trans e47 e54, by omega⟩ ?_
      rintro (i : Int) w57 ⟨q, rfl, hq, hbf57, hy57, e57, z57⟩ J2 hJ2
      refine BIf.dec (fun hq2 => ?_) (fun hq2 => ?_)
      · have hidx : IntKind.i64.wrap (x.At + (q : Int)) = ((x.At.toNat + q : Nat) : Int) := by rw [w64 (by omega) (by omega)]; omega
        refine ⟨_, hy57.cell 0, ?_⟩
        rw [hidx, Int.toNat_natCast]
        refine ⟨by omega, by show ((x.At.toNat + q : Nat) : Int) < ((T.toNat : Nat) : Int); omega, _, rfl, set1_step hbf57 (by rw [bools_len, setV_len, hfl]; omega) (fun w60 o60 hbf60 n60 => ?_)⟩
        rw [w64 (by omega) (by omega)]
        rw [bools_set] at hbf60
        exact hJ2 _ _ ⟨q + 1, by omega, by omega, hbf60, hy57.only o60 (by omega), Ext.own e57 o60 (fun j hj => by omega), by omega⟩ (by omega)
      · have hq3 : q = 2 ^ o.toNat := by omega
        subst hq3
        have e57d := Only.trans e57 (ext_drew w57)
        have hy58 := hy57.ext (ext_drew w57)
        have hbf58 := hbf57.ext (ext_drew w57)
        have hz58 := hz20.ext e57d
        have zd2 : w57.drew.heap.size = w57.heap.size := rfl
        generalize w57.drew = w58 at *
        have hlen2 : (setV false (freeL T fr) x.At.toNat (2 ^ o.toNat)).length = T.toNat := by rw [setV_len, hfl]
        have hls := c148 (bls_blk hbf58 (by omega)) (by omega)
        rw [hlen2] at hls
        refine ⟨_, hy58.cell 0, hls.mono ?_⟩
        rintro _ w62 ⟨t, rfl, own62, e62⟩
        have hy62 := hy58.ext e62
        have hz62 := hz58.ext e62
        have z62 := e62.size
        refine ⟨_, t, rfl, ⟨_, hy62.cell 0, rfl⟩, put_step hz62 rfl rfl (fun w67 o67 hz67 n67 => ?_)⟩
        have hy67 := hy62.only o67 (by omega)
        have e67 : Ext w w67 := Ext.own (Only.trans ew20 (Only.trans e57d e62)) o67 (fun k hk => by omega)
        have own67 := own62.only o67 (fun b _ hb0 _ hbb => by omega)
        refine ⟨⟨_, hy67.cell 0, rfl⟩, _, hz67.cell 0, t, hz67.cell 1, t, ?_, own67.mono (by omega), e67⟩
        rw [show ((T.toNat : Nat) : Int) = T by omega]
/-! ## A frame's bytes cleared -/
def zer (m : List Int) (a : Nat) : Nat → List Int
  | 0 => m
  | k + 1 => (zer m a k).set (a + k) 0
theorem zer_len (m : List Int) (a : Nat) : ∀ k, (zer m a k).length = m.length
  | 0 => rfl
  | k + 1 => by unfold zer; rw [List.length_set, zer_len m a k]
theorem zer_rng {m : List Int} (h : ∀ x, x ∈ m → 0 ≤ x ∧ x ≤ 255) (a : Nat) : ∀ k x, x ∈ zer m a k → 0 ≤ x ∧ x ≤ 255
  | 0, x, hx => h x hx
  | k + 1, x, hx => by
    unfold zer at hx
    rcases List.mem_or_eq_of_mem_set hx with hx | hx
    · exact zer_rng h a k x hx
    · omega
def u8s (m : List Int) : List Value := m.map (Value.int .u8)
theorem u8s_len (m : List Int) : (u8s m).length = m.length := by unfold u8s; simp
theorem u8s_set (m : List Int) (i : Nat) (x : Int) : (u8s m).set i (.int .u8 x) = u8s (m.set i x) := by unfold u8s; rw [List.map_set]
theorem own_set1 {w : World} {b0 : Nat} {s : Sl} {m : List Int} {i : Nat} {x : Int} {k : World → Prop} (h : OwnS w b0 s 1 (u8s m)) (hi : i < m.length)
    (hk : ∀ w2, OwnS w2 b0 s 1 (u8s (m.set i x)) → Only (fun q => b0 ≤ q ∧ s.a = some ⟨q, 0, none⟩ ∧ q < w.heap.size) w w2 → w2.heap.size = w.heap.size → k w2) :
    ∃ p, s.a = some p ∧ May w (p.add (i * 1)) ∧ LetW (w.setCell (p.add (i * 1)) (.int .u8 x)) k := by
  have hl := h.len
  rw [u8s_len, Nat.mul_one] at hl
  obtain ⟨p, hp, hm, ho, hn⟩ := h.set (i := i) (by rw [u8s_len]; exact hi) (.int .u8 x)
  rw [Nat.mul_one]
  refine ⟨p, hp, hm, LetW_iff.2 (hk _ (by rw [← u8s_set]; exact ho) ?_ (size_set w _ _))⟩
  have hcap := OwnS.capLe h
  obtain ⟨q, hq, hq0, hq1⟩ := OwnS.where_ h (by omega)
  rw [hp] at hq
  cases hq
  have hos := only_set w ((⟨q, 0, none⟩ : Addr).add i) (.int .u8 x)
  exact hos.mono (fun j _ hj => by rw [add_block] at hj; subst hj; exact ⟨hq0, hp, hq1⟩)
set_option maxRecDepth 8000 in
theorem c161 {sm sf : Sl} {T : Int} {m : List Int} {b0 f : Nat} {w : World} (h : OwnS w b0 sm 1 (u8s m)) {n : Nat} (hn256 : n = 256) (hf : f * 256 + n ≤ m.length) (hs : m.length ≤ 1048576) :
    CallW Try.prog 161 #[.agg #[.slice sm.a sm.len sm.cap, .int .i64 T, .slice sf.a sf.len sf.cap], .int .i64 (f : Int)] w (fun v w' => v = .tuple #[] ∧ OwnS w' b0 sm 1 (u8s (zer m (f * 256) n)) ∧ Only (fun q => b0 ≤ q ∧ sm.a = some ⟨q, 0, none⟩) w w') := by
  refine go161 ?_
  unfold W161
  refine alloc_step (fun w1 e1 hb n1 => ?_)
  have hl := h.len
  rw [u8s_len, Nat.mul_one] at hl
  obtain ⟨q0, hq0, hq1, hq2⟩ := OwnS.where_ h (by have := OwnS.capLe h; omega)
  refine LoopW.m1 (fun (i : Int) w' => ∃ k : Nat, i = k ∧ k ≤ n ∧ OwnS w' b0 sm 1 (u8s (zer m (f * 256) k)) ∧ Only (fun q => b0 ≤ q ∧ sm.a = some ⟨q, 0, none⟩) w1 w') (fun (i : Int) _ => (256 - i).toNat) ⟨0, rfl, by omega, h.ext e1, Only.refl _ _⟩ ?_
  rintro (i : Int) w4 ⟨k, rfl, hk, h4, o4⟩ J hJ
  refine BIf.dec (fun hlt => ?_) (fun hge => ?_)
  · have hb4 := hb.only o4 (fun hh => by have h5 := hh.2; rw [hq0] at h5; cases h5; omega)
    refine ⟨sm, hb4.cell 0, ?_⟩
    have hidx : IntKind.i64.wrap (IntKind.i64.wrap ((f : Int) * 256) + (k : Int)) = ((f * 256 + k : Nat) : Int) := by rw [w64 (n := (f : Int) * 256) (by omega) (by omega), w64 (by omega) (by omega)]; omega
    rw [hidx, Int.toNat_natCast]
    refine ⟨by omega, by omega, own_set1 h4 (by rw [zer_len]; omega) (fun w7 h7 o7 n7 => ?_)⟩
    rw [w64 (by omega) (by omega)]
    exact hJ _ _ ⟨k + 1, by omega, by omega, h7, Only.trans o4 (o7.mono (fun j _ hj => ⟨hj.1, hj.2.1⟩))⟩ (by omega)
  · have hk2 : k = n := by omega
    subst hk2
    exact ⟨rfl, h4, e1.any.trans o4⟩
set_option maxRecDepth 8000 in
theorem c163 {sm : Sl} {x y : Value} {m : List Int} {b b0 f : Nat} {w : World} (hp : Blk w b [.slice sm.a sm.len sm.cap, x, y]) (h : OwnS w b0 sm 1 (u8s m)) (hmb : Apart sm b) {n : Nat} (hn256 : n = 256) (hf : f * 256 + n ≤ m.length) (hs : m.length ≤ 1048576) :
    CallW Try.prog 163 #[.pointer (some ⟨b, 0, none⟩), .int .i64 (f : Int)] w (fun v w' => v = .tuple #[] ∧ OwnS w' b0 sm 1 (u8s (zer m (f * 256) n)) ∧ Only (fun q => b0 ≤ q ∧ sm.a = some ⟨q, 0, none⟩) w w') := by
  refine go163 ?_
  unfold W163
  have hl := h.len
  rw [u8s_len, Nat.mul_one] at hl
  have hcap : 0 < sm.cap := by have := OwnS.capLe h; omega
  refine LoopW.m1 (fun (i : Int) w' => ∃ k : Nat, i = k ∧ k ≤ n ∧ OwnS w' b0 sm 1 (u8s (zer m (f * 256) k)) ∧ Only (fun q => b0 ≤ q ∧ sm.a = some ⟨q, 0, none⟩) w w') (fun (i : Int) _ => (256 - i).toNat) ⟨0, rfl, by omega, h, Only.refl _ _⟩ ?_
  rintro (i : Int) w4 ⟨k, rfl, hk, h4, o4⟩ J hJ
  refine BIf.dec (fun hlt => ?_) (fun hge => ?_)
  · have hb4 := hp.only o4 (fun hh => hmb hcap hh.2)
    refine ⟨_, rfl, sm, hb4.cell 0, ?_⟩
    have hidx : IntKind.i64.wrap (IntKind.i64.wrap ((f : Int) * 256) + (k : Int)) = ((f * 256 + k : Nat) : Int) := by rw [w64 (n := (f : Int) * 256) (by omega) (by omega), w64 (by omega) (by omega)]; omega
    rw [hidx, Int.toNat_natCast]
    refine ⟨by omega, by omega, own_set1 h4 (by rw [zer_len]; omega) (fun w7 h7 o7 n7 => ?_)⟩
    rw [w64 (by omega) (by omega)]
    exact hJ _ _ ⟨k + 1, by omega, by omega, h7, Only.trans o4 (o7.mono (fun j _ hj => ⟨hj.1, hj.2.1⟩))⟩ (by omega)
  · have hk2 : k = n := by omega
    subst hk2
    exact ⟨rfl, h4, o4⟩
end Go.Proofs.Ytkgoanjemhbjgaa

/- Spaces: a pool copied, a frame taken from a pool, both sides. Conditions: none. -/
set_option linter.unusedVariables false
set_option linter.unusedSimpArgs false
namespace Go.Proofs.Ytkgoanjemhbjgaa
open Go Go.Den
/-- A pool's two slices, owned. -/
def PoV (m : List Int) (fr : List DBlock) (b0 : Nat) (w : World) (tm tf : Sl) : Prop :=
  OwnS w b0 tm 1 (u8s m) ∧ OwnS w b0 tf 2 (fr.flatMap DBlock.cells) ∧ ∀ q, 0 < tm.cap → tm.a = some ⟨q, 0, none⟩ → Apart tf q
theorem PoV.only {S : Nat → Prop} {m : List Int} {fr : List DBlock} {b0 : Nat} {w w' : World} {tm tf : Sl} (h : PoV m fr b0 w tm tf) (o : Only S w w') (hS : ∀ b, b0 ≤ b → b < w.heap.size → ¬ S b) : PoV m fr b0 w' tm tf :=
  ⟨h.1.only o (fun b _ h1 h2 => hS b h1 h2), h.2.1.only o (fun b _ h1 h2 => hS b h1 h2), h.2.2⟩
theorem PoV.mono {m : List Int} {fr : List DBlock} {b0 b1 : Nat} {w : World} {tm tf : Sl} (h : PoV m fr b0 w tm tf) (hb : b1 ≤ b0) : PoV m fr b1 w tm tf := ⟨h.1.mono hb, h.2.1.mono hb, h.2.2⟩
theorem PoV.ext {m : List Int} {fr : List DBlock} {b0 : Nat} {w w' : World} {tm tf : Sl} (h : PoV m fr b0 w tm tf) (e : Ext w w') : PoV m fr b0 w' tm tf := h.only e (fun _ _ _ => id)
theorem apart_new {w w2 : World} {b0 b1 z z2 : Nat} {s t : Sl} {vs us : List Value} (hs : OwnS w b0 s z vs) (ht : OwnS w2 b1 t z2 us) (hb : w.heap.size ≤ b1) : ∀ q, 0 < s.cap → s.a = some ⟨q, 0, none⟩ → Apart t q := by
  intro q hc hq hc2 ha
  obtain ⟨q1, hq1, _, hlt1⟩ := OwnS.where_ hs hc
  obtain ⟨q2, hq2, hge, _⟩ := OwnS.where_ ht hc2
  rw [hq1] at hq; cases hq
  rw [hq2] at ha; cases ha; omega
theorem c101 {sm sf : Sl} {m : List Int} {T : Int} {fr : List DBlock} {w : World} (hm : Bytes w sm m) (hf : FrAt w sf fr) : CallW Try.prog 101 #[.agg #[.slice sm.a sm.len sm.cap, .int .i64 T, .slice sf.a sf.len sf.cap]] w
    (fun v w' => ∃ tm tf : Sl, v = .agg #[.slice tm.a tm.len tm.cap, .int .i64 T, .slice tf.a tf.len tf.cap] ∧ PoV m fr w.heap.size w' tm tf ∧ Ext w w') := by
  refine go101 ?_
  unfold W101
  have hl := hm.len
  have hs := hm.small
  refine alloc_step (fun w1 e1 hb n1 => ?_)
  refine alloc_step (fun w2 e2 hz n2 => ?_)
  have e := Only.trans (Only.trans e1 e2) (ext_drew w2)
  have hb := hb.ext (Only.trans e2 (ext_drew w2))
  have hz := hz.ext (ext_drew w2)
  have zd : w2.drew.heap.size = w2.heap.size := rfl
  generalize w2.drew = w3 at *
  refine ⟨sm, hb.cell 0, _, hb.cell 1, sf, hb.cell 2, alloc_step (fun w6 e6 hy n6 => ?_)⟩
  have hb := hb.ext e6
  have hz := hz.ext e6
  have e := Only.trans e e6
  refine ⟨⟨_, hb.cell 1, sf, hb.cell 2, rfl⟩, ⟨sm, hb.cell 0, rfl⟩, ?_⟩
  refine AppendW.own (b0 := w6.heap.size) (z := 1) (os := []) (vs := m.map (Value.int .u8)) (OwnS.none _ _ _ _) (by rw [Nat.mul_one]; exact (hm.ext e).row) rfl rfl (by decide) (by show (0 + sm.len) * 1 ≤ _; omega) plain_int (Nat.le_refl _) (fun tm w11 h1 om h3 h4 => ?_)
  have e11 : Ext w6 w11 := h3.mono (fun k hk hh => absurd hh.1 (by omega))
  have hb := hb.ext e11
  have hz := hz.ext e11
  have e := Only.trans e e11
  refine ⟨⟨_, hb.cell 1, sf, hb.cell 2, rfl⟩, (c162 (hf.ext e)).mono ?_⟩
  rintro _ w15 ⟨tf, rfl, of, e15⟩
  have hz := hz.ext e15
  have e := Only.trans e e15
  have om' : OwnS w15 w6.heap.size tm 1 (u8s m) := om.ext e15
  have z11 := e11.size
  have z15 := e15.size
  have hp : PoV m fr w6.heap.size w15 tm tf := ⟨om', of.mono (by omega), apart_new om of (by omega)⟩
  refine ⟨_, tf, rfl, put_step hz rfl rfl (fun w18 o18 hz n18 => ?_)⟩
  refine ⟨tm, hz.cell 0, _, hz.cell 1, tf, hz.cell 2, tm, tf, rfl, (hp.only o18 (fun b h1 _ hb => by omega)).mono (by omega), Ext.own e o18 (fun k hk => by omega)⟩
/-! ## A frame taken from a pool -/
noncomputable def fz : Nat := Classical.choose (⟨256, rfl⟩ : ∃ z, z = 256)
theorem fz_eq : fz = 256 := Classical.choose_spec (⟨256, rfl⟩ : ∃ z, z = 256)
noncomputable def poF (m : List Int) (T : Int) (fr : List DBlock) : (List Int × List DBlock) × Int :=
  if (takeF T fr 0).2.2 < 0 then ((m, fr), -1) else ((zer m ((takeF T fr 0).2.2.toNat * 256) fz, (takeF T fr 0).2.1), (takeF T fr 0).2.2)
theorem take_out {T : Int} {fr : List DBlock} (h : FOk T fr) : (takeF T fr 0).1 = T ∧ ((takeF T fr 0).2.2 = -1 ∨ (0 ≤ (takeF T fr 0).2.2 ∧ (takeF T fr 0).2.2 < T)) := by
  have hb := bestF_rng fr 0 fr.length
  have hn : ¬ (¬ FOk T fr ∨ (0 : Int) < 0 ∨ (10 : Int) < 0) := fun h2 => by rcases h2 with h2 | h2 | h2; exact h2 h; omega; omega
  by_cases h0 : bestF fr 0 fr.length < 0
  · rw [takeF_none hn h0]; exact ⟨rfl, .inl rfl⟩
  · rcases bestF_ord fr 0 fr.length with h1 | ⟨x, hx, _⟩
    · omega
    · rw [takeF_some hn (by omega) hx]
      have := blkOk_out (h.2.2 _ x hx).1
      exact ⟨rfl, .inr ⟨this.2.2.1, this.2.2.2.1⟩⟩
theorem c100 {tm tf : Sl} {m : List Int} {T : Int} {fr : List DBlock} {b0 : Nat} {w : World} (h : PoV m fr b0 w tm tf) (hb0 : b0 ≤ w.heap.size) (hok : POk m T fr) (hfew : fr.length ≤ 1099511627776) : CallW Try.prog 100 #[.agg #[.slice tm.a tm.len tm.cap, .int .i64 T, .slice tf.a tf.len tf.cap]] w
    (fun v w' => ∃ sm sf : Sl, v = .tuple #[.agg #[.slice sm.a sm.len sm.cap, .int .i64 T, .slice sf.a sf.len sf.cap], .int .i64 (poF m T fr).2] ∧ PoV (poF m T fr).1.1 (poF m T fr).1.2 b0 w' sm sf ∧ Only (fun q => b0 ≤ q) w w') := by
  refine go100 ?_
  unfold W100
  obtain ⟨t1, t2⟩ := take_out hok.2.2.1
  refine alloc_step (fun w1 e1 hb n1 => ?_)
  refine alloc_step (fun w2 e2 hz n2 => ?_)
  have hb := hb.ext e2
  have e := Only.trans e1 e2
  have h2 := h.ext e
  refine ⟨_, hb.cell 1, tf, hb.cell 2, (c144 (own_fr h2.2.1 hfew)).mono ?_⟩
  rintro _ w6 ⟨t, rfl, ot, e6⟩
  have hb := hb.ext e6
  have hz := hz.ext e6
  have h6 := h2.ext e6
  have e := Only.trans e e6
  have z2 := e2.size
  have z6 := e6.size
  refine ⟨_, t, _, rfl, alloc_step (fun w10 e10 hy n10 => put_step hy rfl rfl (fun w11 o11 hy n11 => ?_))⟩
  have ee : Ext w6 w11 := e10.own o11 (fun j hj => by omega)
  have hb := hb.ext ee
  have hz := hz.ext ee
  have h11 := h6.ext ee
  have ot := ot.ext ee
  have e := Only.trans e ee
  have hne : w.heap.size ≠ w1.heap.size := by omega
  refine BIf.dec (fun hlt => ?_) (fun hge => ?_)
  · refine ⟨tm, hb.cell 0, _, hb.cell 1, tf, hb.cell 2, put_step hz rfl rfl (fun w15 o15 hz n15 => ?_)⟩
    refine ⟨tm, hz.cell 0, _, hz.cell 1, tf, hz.cell 2, tm, tf, ?_, ?_, ?_⟩
    · unfold poF; rw [if_pos hlt]
    · unfold poF; rw [if_pos hlt]
      exact h.ext (Ext.own e o15 (fun k hk => by omega))
    · exact Ext.any (Ext.own e o15 (fun k hk => by omega))
  · have hpo : poF m T fr = ((zer m ((takeF T fr 0).2.2.toNat * 256) fz, (takeF T fr 0).2.1), (takeF T fr 0).2.2) := by unfold poF; rw [if_neg hge]
    have hT := hok.2.2.2
    have hm1 := hok.2.1
    generalize takeF T fr 0 = r at *
    obtain ⟨r1, rf, ra⟩ := r
    obtain rfl : r1 = T := t1
    have hlen := h.1.len
    rw [u8s_len, Nat.mul_one] at hlen
    obtain ⟨n, rfl⟩ : ∃ n : Nat, ra = n := ⟨ra.toNat, by show ra = _; have : ¬ ra < 0 := hge; omega⟩
    have hn : (n : Int) < r1 := by rcases t2 with t2 | t2; exact absurd (show (n : Int) = -1 from t2) (by omega); exact t2.2
    have hcap : 0 < tm.cap := by have := OwnS.capLe h.1; omega
    obtain ⟨q0, hq0, hq1, hq2⟩ := OwnS.where_ h.1 hcap
    refine ⟨tm, hb.cell 0, _, hb.cell 1, tf, hb.cell 2, (c161 h11.1 fz_eq (by rw [fz_eq]; omega) (by omega)).mono ?_⟩
    rintro _ w23 ⟨rfl, om, o23⟩
    have hS : ∀ q, (b0 ≤ q ∧ tm.a = some ⟨q, 0, none⟩) → q = q0 := by rintro q ⟨_, hq⟩; rw [hq0] at hq; cases hq; rfl
    have hb := hb.only o23 (fun hh => by have := hS _ hh; omega)
    have hz := hz.only o23 (fun hh => by have := hS _ hh; omega)
    have hy := hy.only o23 (fun hh => by have := hS _ hh; omega)
    have z11 := e.size
    have ot := ot.only o23 (fun b _ h1 h2 hh => by have := hS _ hh; omega)
    refine ⟨rfl, tm, hb.cell 0, _, hy.cell 0, t, hy.cell 1, put_step hz rfl rfl (fun w27 o27 hz n27 => ?_)⟩
    refine ⟨tm, hz.cell 0, _, hz.cell 1, t, hz.cell 2, tm, t, ?_, ?_, ?_⟩
    · rw [hpo]
    · rw [hpo]
      have ot := ot.only o27 (fun b _ h1 h2 hh => by omega)
      have om := om.only o27 (fun b hb _ _ hh => by rw [hq0] at hb; cases hb; omega)
      refine ⟨om, ot.mono (by omega), fun q hc hq hc2 ha => ?_⟩
      obtain ⟨q2, hq2', hge2, _⟩ := OwnS.where_ ot hc2
      rw [hq0] at hq; cases hq
      rw [hq2'] at ha; cases ha; omega
    · exact Only.trans (Ext.any e) (Only.trans (o23.mono (fun j _ hj => hj.1)) (o27.mono (fun j _ hj => by omega)))
theorem c102 {b : Nat} {sm sf : Sl} {m : List Int} {T : Int} {fr : List DBlock} {b0 : Nat} {w : World} (h : PoolAt w b0 b sm sf m T fr) (hb0 : b0 ≤ w.heap.size) (hok : POk m T fr) (hfew : fr.length ≤ 1099511627776) : CallW Try.prog 102 #[.pointer (some ⟨b, 0, none⟩)] w
    (fun v w' => ∃ tf : Sl, v = .int .i64 (poF m T fr).2 ∧ PoolAt w' b0 b sm tf (poF m T fr).1.1 T (poF m T fr).1.2 ∧ Only (fun q => b0 ≤ q) w w') := by
  refine go102 ?_
  unfold W102
  obtain ⟨t1, t2⟩ := take_out hok.2.2.1
  refine ⟨_, rfl, _, h.blk.cell 1, sf, h.blk.cell 2, (c83 (own_fr h.frs hfew)).mono ?_⟩
  rintro _ w6 ⟨t, rfl, ot, e6⟩
  have z6 := e6.size
  refine ⟨_, t, _, rfl, alloc_step (fun w10 e10 hy n10 => put_step hy rfl rfl (fun w11 o11 hy n11 => ?_))⟩
  have ee : Ext w6 w11 := e10.own o11 (fun j hj => by omega)
  have h11 := h.ext (Only.trans e6 ee)
  have ot := ot.ext ee
  have e := Only.trans e6 ee
  have hbl := h.blk.lt
  refine BIf.dec (fun hge => ?_) (fun hlt => ?_)
  · have hpo : poF m T fr = ((zer m ((takeF T fr 0).2.2.toNat * 256) fz, (takeF T fr 0).2.1), (takeF T fr 0).2.2) := by unfold poF; rw [if_neg (by omega)]
    have hT := hok.2.2.2
    have hm1 := hok.2.1
    generalize takeF T fr 0 = r at *
    obtain ⟨r1, rf, ra⟩ := r
    obtain rfl : r1 = T := t1
    have hlen := h.mem.len
    rw [List.length_map, Nat.mul_one] at hlen
    obtain ⟨n, rfl⟩ : ∃ n : Nat, ra = n := ⟨ra.toNat, by show ra = _; have : ra ≥ 0 := hge; omega⟩
    have hn : (n : Int) < r1 := by rcases t2 with t2 | t2; exact absurd (show (n : Int) = -1 from t2) (by omega); exact t2.2
    have hcap : 0 < sm.cap := by have := OwnS.capLe h.mem; omega
    obtain ⟨q0, hq0, hq1, hq2⟩ := OwnS.where_ h.mem hcap
    have hqb : q0 ≠ b := fun hh => h.mb hcap (by rw [hq0, hh])
    refine ⟨_, hy.cell 0, t, hy.cell 1, _, rfl, putAt_step h11.blk rfl (by simp) (fun w14 o14 hp n14 => ?_)⟩
    have hp : Blk w14 b [.slice sm.a sm.len sm.cap, .int .i64 r1, .slice t.a t.len t.cap] := hp
    have om14 := h11.mem.only o14 (fun b' hb' _ _ hh => by rw [hq0] at hb'; cases hb'; exact hqb hh)
    have z11 := e.size
    have ot := ot.only o14 (fun b' _ h1 h2 hh => by have hh : b' = b := hh; omega)
    refine (c163 hp om14 h.mb fz_eq (by rw [fz_eq]; omega) (by omega)).mono ?_
    rintro _ w16 ⟨rfl, om, o16⟩
    have hS : ∀ q, (b0 ≤ q ∧ sm.a = some ⟨q, 0, none⟩) → q = q0 := by rintro q ⟨_, hq⟩; rw [hq0] at hq; cases hq; rfl
    have hp := hp.only o16 (fun hh => hqb (hS _ hh).symm)
    have ot := ot.only o16 (fun b' _ h1 h2 hh => by have := hS _ hh; omega)
    refine ⟨rfl, t, ?_, ?_, ?_⟩
    · rw [hpo]
    · rw [hpo]
      refine ⟨hp, om, ot.mono (by omega), h.hb, h.mb, fun hc2 ha => ?_, fun q hc hq hc2 ha => ?_⟩
      · obtain ⟨q2, hq2', hge2, _⟩ := OwnS.where_ ot hc2
        rw [hq2'] at ha; cases ha; omega
      · obtain ⟨q2, hq2', hge2, _⟩ := OwnS.where_ ot hc2
        rw [hq0] at hq; cases hq
        rw [hq2'] at ha; cases ha; omega
    · exact Only.trans (Ext.any e) (Only.trans (o14.mono (fun j _ hj => by have hj : j = b := hj; have := h.hb; omega)) (o16.mono (fun j _ hj => hj.1)))
  · have hlt : (takeF T fr 0).2.2 < 0 := by omega
    have ha : (takeF T fr 0).2.2 = -1 := by omega
    refine ⟨sf, ?_, ?_, Ext.any e⟩
    · unfold poF; rw [if_pos hlt, ha]
    · unfold poF; rw [if_pos hlt]; exact h11
theorem c103 {b : Nat} {sm sf : Sl} {m : List Int} {T : Int} {fr : List DBlock} {b0 : Nat} {w : World} (h : PoolAt w b0 b sm sf m T fr) : CallW Try.prog 103 #[.pointer (some ⟨b, 0, none⟩)] w
    (fun v w' => v = .agg #[.slice sm.a sm.len sm.cap, .int .i64 T, .slice sf.a sf.len sf.cap] ∧ Ext w w') := by
  refine go103 ?_
  unfold W103
  refine alloc_step (fun w1 e1 hz n1 => ?_)
  have e := Only.trans e1 (ext_drew w1)
  have hz := hz.ext (ext_drew w1)
  have h1 := h.ext e
  generalize w1.drew = w3 at *
  refine ⟨_, rfl, sm, h1.blk.cell 0, _, rfl, _, h1.blk.cell 1, sf, h1.blk.cell 2, put_step hz rfl rfl (fun w7 o7 hz n7 => ?_)⟩
  exact ⟨sm, hz.cell 0, _, hz.cell 1, sf, hz.cell 2, rfl, Ext.own e o7 (fun k hk => by omega)⟩
end Go.Proofs.Ytkgoanjemhbjgaa

/- Spaces: a space made, both sides. Conditions: none. -/
set_option linter.unusedVariables false
set_option linter.unusedSimpArgs false
namespace Go.Proofs.Ytkgoanjemhbjgaa
open Go Go.Den
open Classical in
noncomputable def newF (m : List Int) (T : Int) (fr : List DBlock) : (List Int × Int × List DBlock) × Int :=
  if POk m T fr then (((poF m T fr).1.1, T, (poF m T fr).1.2), (poF m T fr).2) else (([], 0, []), -1)
def NewV (r : (List Int × Int × List DBlock) × Int) (w : World) (v : Value) (w' : World) : Prop :=
  ∃ tm tf : Sl, v = .tuple #[.agg #[.slice tm.a tm.len tm.cap, .int .i64 r.1.2.1, .slice tf.a tf.len tf.cap], .int .i64 r.2] ∧ PoV r.1.1 r.1.2.2 w.heap.size w' tm tf ∧ Ext w w'
theorem pov_nil (b0 : Nat) (w : World) : PoV [] [] b0 w ⟨none, 0, 0⟩ ⟨none, 0, 0⟩ := ⟨OwnS.none _ _ _ _, OwnS.none _ _ _ _, fun q h => absurd h (by simp)⟩
theorem c37 {sm sf : Sl} {m : List Int} {T : Int} {fr : List DBlock} {w : World} (hm : Bytes w sm m) (hf : FrAt w sf fr) : CallW Try.prog 37 #[.agg #[.slice sm.a sm.len sm.cap, .int .i64 T, .slice sf.a sf.len sf.cap]] w (NewV (newF m T fr) w) := by
  refine go37 ?_
  unfold W37
  have hfew := hf.few
  refine alloc_step (fun w1 e1 hb n1 => ?_)
  refine alloc_step (fun w2 e2 hz n2 => ?_)
  have hb := hb.ext e2
  have e := Only.trans e1 e2
  refine ⟨sm, hb.cell 0, _, hb.cell 1, sf, hb.cell 2, (c99 (hm.ext e) (hf.ext e)).mono ?_⟩
  rintro _ w7 ⟨b, rfl, hiff, e7⟩
  have hb := hb.ext e7
  have hz := hz.ext e7
  have e := Only.trans e e7
  have z7 := e7.size
  refine ⟨b, rfl, ?_⟩
  by_cases hok : POk m T fr
  · obtain rfl := hiff.2 hok
    have hr : newF m T fr = (((poF m T fr).1.1, T, (poF m T fr).1.2), (poF m T fr).2) := by unfold newF; rw [if_pos hok]
    rw [hr]
    refine BIf.of (fun h => (by cases h)) (fun _ => ?_)
    refine ⟨sm, hb.cell 0, _, hb.cell 1, sf, hb.cell 2, (c101 (hm.ext e) (hf.ext e)).mono ?_⟩
    rintro _ w17 ⟨tm, tf, rfl, hp, e17⟩
    have hz := hz.ext e17
    have z17 := e17.size
    refine ⟨tm, _, tf, rfl, (c100 hp (by omega) hok hfew).mono ?_⟩
    rintro _ w22 ⟨um, uf, rfl, hq, o22⟩
    have hz := hz.only o22 (fun hh => by omega)
    have e := Ext.own (Only.trans e e17) o22 (fun k hk => by omega)
    refine ⟨um, _, uf, _, rfl, put_step hz rfl rfl (fun w27 o27 hz n27 => ?_)⟩
    refine ⟨um, hz.cell 0, _, hz.cell 1, uf, hz.cell 2, um, uf, rfl, (hq.only o27 (fun b h1 _ hh => by omega)).mono (by omega), Ext.own e o27 (fun k hk => by omega)⟩
  · have hbf : b = false := by
      cases b with
      | false => rfl
      | true => exact absurd (hiff.1 rfl) hok
    subst hbf
    have hr : newF m T fr = (([], 0, []), -1) := by unfold newF; rw [if_neg hok]
    rw [hr]
    refine BIf.of (fun _ => ?_) (fun h => (by cases h))
    refine put_step hz rfl rfl (fun w9 o9 hz n9 => ?_)
    exact ⟨⟨none, 0, 0⟩, hz.cell 0, _, hz.cell 1, ⟨none, 0, 0⟩, hz.cell 2, ⟨none, 0, 0⟩, ⟨none, 0, 0⟩, rfl, pov_nil _ _, Ext.own e o9 (fun k hk => by omega)⟩
theorem c38 {sm sf : Sl} {m : List Int} {T : Int} {fr : List DBlock} {w : World} (hm : Bytes w sm m) (hf : FrAt w sf fr) : CallW Try.prog 38 #[.agg #[.slice sm.a sm.len sm.cap, .int .i64 T, .slice sf.a sf.len sf.cap]] w (NewV (newF m T fr) w) := by
  refine go38 ?_
  unfold W38
  have hfew := hf.few
  refine alloc_step (fun w1 e1 hb n1 => ?_)
  refine alloc_step (fun w2 e2 hz n2 => ?_)
  have hb := hb.ext e2
  have e := Only.trans e1 e2
  refine ⟨sm, hb.cell 0, _, hb.cell 1, sf, hb.cell 2, (c94 (hm.ext e) (hf.ext e)).mono ?_⟩
  rintro _ w7 ⟨b, rfl, hiff, e7⟩
  have hb := hb.ext e7
  have hz := hz.ext e7
  have e := Only.trans e e7
  have z7 := e7.size
  refine ⟨b, rfl, ?_⟩
  by_cases hok : POk m T fr
  · obtain rfl := hiff.2 hok
    have hr : newF m T fr = (((poF m T fr).1.1, T, (poF m T fr).1.2), (poF m T fr).2) := by unfold newF; rw [if_pos hok]
    rw [hr]
    refine BIf.of (fun h => (by cases h)) (fun _ => ?_)
    refine ⟨sm, hb.cell 0, _, hb.cell 1, sf, hb.cell 2, (c95 (hm.ext e) (hf.ext e)).mono ?_⟩
    rintro _ w17 ⟨pb, tm, tf, rfl, hp, e17⟩
    have hz := hz.ext e17
    have z17 := e17.size
    refine ⟨_, rfl, (c102 hp (by omega) hok hfew).mono ?_⟩
    rintro _ w20 ⟨uf, rfl, hq, o20⟩
    have hz := hz.only o20 (fun hh => by omega)
    have e := Ext.own (Only.trans e e17) o20 (fun k hk => by omega)
    refine ⟨_, rfl, (c103 hq).mono ?_⟩
    rintro _ w23 ⟨rfl, e23⟩
    have hz := hz.ext e23
    have hq := hq.ext e23
    have e := Only.trans e e23
    have hv : PoV (poF m T fr).1.1 (poF m T fr).1.2 w7.heap.size w23 tm uf := ⟨hq.mem, hq.frs, hq.mf⟩
    refine ⟨tm, _, uf, rfl, put_step hz rfl rfl (fun w27 o27 hz n27 => ?_)⟩
    refine ⟨tm, hz.cell 0, _, hz.cell 1, uf, hz.cell 2, tm, uf, rfl, (hv.only o27 (fun b h1 _ hh => by omega)).mono (by omega), Ext.own e o27 (fun k hk => by omega)⟩
  · have hbf : b = false := by
      cases b with
      | false => rfl
      | true => exact absurd (hiff.1 rfl) hok
    subst hbf
    have hr : newF m T fr = (([], 0, []), -1) := by unfold newF; rw [if_neg hok]
    rw [hr]
    refine BIf.of (fun _ => ?_) (fun h => (by cases h))
    refine put_step hz rfl rfl (fun w9 o9 hz n9 => ?_)
    exact ⟨⟨none, 0, 0⟩, hz.cell 0, _, hz.cell 1, ⟨none, 0, 0⟩, hz.cell 2, ⟨none, 0, 0⟩, ⟨none, 0, 0⟩, rfl, pov_nil _ _, Ext.own e o9 (fun k hk => by omega)⟩
/-! ## As a tree -/
theorem own_flat {α : Type} {w : World} {f : α → Dat} {g : α → List Value} {z : Nat} : ∀ (l : List α) (vs : List Value), (∀ d, d ∈ l → (g d).length = z ∧ OwnD w (f d) [] (g d)) → OwnE w z (l.map f) [] (l.flatMap g ++ vs)
  | [], vs, h => by rw [List.map_nil]; unfold OwnE; rfl
  | d :: r, vs, h => by
    rw [List.map_cons]
    unfold OwnE
    obtain ⟨h1, h2⟩ := h d (by simp)
    exact ⟨[], [], g d, r.flatMap g ++ vs, rfl, by simp, h1, h2, own_flat r vs (fun d hd => h d (by simp [hd]))⟩
theorem ownS_D {α : Type} {w : World} {b0 z : Nat} {s : Sl} {f : α → Dat} {g : α → List Value} {l : List α} (h : OwnS w b0 s z (l.flatMap g)) (hz : 0 < z) (hg : ∀ d, d ∈ l → (g d).length = z ∧ OwnD w (f d) [] (g d)) (hmax : l.length ≤ maxLen) :
    ∃ bs, OwnD w (.sl z (l.map f)) bs [.slice s.a s.len s.cap] ∧ bs.Nodup ∧ ∀ b, b ∈ bs → b0 ≤ b ∧ b < w.heap.size ∧ 0 < s.cap ∧ s.a = some ⟨b, 0, none⟩ := by
  have hlen : l.length * z = s.len * z := by
    rw [← h.len]
    clear h hmax
    induction l with
    | nil => simp
    | cons d r ih => rw [List.flatMap_cons, List.length_append, (hg d (by simp)).1, List.length_cons, Nat.add_mul, ← ih (fun d hd => hg d (by simp [hd]))]; omega
  have hlen : l.length = s.len := Nat.eq_of_mul_eq_mul_right hz hlen
  by_cases hc : s.cap = 0
  · have := OwnS.capLe h
    refine ⟨[], ?_, List.nodup_nil, fun b hb => by cases hb⟩
    unfold OwnD
    exact ⟨s.a, s.cap, by rw [List.length_map, hlen], by rw [List.length_map]; omega, by rw [List.length_map]; exact hmax, .inl ⟨hc, rfl⟩⟩
  · rcases h.2 with h2 | ⟨b, cs, ha, hb, hbl, hcl, hle, ht⟩
    · exact absurd h2.1 hc
    · refine ⟨[b], ?_, by simp, fun q hq => ?_⟩
      · unfold OwnD
        refine ⟨s.a, s.cap, by rw [List.length_map, hlen], by rw [List.length_map]; omega, by rw [List.length_map]; exact hmax, .inr ⟨b, [], cs, ha, rfl, hbl, hcl, ?_⟩⟩
        have := own_flat (w := w) (f := f) (g := g) (z := z) l (cs.drop (s.len * z)) hg
        rwa [← ht, List.take_append_drop] at this
      · simp only [List.mem_singleton] at hq
        subst hq
        exact ⟨hb, hbl.lt, by omega, ha⟩
theorem ownF_two2 {w : World} {d1 d2 : Dat} {b1 b2 : List Nat} {c1 c2 : List Value} (h1 : OwnD w d1 b1 c1) (h2 : OwnD w d2 b2 c2) : OwnF w [d1, d2] (b1 ++ b2) (c1 ++ c2) := ownF_app (ownF_one h1) (ownF_one h2)
theorem ownF_two {w : World} {d1 d2 : Dat} {c1 c2 : List Value} (h1 : OwnD w d1 [] c1) (h2 : OwnD w d2 [] c2) : OwnF w [d1, d2] [] (c1 ++ c2) := ownF_two2 h1 h2
def POut (m : List Int) (T : Int) (fr : List DBlock) : Prop := (∀ x, x ∈ m → 0 ≤ x ∧ x ≤ 255) ∧ m.length ≤ 2097152 ∧ fr.length ≤ 2097152 ∧ (Lit.int .i64 T).wf = true ∧ ∀ x, x ∈ fr → (Lit.int .i64 x.At).wf = true ∧ (Lit.int .i64 x.Order).wf = true
theorem fr_pool {m : List Int} {T : Int} {fr : List DBlock} {b0 : Nat} {w : World} {tm tf : Sl} (h : PoV m fr b0 w tm tf) (ho : POut m T fr) : Fr b0 w.heap.size w (⟨m, ⟨T, fr⟩⟩ : DPool).dat [.slice tm.a tm.len tm.cap, .int .i64 T, .slice tf.a tf.len tf.cap] := by
  have hmx : maxLen = 9223372036854775807 := rfl
  obtain ⟨h1, h2, h3⟩ := h
  have hu : u8s m = m.flatMap (fun n => [Value.int .u8 n]) := (map_flat m).symm
  rw [hu] at h1
  obtain ⟨b1, o1, d1, r1⟩ := ownS_D (f := Dat.int .u8) h1 (by omega) (fun d hd => ⟨rfl, by unfold OwnD; exact ⟨rfl, rfl, by have := ho.1 d hd; exact wf_u8 this.1 this.2⟩⟩) (by have := ho.2.1; omega)
  obtain ⟨b2, o2, d2, r2⟩ := ownS_D (f := DBlock.dat) h2 (by omega) (fun d hd => ⟨rfl, by
    obtain ⟨ha, hb⟩ := ho.2.2.2.2 d hd
    unfold DBlock.dat OwnD
    exact ownF_two (own_int ha) (own_int hb)⟩) (by have := ho.2.2.1; omega)
  refine ⟨b1 ++ b2, ?_, ?_, ?_⟩
  · unfold DPool.dat DFrames.dat OwnD
    refine ownF_two2 o1 ?_
    unfold OwnD
    exact ownF_two2 (b1 := []) (c1 := [.int .i64 T]) (own_int ho.2.2.2.1) o2
  · refine List.nodup_append.2 ⟨d1, d2, fun a ha b hb hab => ?_⟩
    subst hab
    obtain ⟨_, _, c1, e1⟩ := r1 _ ha
    obtain ⟨_, _, c2, e2⟩ := r2 _ hb
    exact h3 _ c1 e1 c2 e2
  · intro b hb
    rcases List.mem_append.1 hb with hb | hb
    · exact ⟨(r1 _ hb).1, (r1 _ hb).2.1⟩
    · exact ⟨(r2 _ hb).1, (r2 _ hb).2.1⟩
end Go.Proofs.Ytkgoanjemhbjgaa

/- FnExactSpaceNew: both sides, for the walk. Conditions: none. -/
set_option linter.unusedVariables false
set_option linter.unusedSimpArgs false
namespace Go.Proofs.Ytkgoanjemhbjgaa
open Go Go.Den
theorem listF_mem (l : List Bool) (a : Nat) : ∀ x, x ∈ listF l a → 0 ≤ x.At ∧ x.At < l.length ∧ 0 ≤ x.Order ∧ x.Order ≤ 10 := by
  intro x hx
  rw [listF] at hx
  split at hx
  · split at hx
    · rcases List.mem_cons.1 hx with hx | hx
      · subst hx
        have := ordF_le l a 10 0 (by omega)
        exact ⟨by show (0 : Int) ≤ (a : Int); omega, by show (a : Int) < _; omega, by show (0 : Int) ≤ (ordF l a 10 0 : Nat); omega, by show ((ordF l a 10 0 : Nat) : Int) ≤ 10; omega⟩
      · exact listF_mem l _ x hx
    · exact listF_mem l _ x hx
  · cases hx
termination_by l.length - a
decreasing_by
  all_goals have := Nat.one_le_two_pow (n := ordF l a 10 0); omega
theorem fok_mem {T : Int} {fr : List DBlock} (h : FOk T fr) : ∀ x, x ∈ fr → 0 ≤ x.At ∧ x.At < 1024 ∧ 0 ≤ x.Order ∧ x.Order ≤ 10 := by
  intro x hx
  obtain ⟨i, hi⟩ := List.getElem?_of_mem hx
  have := blkOk_out (h.2.2 i x hi).1
  have := h.2.1
  omega
theorem wf_blk {x : DBlock} (h : 0 ≤ x.At ∧ x.At < 1024 ∧ 0 ≤ x.Order ∧ x.Order ≤ 10) : (Lit.int .i64 x.At).wf = true ∧ (Lit.int .i64 x.Order).wf = true := ⟨wf_i64 (by omega) (by omega), wf_i64 (by omega) (by omega)⟩
theorem take_mem {T o : Int} {fr : List DBlock} (h : FOk T fr) (ho : 0 ≤ o) (ho2 : o ≤ 10) : (takeF T fr o).2.1.length ≤ fr.length + 1024 ∧ ∀ x, x ∈ (takeF T fr o).2.1 → 0 ≤ x.At ∧ x.At < 1024 ∧ 0 ≤ x.Order ∧ x.Order ≤ 10 := by
  have hn : ¬ (¬ FOk T fr ∨ o < 0 ∨ 10 < o) := fun h2 => by rcases h2 with h2 | h2 | h2; exact h2 h; omega; omega
  by_cases h0 : bestF fr o fr.length < 0
  · rw [takeF_none hn h0]; exact ⟨by show fr.length ≤ _; omega, fok_mem h⟩
  · rcases bestF_ord fr o fr.length with h1 | ⟨x, hx, _⟩
    · omega
    · rw [takeF_some hn (by omega) hx]
      have hl : (setV false (freeL T fr) x.At.toNat (2 ^ o.toNat)).length = T.toNat := by rw [setV_len, freeL_len]
      have hT := h.2.1
      refine ⟨?_, fun y hy => ?_⟩
      · show (listF _ 0).length ≤ _
        have := listF_len (setV false (freeL T fr) x.At.toNat (2 ^ o.toNat)) 0
        omega
      · have := listF_mem _ _ y hy
        omega
theorem new_out {m : List Int} {T : Int} {fr : List DBlock} (hm : ∀ x, x ∈ m → 0 ≤ x ∧ x ≤ 255) (hl : m.length ≤ 1048576) (hf : fr.length ≤ 1048576) : POut (newF m T fr).1.1 (newF m T fr).1.2.1 (newF m T fr).1.2.2 ∧ -1 ≤ (newF m T fr).2 ∧ (newF m T fr).2 ≤ 1024 := by
  by_cases hok : POk m T fr
  · have hr : newF m T fr = (((poF m T fr).1.1, T, (poF m T fr).1.2), (poF m T fr).2) := by unfold newF; rw [if_pos hok]
    have hT0 := hok.2.2.1.1
    have hT1 := hok.2.2.1.2.1
    have hT : (Lit.int .i64 T).wf = true := wf_i64 (by omega) (by omega)
    rw [hr]
    obtain ⟨t1, t2⟩ := take_out hok.2.2.1
    obtain ⟨u1, u2⟩ := take_mem hok.2.2.1 (o := 0) (by omega) (by omega)
    by_cases hlt : (takeF T fr 0).2.2 < 0
    · have hpo : poF m T fr = ((m, fr), -1) := by unfold poF; rw [if_pos hlt]
      rw [hpo]
      exact ⟨⟨hm, by show m.length ≤ _; omega, by show fr.length ≤ _; omega, hT, fun x hx => wf_blk (fok_mem hok.2.2.1 x hx)⟩, by show (-1 : Int) ≤ -1; omega, by show (-1 : Int) ≤ 1024; omega⟩
    · have hpo : poF m T fr = ((zer m ((takeF T fr 0).2.2.toNat * 256) fz, (takeF T fr 0).2.1), (takeF T fr 0).2.2) := by unfold poF; rw [if_neg hlt]
      rw [hpo]
      exact ⟨⟨zer_rng hm _ _, by show (zer _ _ _).length ≤ _; rw [zer_len]; omega, by show (takeF T fr 0).2.1.length ≤ _; omega, hT, fun x hx => wf_blk (u2 x hx)⟩, by show -1 ≤ (takeF T fr 0).2.2; omega, by show (takeF T fr 0).2.2 ≤ 1024; omega⟩
  · have hr : newF m T fr = (([], 0, []), -1) := by unfold newF; rw [if_neg hok]
    rw [hr]
    exact ⟨⟨fun x hx => absurd hx List.not_mem_nil, Nat.zero_le _, Nat.zero_le _, by decide, fun x hx => absurd hx List.not_mem_nil⟩, by show (-1 : Int) ≤ -1; omega, by show (-1 : Int) ≤ 1024; omega⟩
noncomputable def newP (x : DPool) : DPool := ⟨(newF x.Mem x.Free.Total x.Free.Free).1.1, ⟨(newF x.Mem x.Free.Total x.Free.Free).1.2.1, (newF x.Mem x.Free.Total x.Free.Free).1.2.2⟩⟩
noncomputable def newN (x : DPool) : Int := (newF x.Mem x.Free.Total x.Free.Free).2
theorem pool_few {x : DPool} (hs : x.dat.sz ≤ 1048576) : x.Mem.length ≤ 1048576 ∧ x.Free.Free.length ≤ 1048576 := by
  have hsz : x.dat.sz = (Dat.sl 1 (x.Mem.map (Dat.int .u8))).sz + ((0 + (((x.Free.Free.map DBlock.dat).length + Dat.szs (x.Free.Free.map DBlock.dat)) + 0)) + 0) := rfl
  rw [sz_nums, List.length_map] at hsz
  omega
theorem cnts_nums {k : IntKind} : ∀ l : List Int, Dat.cnts (l.map (Dat.int k)) = l.length
  | [] => rfl
  | a :: r => by simp only [List.map_cons, Dat.cnts, Dat.cnt, cnts_nums r, List.length_cons]; omega
theorem cnts_blks : ∀ l : List DBlock, Dat.cnts (l.map DBlock.dat) = 2 * l.length
  | [] => rfl
  | a :: r => by simp only [List.map_cons, DBlock.dat, Dat.cnts, Dat.cnt, List.length_cons]; have := cnts_blks r; omega
theorem cnt_pool (x : DPool) : x.dat.cntT = x.Mem.length + 2 * x.Free.Free.length := by
  simp only [DPool.dat, DFrames.dat, Dat.cntT, Dat.cntTs, cnts_nums, cnts_blks]; omega
theorem pool_cnt {x : DPool} (hs : x.dat.sz ≤ 1048576) : x.dat.cntT ≤ 4194304 := by
  have := pool_few hs
  rw [cnt_pool]; omega
theorem newP_cnt {x : DPool} {w : World} {cs : List Value} (h : IsD w x.dat cs) (hs : x.dat.sz ≤ 1048576) : (newP x).dat.cntT ≤ 8388608 := by
  obtain ⟨sm, sf, rfl, hm, hf⟩ := pool_of h hs
  have hx := pool_few hs
  have := (new_out (T := x.Free.Total) hm.rng hx.1 hx.2).1
  have h1 := this.2.1
  have h2 := this.2.2.1
  rw [cnt_pool]
  show (newF x.Mem x.Free.Total x.Free.Free).1.1.length + 2 * (newF x.Mem x.Free.Total x.Free.Free).1.2.2.length ≤ _
  omega
def NewS (n : Nat) : Prop := ∀ {x : DPool} {w : World} {cs : List Value} (h : IsD w x.dat cs) (hs : x.dat.sz ≤ 1048576), CallW Try.prog n #[.agg ⟨cs⟩] w (fun v w' => ∃ y, v = .tuple #[.agg ⟨y⟩, .int .i64 (newN x)] ∧ Fr w.heap.size w'.heap.size w' (newP x).dat y ∧ Ext w w')
theorem new_post {x : DPool} {w w' : World} {v : Value} (hm : ∀ y, y ∈ x.Mem → 0 ≤ y ∧ y ≤ 255) (hs : x.dat.sz ≤ 1048576) (h : NewV (newF x.Mem x.Free.Total x.Free.Free) w v w') : ∃ y, v = .tuple #[.agg ⟨y⟩, .int .i64 (newN x)] ∧ Fr w.heap.size w'.heap.size w' (newP x).dat y ∧ Ext w w' := by
  obtain ⟨tm, tf, rfl, hp, e⟩ := h
  have hx := pool_few hs
  exact ⟨_, rfl, fr_pool hp (new_out hm hx.1 hx.2).1, e⟩
theorem specSpaceNew : NewS 37 := by
  intro x w cs h hs
  obtain ⟨sm, sf, rfl, hm, hf⟩ := pool_of h hs
  exact (c37 hm hf).mono (fun v w' hv => new_post hm.rng hs hv)
theorem implSpaceNew : NewS 38 := by
  intro x w cs h hs
  obtain ⟨sm, sf, rfl, hm, hf⟩ := pool_of h hs
  exact (c38 hm hf).mono (fun v w' hv => new_post hm.rng hs hv)
end Go.Proofs.Ytkgoanjemhbjgaa

/- The law's own functions over trees: copies, sizes, comparisons, marks; printed by a program. Conditions: none. -/
set_option linter.unusedVariables false
set_option linter.unusedSimpArgs false
set_option maxRecDepth 4000
namespace Go.Proofs.Ytkgoanjemhbjgaa
open Go Go.Den


/- markByteS -/
theorem c104 {l : List Dat} {a0 : Sl} {bs : List Nat} {k0 : Int} {w : World} (ht : ∀ e, e ∈ l → Has (.int .u8) e) (h : OwnD w (.sl 1 l) bs [.slice a0.a a0.len a0.cap]) (hn : bs.Nodup) (h0 : 1 ≤ k0) (hk : k0 + Dat.cnts l ≤ 1099511627776) : CallW Try.prog 104 #[.slice a0.a a0.len a0.cap, .int .i64 k0] w (fun v w' => v = .int .i64 (k0 + Dat.cnts l) ∧ ∃ l', l'.length = l.length ∧ Dat.cnts l' = Dat.cnts l ∧ (∀ e, e ∈ l' → Has (.int .u8) e) ∧ MarkedF TXT l' k0 ∧ OwnD w' (.sl 1 l') bs [.slice a0.a a0.len a0.cap] ∧ Only (fun k => k ∈ bs) w w') := by
  refine go104 ?_
  unfold W104
  obtain ⟨hlen, hmax⟩ := ownD_len h
  have hmx : maxLen = 9223372036854775807 := rfl
  rw [hlen]
  refine LoopW.m2 (fun (x i : Int) w' => ∃ (k : Nat) (l' : List Dat), i = k ∧ k ≤ l.length ∧ l'.length = k ∧ x = k0 + Dat.cnts l' ∧ Dat.cnts l' = Dat.cnts (l.take k) ∧ (∀ e, e ∈ l' → Has (.int .u8) e) ∧ MarkedF TXT l' k0 ∧ OwnD w' (.sl 1 (l' ++ l.drop k)) bs [.slice a0.a a0.len a0.cap] ∧ Only (fun k => k ∈ bs) w w') (fun _ (i : Int) _ => (l.length - i).toNat) ⟨0, [], rfl, by omega, rfl, by simp [Dat.cnts], by simp [Dat.cnts], fun e he => (by cases he), markedF_nil, by simpa using h, Only.refl _ _⟩ ?_
  rintro (kx : Int) (i : Int) w4 ⟨k, l', rfl, hkl, hl', hx, hcn, hty, hmk, ho, o4⟩ J hJ
  refine BIf.dec (fun hlt => ?_) (fun hge => ?_)
  · obtain ⟨d, hd⟩ : ∃ d, l[k]? = some d := ⟨_, List.getElem?_eq_getElem (by omega)⟩
    have hcg := cnts_get hd
    have hct := cnts_take hd
    have ht0 := ht d (mem_get hd)
    obtain ⟨x, rfl⟩ := has_int ht0
    simp only [Dat.cnt, Dat.cnts] at hcg hct
    obtain ⟨b, bp, b1, bq, vp, v1, vq, ha, hbs, hvp, hod, hm, hvl, hlc, _⟩ := ownD_at ho (get_app hl' hd)
    rw [(take_app hl').1, (take_app hl').2] at hm
    have hv0 := hm.len
    have hbs0 := hbs
    rw [Int.toNat_natCast, ← hvp]
    simp (disch := omega) only [w64]
    refine ⟨by omega, by omega, _, ha, ?_⟩
    obtain ⟨hmay, hm2, o5⟩ := hm.set (fun c hc he => by rw [hbs] at hn; simp only [List.nodup_cons, List.mem_append, not_or] at hn; subst he; rcases hc with hc | hc; exact hn.1.1 hc; exact hn.1.2.2 hc) (j := 0) (by omega) (.int .u8 (IntKind.wrap .u8 (kx)))
    refine ⟨hmay, LetW_iff.2 ?_⟩
    have o4 := Only.trans o4 (o5.mono (fun c _ hc => by subst hc; rw [hbs]; simp))
    have hrow := row_close (bs := bs) (a0 := a0) (d' := .int .u8 (IntKind.wrap .u8 (kx))) hm2 (bd := b1) (by obtain ⟨hb1, hc1⟩ := sc_int _ _ hod; subst hb1; obtain ⟨y, rfl⟩ : ∃ y, v1 = [y] := by { match v1, hc1 with | [y], _ => exact ⟨y, rfl⟩ }; exact own_int wf_u8w) hvp hl' (by omega) ha (by rw [hlen]) hbs (by have : (l' ++ l.drop k).length = l.length := (by simp; omega); omega) hmax hv0 hvl
    refine hJ _ _ _ ⟨k + 1, l' ++ [_], by omega, by omega, by simp; omega, ?_, ?_, has_snoc hty mk_int, markedF_snoc hmk (marked_int rfl) hx, hrow, o4⟩ (by omega)
    · rw [cnts_snoc]; simp only [Dat.cnt, Dat.cnts]; omega
    · rw [cnts_snoc, hct]; simp only [Dat.cnt, Dat.cnts]; omega
  · have hkl2 : k = l.length := by omega
    subst hkl2
    rw [List.take_length] at hcn
    rw [List.drop_length, List.append_nil, hlen] at ho
    exact ⟨by rw [hx, hcn], l', hl', hcn, hty, hmk, ho, o4⟩

/- markBlockS -/
theorem c164 {l : List Dat} {a0 : Sl} {bs : List Nat} {k0 : Int} {w : World} (ht : ∀ e, e ∈ l → Has TyBlock e) (h : OwnD w (.sl 2 l) bs [.slice a0.a a0.len a0.cap]) (hn : bs.Nodup) (h0 : 1 ≤ k0) (hk : k0 + Dat.cnts l ≤ 1099511627776) : CallW Try.prog 164 #[.slice a0.a a0.len a0.cap, .int .i64 k0] w (fun v w' => v = .int .i64 (k0 + Dat.cnts l) ∧ ∃ l', l'.length = l.length ∧ Dat.cnts l' = Dat.cnts l ∧ (∀ e, e ∈ l' → Has TyBlock e) ∧ MarkedF TXT l' k0 ∧ OwnD w' (.sl 2 l') bs [.slice a0.a a0.len a0.cap] ∧ Only (fun k => k ∈ bs) w w') := by
  refine go164 ?_
  unfold W164
  obtain ⟨hlen, hmax⟩ := ownD_len h
  have hmx : maxLen = 9223372036854775807 := rfl
  rw [hlen]
  refine LoopW.m2 (fun (x i : Int) w' => ∃ (k : Nat) (l' : List Dat), i = k ∧ k ≤ l.length ∧ l'.length = k ∧ x = k0 + Dat.cnts l' ∧ Dat.cnts l' = Dat.cnts (l.take k) ∧ (∀ e, e ∈ l' → Has TyBlock e) ∧ MarkedF TXT l' k0 ∧ OwnD w' (.sl 2 (l' ++ l.drop k)) bs [.slice a0.a a0.len a0.cap] ∧ Only (fun k => k ∈ bs) w w') (fun _ (i : Int) _ => (l.length - i).toNat) ⟨0, [], rfl, by omega, rfl, by simp [Dat.cnts], by simp [Dat.cnts], fun e he => (by cases he), markedF_nil, by simpa using h, Only.refl _ _⟩ ?_
  rintro (kx : Int) (i : Int) w4 ⟨k, l', rfl, hkl, hl', hx, hcn, hty, hmk, ho, o4⟩ J hJ
  refine BIf.dec (fun hlt => ?_) (fun hge => ?_)
  · obtain ⟨d, hd⟩ : ∃ d, l[k]? = some d := ⟨_, List.getElem?_eq_getElem (by omega)⟩
    have hcg := cnts_get hd
    have hct := cnts_take hd
    have ht0 := ht d (mem_get hd)
    obtain ⟨x_0, x_1, rfl⟩ := has_Block ht0
    simp only [Dat.cnt, Dat.cnts] at hcg hct
    obtain ⟨b, bp, b1, bq, vp, v1, vq, ha, hbs, hvp, hod, hm, hvl, hlc, _⟩ := ownD_at ho (get_app hl' hd)
    rw [(take_app hl').1, (take_app hl').2] at hm
    have hv0 := hm.len
    have hbs0 := hbs
    rw [Int.toNat_natCast, ← hvp]
    simp (disch := omega) only [w64]
    have hbs : bs = b :: (bp ++ (([] ++ b1) ++ bq)) := hbs
    have me : ME w4 b 2 l' (l.drop (k + 1)) bp bq vp vq [] _ [] b1 [] v1 := ⟨hm, by unfold OwnF; exact ⟨rfl, rfl⟩, ownD_st hod, by rw [← hbs]; exact hn⟩
    refine ⟨by omega, by omega, _, ha, ?_⟩
    refine me.sc (d' := .int .i64 (kx)) sc_int (fun w => own_int (wf_i64 (by omega) (by omega))) rfl (fun w5 cr5 o5 me => ?_)
    have o4 := Only.trans o4 (o5.mono (fun c _ hc => by subst hc; rw [hbs]; simp))
    refine ⟨by omega, by omega, _, ha, ?_⟩
    refine me.sc (d' := .int .i64 (kx + 1)) sc_int (fun w => own_int (wf_i64 (by omega) (by omega))) rfl (fun w6 cr6 o6 me => ?_)
    have o4 := Only.trans o4 (o6.mono (fun c _ hc => by subst hc; rw [hbs]; simp))
    obtain ⟨hm2, hod2, hbr⟩ := me.fin
    subst hbr
    have hrow := row_close (bs := bs) (a0 := a0) hm2 hod2 hvp hl' (by omega) ha (by rw [hlen]) (by rw [hbs, List.append_nil]) (by have : (l' ++ l.drop k).length = l.length := (by simp; omega); omega) hmax hv0 hvl
    have hmkd : Marked TXT (.st [.int .i64 (kx), .int .i64 (kx + 1)]) kx := marked_st (markedF_cons (k := kx) (k' := kx + 1) (marked_int (by rw [w64 (by omega) (by omega)])) (markedF_cons (k := kx + 1) (k' := kx + 1 + 1) (marked_int (by rw [w64 (by omega) (by omega)])) (markedF_nil (k := kx + 1 + 1)) (by simp only [Dat.cnt]; omega)) (by simp only [Dat.cnt]; omega))
    have hhas : Has TyBlock (.st [.int .i64 (kx), .int .i64 (kx + 1)]) := mk_st (mkF_cons mk_int (mkF_cons mk_int (mkF_nil)))
    refine hJ _ _ _ ⟨k + 1, l' ++ [_], by omega, by omega, by simp; omega, ?_, ?_, has_snoc hty hhas, markedF_snoc hmk hmkd hx, hrow, o4⟩ (by omega)
    · rw [cnts_snoc]; simp only [Dat.cnt, Dat.cnts]; omega
    · rw [cnts_snoc, hct]; simp only [Dat.cnt, Dat.cnts]; omega
  · have hkl2 : k = l.length := by omega
    subst hkl2
    rw [List.take_length] at hcn
    rw [List.drop_length, List.append_nil, hlen] at ho
    exact ⟨by rw [hx, hcn], l', hl', hcn, hty, hmk, ho, o4⟩

/- markFrames -/
theorem c105 {d : Dat} {cs : List Value} {bs : List Nat} {k0 : Int} {w : World} (ht : Has TyFrames d) (h : OwnD w d bs cs) (hn : bs.Nodup) (h0 : 1 ≤ k0) (hk : k0 + d.cntT ≤ 1099511627776) : CallW Try.prog 105 #[.agg ⟨cs⟩, .int .i64 k0] w (fun v w' => v = .int .i64 (k0 + d.cntT) ∧ ∃ d', d'.cntT = d.cntT ∧ Has TyFrames d' ∧ MarkedT TXT d' k0 ∧ OwnD w' d' bs cs ∧ Only (fun k => k ∈ bs) w w') := by
 obtain ⟨x_0, l_1, rfl, t_1⟩ := has_Frames ht
 simp only [Dat.cntT, Dat.cntTs] at hk
 have f_ := ownD_st h
 obtain ⟨b_0, r_0, c_0, u_0, rfl, rfl, h_0, f_0⟩ := ownF_cons f_
 obtain ⟨b_1, r_1, c_1, u_1, rfl, rfl, h_1, f_1⟩ := ownF_cons f_0
 obtain ⟨rfl, rfl⟩ := ownF_nil f_1
 obtain ⟨rfl, rfl, wo_0⟩ := ownD_i h_0
 obtain ⟨s_1, rfl⟩ := ownD_sl_s h_1
 have nd0 := (List.nodup_append.1 hn).1
 have dj0 := (List.nodup_append.1 hn).2.2
 have hn0 := (List.nodup_append.1 hn).2.1
 have nd1 := (List.nodup_append.1 hn0).1
 have dj1 := (List.nodup_append.1 hn0).2.2
 have hn1 := (List.nodup_append.1 hn0).2.1
 have lt1 := OwnD.lt _ _ _ h_1
 show CallW Try.prog 105 #[.agg #[.int .i64 x_0, .slice s_1.a s_1.len s_1.cap], .int .i64 k0] w _
 refine go105 ?_
 unfold W105
 refine alloc_step (fun w1 e1 hb n1 => ?_)
 have o_1 := OwnD.only e1 _ _ _ (fun _ _ x => x) h_1
 have ot : Only (fun k => k ∈ b_1) w w1 := Ext.any e1
 refine ⟨s_1, hb.cell 1, (c164 t_1 o_1 nd1 (by omega) (by omega)).mono ?_⟩
 rintro _ w3 ⟨rfl, m_1, _, cn_1, hs_1, mk_1, ow_1, oo⟩
 refine ⟨_, rfl, ?_⟩
 have hb := hb.only oo (fun hk => by have := lt1 _ hk; omega)
 have ot := Only.trans ot (oo.mono (fun c _ hc => by (try simp only [List.mem_append, List.not_mem_nil, or_false, false_or] at hc); (try simp only [List.mem_append, List.not_mem_nil, or_false, false_or]); first | (simp [hc]; done) | (rcases hc with hc | hc <;> simp [hc]; done) | (rcases hc with hc | hc | hc <;> simp [hc])))
 refine ⟨by congr 1; simp only [Dat.cntT, Dat.cntTs]; omega, .st [.int .i64 x_0, .sl 2 m_1], by simp only [Dat.cntT, Dat.cntTs]; omega, mk_st (mkF_cons mk_int (mkF_cons (mk_sl hs_1) (mkF_nil))), markedT_st (markedTF_cons (k' := k0) markedT_int (markedTF_cons (k' := k0 + (Dat.cnts l_1 : Nat)) (marked_slT mk_1) (markedTF_nil) (by simp only [Dat.cntT, Dat.cntTs] at *; omega)) (by simp only [Dat.cntT]; omega)), ownD_mkSt (ownF_mk (own_int wo_0) (ownF_mk ow_1 (ownF_mk0))), ot.mono (fun c _ hc => by (try simp only [List.mem_append, List.not_mem_nil, or_false, false_or] at hc); (try simp only [List.mem_append, List.not_mem_nil, or_false, false_or]); first | (simp [hc]; done) | (rcases hc with hc | hc <;> simp [hc]; done) | (rcases hc with hc | hc | hc <;> simp [hc]))⟩

/- markPool -/
theorem c39 {d : Dat} {cs : List Value} {bs : List Nat} {k0 : Int} {w : World} (ht : Has TyPool d) (h : OwnD w d bs cs) (hn : bs.Nodup) (h0 : 1 ≤ k0) (hk : k0 + d.cntT ≤ 1099511627776) : CallW Try.prog 39 #[.agg ⟨cs⟩, .int .i64 k0] w (fun v w' => v = .int .i64 (k0 + d.cntT) ∧ ∃ d', d'.cntT = d.cntT ∧ Has TyPool d' ∧ MarkedT TXT d' k0 ∧ OwnD w' d' bs cs ∧ Only (fun k => k ∈ bs) w w') := by
 obtain ⟨l_0, x_1_0, l_1_1, rfl, t_0, h_1k, t_1_1⟩ := has_Pool ht
 simp only [Dat.cntT, Dat.cntTs] at hk
 have f_ := ownD_st h
 obtain ⟨b_0, r_0, c_0, u_0, rfl, rfl, h_0, f_0⟩ := ownF_cons f_
 obtain ⟨b_1, r_1, c_1, u_1, rfl, rfl, h_1, f_1⟩ := ownF_cons f_0
 obtain ⟨rfl, rfl⟩ := ownF_nil f_1
 obtain ⟨s_0, rfl⟩ := ownD_sl_s h_0
 have f_1 := ownD_st h_1
 obtain ⟨b_1_0, r_1_0, c_1_0, u_1_0, rfl, rfl, h_1_0, f_1_0⟩ := ownF_cons f_1
 obtain ⟨b_1_1, r_1_1, c_1_1, u_1_1, rfl, rfl, h_1_1, f_1_1⟩ := ownF_cons f_1_0
 obtain ⟨rfl, rfl⟩ := ownF_nil f_1_1
 obtain ⟨rfl, rfl, wo_1_0⟩ := ownD_i h_1_0
 obtain ⟨s_1_1, rfl⟩ := ownD_sl_s h_1_1
 have nd0 := (List.nodup_append.1 hn).1
 have dj0 := (List.nodup_append.1 hn).2.2
 have hn0 := (List.nodup_append.1 hn).2.1
 have nd1 := (List.nodup_append.1 hn0).1
 have dj1 := (List.nodup_append.1 hn0).2.2
 have hn1 := (List.nodup_append.1 hn0).2.1
 have lt0 := OwnD.lt _ _ _ h_0
 have lt1 := OwnD.lt _ _ _ h_1
 show CallW Try.prog 39 #[.agg #[.slice s_0.a s_0.len s_0.cap, .int .i64 x_1_0, .slice s_1_1.a s_1_1.len s_1_1.cap], .int .i64 k0] w _
 refine go39 ?_
 unfold W39
 refine alloc_step (fun w1 e1 hb n1 => ?_)
 have o_0 := OwnD.only e1 _ _ _ (fun _ _ x => x) h_0
 have o_1 := OwnD.only e1 _ _ _ (fun _ _ x => x) h_1
 have ot : Only (fun k => k ∈ b_0 ∨ k ∈ ([] ++ (b_1_1 ++ []))) w w1 := Ext.any e1
 refine ⟨s_0, hb.cell 0, (c104 t_0 o_0 nd0 (by omega) (by omega)).mono ?_⟩
 rintro _ w2 ⟨rfl, m_0, _, cn_0, hs_0, mk_0, ow_0, oo⟩
 refine ⟨_, rfl, ?_⟩
 have hb := hb.only oo (fun hk => by have := lt0 _ hk; omega)
 have ot := Only.trans ot (oo.mono (fun c _ hc => by (try simp only [List.mem_append, List.not_mem_nil, or_false, false_or] at hc); (try simp only [List.mem_append, List.not_mem_nil, or_false, false_or]); first | (simp [hc]; done) | (rcases hc with hc | hc <;> simp [hc]; done) | (rcases hc with hc | hc | hc <;> simp [hc])))
 have o_1 := OwnD.only oo _ _ _ (fun c hc hd => dj0 c hd c (by (try simp only [List.mem_append, List.not_mem_nil, or_false, false_or] at hc); (try simp only [List.mem_append, List.not_mem_nil, or_false, false_or]); first | (simp [hc]; done) | (rcases hc with hc | hc <;> simp [hc]; done) | (rcases hc with hc | hc | hc <;> simp [hc])) rfl) o_1
 refine ⟨_, hb.cell 1, s_1_1, hb.cell 2, (c105 (d := .st [.int .i64 x_1_0, .sl 2 l_1_1]) h_1k o_1 nd1 (by omega) (by simp only [Dat.cntT, Dat.cntTs]; omega)).mono ?_⟩
 rintro _ w3 ⟨rfl, m_1, cn_1, hs_1, mk_1, ow_1, oo⟩
 simp only [Dat.cntT, Dat.cntTs] at cn_1
 refine ⟨_, rfl, ?_⟩
 have hb := hb.only oo (fun hk => by have := lt1 _ hk; omega)
 have ot := Only.trans ot (oo.mono (fun c _ hc => by (try simp only [List.mem_append, List.not_mem_nil, or_false, false_or] at hc); (try simp only [List.mem_append, List.not_mem_nil, or_false, false_or]); first | (simp [hc]; done) | (rcases hc with hc | hc <;> simp [hc]; done) | (rcases hc with hc | hc | hc <;> simp [hc])))
 have ow_0 := OwnD.only oo _ _ _ (fun c hc hd => dj0 c hc c (by (try simp only [List.mem_append, List.not_mem_nil, or_false, false_or] at hd); (try simp only [List.mem_append, List.not_mem_nil, or_false, false_or]); first | (simp [hd]; done) | (rcases hd with hd | hd <;> simp [hd]; done) | (rcases hd with hd | hd | hd <;> simp [hd])) rfl) ow_0
 refine ⟨by congr 1; simp only [Dat.cntT, Dat.cntTs]; omega, .st [.sl 1 m_0, m_1], by simp only [Dat.cntT, Dat.cntTs]; omega, mk_st (mkF_cons (mk_sl hs_0) (mkF_cons hs_1 (mkF_nil))), markedT_st (markedTF_cons (k' := k0 + (Dat.cnts l_0 : Nat)) (marked_slT mk_0) (markedTF_cons (k' := k0 + (Dat.cnts l_0 : Nat) + ((Dat.st [.int .i64 x_1_0, .sl 2 l_1_1]).cntT : Nat)) (mk_1) (markedTF_nil) (by simp only [Dat.cntT, Dat.cntTs] at *; omega)) (by simp only [Dat.cntT, Dat.cntTs] at *; omega)), ownD_mkSt (ownF_mk ow_0 (ownF_mk ow_1 (ownF_mk0))), ot.mono (fun c _ hc => by (try simp only [List.mem_append, List.not_mem_nil, or_false, false_or] at hc); (try simp only [List.mem_append, List.not_mem_nil, or_false, false_or]); first | (simp [hc]; done) | (rcases hc with hc | hc <;> simp [hc]; done) | (rcases hc with hc | hc | hc <;> simp [hc]))⟩

/- heldByteS -/
theorem c106 {l : List Dat} {a0 : Sl} {k0 : Int} {w : World} (ht : ∀ e, e ∈ l → Has (.int .u8) e) (h : IsD w (.sl 1 l) [.slice a0.a a0.len a0.cap]) (hm : MarkedF TXT l k0) (h0 : 1 ≤ k0) (hk : k0 + Dat.cnts l ≤ 1099511627776) : CallW Try.prog 106 #[.slice a0.a a0.len a0.cap, .int .i64 k0] w (fun v w' => v = .int .i64 (k0 + Dat.cnts l) ∧ Ext w w') := by
  refine go106 ?_
  unfold W106
  obtain ⟨hlen, hmax, _⟩ := isD_sl h
  have hmx : maxLen = 9223372036854775807 := rfl
  rw [hlen]
  refine LoopW.m2 (fun (x i : Int) w' => ∃ k : Nat, i = k ∧ k ≤ l.length ∧ x = k0 + Dat.cnts (l.take k) ∧ Ext w w') (fun _ (i : Int) _ => (l.length - i).toNat) ⟨0, rfl, by omega, by simp [Dat.cnts], Only.refl _ _⟩ ?_
  rintro (kx : Int) (i : Int) w4 ⟨k, rfl, hkl, hx, e4⟩ J hJ
  refine BIf.dec (fun hlt => ?_) (fun hge => ?_)
  · obtain ⟨d, hd⟩ : ∃ d, l[k]? = some d := ⟨_, List.getElem?_eq_getElem (by omega)⟩
    have hcg := cnts_get hd
    have hct := cnts_take hd
    have hmd := markedF_get hm hd
    rw [← hx] at hmd
    have ht0 := ht d (mem_get hd)
    obtain ⟨p, es, hp, he, hc, his⟩ := isD_at (IsD.ext e4 _ _ h) hd
    obtain ⟨x, rfl⟩ := has_int ht0
    obtain ⟨rfl, ws⟩ := isD_int his
    simp only [Dat.cnt, Dat.cnts] at hcg hct
    simp only [Marked, MarkedF, Dat.cnt, Dat.cnts] at hmd
    have m := hmd
    try simp (disch := omega) only [w64]
    refine ⟨by omega, by omega, p, hp, _, hc 0 _ rfl, BIf.f (by rw [m]; first | (simp; done) | (simp; congr 1; omega)) ?_⟩
    exact hJ _ _ _ ⟨k + 1, by omega, by omega, by rw [hct]; omega, e4⟩ (by omega)
  · rw [List.take_of_length_le (by omega)] at hx
    exact ⟨by rw [hx], e4⟩

/- heldBlockS -/
theorem c165 {l : List Dat} {a0 : Sl} {k0 : Int} {w : World} (ht : ∀ e, e ∈ l → Has TyBlock e) (h : IsD w (.sl 2 l) [.slice a0.a a0.len a0.cap]) (hm : MarkedF TXT l k0) (h0 : 1 ≤ k0) (hk : k0 + Dat.cnts l ≤ 1099511627776) : CallW Try.prog 165 #[.slice a0.a a0.len a0.cap, .int .i64 k0] w (fun v w' => v = .int .i64 (k0 + Dat.cnts l) ∧ Ext w w') := by
  refine go165 ?_
  unfold W165
  obtain ⟨hlen, hmax, _⟩ := isD_sl h
  have hmx : maxLen = 9223372036854775807 := rfl
  rw [hlen]
  refine LoopW.m2 (fun (x i : Int) w' => ∃ k : Nat, i = k ∧ k ≤ l.length ∧ x = k0 + Dat.cnts (l.take k) ∧ Ext w w') (fun _ (i : Int) _ => (l.length - i).toNat) ⟨0, rfl, by omega, by simp [Dat.cnts], Only.refl _ _⟩ ?_
  rintro (kx : Int) (i : Int) w4 ⟨k, rfl, hkl, hx, e4⟩ J hJ
  refine BIf.dec (fun hlt => ?_) (fun hge => ?_)
  · obtain ⟨d, hd⟩ : ∃ d, l[k]? = some d := ⟨_, List.getElem?_eq_getElem (by omega)⟩
    have hcg := cnts_get hd
    have hct := cnts_take hd
    have hmd := markedF_get hm hd
    rw [← hx] at hmd
    have ht0 := ht d (mem_get hd)
    obtain ⟨p, es, hp, he, hc, his⟩ := isD_at (IsD.ext e4 _ _ h) hd
    obtain ⟨x_0, x_1, rfl⟩ := has_Block ht0
    obtain ⟨rfl, ws_0, ws_1⟩ := cells_Block his
    simp only [Dat.cnt, Dat.cnts] at hcg hct
    simp only [Marked, MarkedF, Dat.cnt, Dat.cnts] at hmd
    obtain ⟨m_0, m_1, _⟩ := hmd
    try simp (disch := omega) only [w64]
    refine ⟨by omega, by omega, p, hp, _, hc 0 _ rfl, BIf.f (by rw [m_0, w64 (by omega) (by omega)]; first | (simp; done) | (simp; omega)) ?_⟩
    refine ⟨by omega, by omega, p, hp, _, hc 1 _ rfl, BIf.f (by rw [m_1, w64 (by omega) (by omega)]; first | (simp; done) | (simp; omega)) ?_⟩
    exact hJ _ _ _ ⟨k + 1, by omega, by omega, by rw [hct]; omega, e4⟩ (by omega)
  · rw [List.take_of_length_le (by omega)] at hx
    exact ⟨by rw [hx], e4⟩

/- heldFrames -/
theorem c107 {d : Dat} {cs : List Value} {k0 : Int} {w : World} (ht : Has TyFrames d) (h : IsD w d cs) (hm : MarkedT TXT d k0) (h0 : 1 ≤ k0) (hk : k0 + d.cntT ≤ 1099511627776) : CallW Try.prog 107 #[.agg ⟨cs⟩, .int .i64 k0] w (fun v w' => v = .int .i64 (k0 + d.cntT) ∧ Ext w w') := by
 obtain ⟨x_0, l_1, rfl, t_1⟩ := has_Frames ht
 obtain ⟨s_1, rfl, ws_0, is_1⟩ := cells_Frames h
 simp only [Dat.cntT, Dat.cntTs] at hk
 simp only [MarkedT, MarkedTF, Dat.cntT, Dat.cntTs] at hm
 obtain ⟨_, m_1, _⟩ := hm
 refine go107 ?_
 unfold W107
 refine alloc_step (fun w1 e hb n1 => ?_)
 refine ⟨s_1, hb.cell 1, (c165 (k0 := k0) t_1 (IsD.ext e _ _ is_1) (markedF_at m_1 (by omega)) (by omega) (by omega)).mono ?_⟩
 rintro _ w3 ⟨rfl, e3⟩
 have hb := hb.ext e3
 have e := Only.trans e e3
 refine ⟨_, rfl, BIf.f (decide_eq_false (by omega)) ?_⟩
 exact ⟨by congr 1; simp only [Dat.cntT, Dat.cntTs]; omega, e⟩

/- heldPool -/
theorem c40 {d : Dat} {cs : List Value} {k0 : Int} {w : World} (ht : Has TyPool d) (h : IsD w d cs) (hm : MarkedT TXT d k0) (h0 : 1 ≤ k0) (hk : k0 + d.cntT ≤ 1099511627776) : CallW Try.prog 40 #[.agg ⟨cs⟩, .int .i64 k0] w (fun v w' => v = .int .i64 (k0 + d.cntT) ∧ Ext w w') := by
 obtain ⟨l_0, x_1_0, l_1_1, rfl, t_0, h_1k, t_1_1⟩ := has_Pool ht
 obtain ⟨s_0, s_1_1, rfl, is_0, is_1, ws_1_0, is_1_1⟩ := cells_Pool h
 simp only [Dat.cntT, Dat.cntTs] at hk
 simp only [MarkedT, MarkedTF, Dat.cntT, Dat.cntTs] at hm
 obtain ⟨m_0, m_1, _⟩ := hm
 refine go40 ?_
 unfold W40
 refine alloc_step (fun w1 e hb n1 => ?_)
 refine ⟨s_0, hb.cell 0, (c106 (k0 := k0) t_0 (IsD.ext e _ _ is_0) (markedF_at m_0 (by omega)) (by omega) (by omega)).mono ?_⟩
 rintro _ w2 ⟨rfl, e2⟩
 have hb := hb.ext e2
 have e := Only.trans e e2
 refine ⟨_, rfl, BIf.f (decide_eq_false (by omega)) ?_⟩
 refine ⟨_, hb.cell 1, s_1_1, hb.cell 2, (c107 (d := .st [.int .i64 x_1_0, .sl 2 l_1_1]) (k0 := k0 + (Dat.cnts l_0 : Nat)) h_1k (IsD.ext e _ _ is_1) (markedT_at (by simp only [MarkedT, MarkedTF, Dat.cntT, Dat.cntTs]; exact m_1) (by omega)) (by omega) (by simp only [Dat.cntT, Dat.cntTs]; omega)).mono ?_⟩
 rintro _ w3 ⟨rfl, e3⟩
 have hb := hb.ext e3
 have e := Only.trans e e3
 refine ⟨_, rfl, BIf.f (decide_eq_false (by omega)) ?_⟩
 exact ⟨by congr 1; simp only [Dat.cntT, Dat.cntTs]; omega, e⟩

end Go.Proofs.Ytkgoanjemhbjgaa
