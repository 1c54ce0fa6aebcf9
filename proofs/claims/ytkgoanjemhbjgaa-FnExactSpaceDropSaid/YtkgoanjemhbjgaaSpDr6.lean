/- Part 6 of 7: plain readings of code, rules for them, and a proof over them, joined by a program. Conditions: none. -/
import Derived.Test.YtkgoanjemhbjgaaSpDr5
/- The law's own functions over trees: copies, sizes, comparisons, marks; printed by a program. Conditions: none. -/
set_option linter.unusedVariables false
set_option linter.unusedSimpArgs false
set_option maxRecDepth 4000
namespace Go.Proofs.Ytkgoanjemhbjgaa
open Go Go.Den

theorem has_Block {d : Dat} (h : Has TyBlock d) : ∃ x_0 : Int, ∃ x_1 : Int, d = .st [.int .i64 x_0, .int .i64 x_1] := by
  obtain ⟨_, rfl, g⟩ := has_st h
  obtain ⟨_, _, rfl, h_0, g⟩ := hasF_cons g
  obtain ⟨_, _, rfl, h_1, g⟩ := hasF_cons g
  obtain rfl := hasF_nil g
  obtain ⟨x_0, rfl⟩ := has_int h_0
  obtain ⟨x_1, rfl⟩ := has_int h_1
  exact ⟨x_0, x_1, rfl⟩
theorem cells_Block {w : World} {x_0 : Int} {x_1 : Int} {cs : List Value} (h : IsD w (.st [.int .i64 x_0, .int .i64 x_1]) cs) : cs = [.int .i64 x_0, .int .i64 x_1] ∧ ((Lit.int .i64 x_0).wf = true) ∧ ((Lit.int .i64 x_1).wf = true) := by
  have q := isD_st h
  obtain ⟨_, _, rfl, i_0, q⟩ := isF_cons q
  obtain ⟨_, _, rfl, i_1, q⟩ := isF_cons q
  obtain rfl := isF_nil q
  obtain ⟨rfl, ws_0⟩ := isD_int i_0
  obtain ⟨rfl, ws_1⟩ := isD_int i_1
  exact ⟨rfl, ws_0, ws_1⟩
theorem has_Frames {d : Dat} (h : Has TyFrames d) : ∃ x_0 : Int, ∃ l_1 : List Dat, d = .st [.int .i64 x_0, .sl 2 l_1] ∧ (∀ e, e ∈ l_1 → Has TyBlock e) := by
  obtain ⟨_, rfl, g⟩ := has_st h
  obtain ⟨_, _, rfl, h_0, g⟩ := hasF_cons g
  obtain ⟨_, _, rfl, h_1, g⟩ := hasF_cons g
  obtain rfl := hasF_nil g
  obtain ⟨x_0, rfl⟩ := has_int h_0
  obtain ⟨l_1, rfl, t_1⟩ := has_sl h_1
  exact ⟨x_0, l_1, rfl, t_1⟩
theorem cells_Frames {w : World} {x_0 : Int} {l_1 : List Dat} {cs : List Value} (h : IsD w (.st [.int .i64 x_0, .sl 2 l_1]) cs) : ∃ s_1 : Sl, cs = [.int .i64 x_0, .slice s_1.a s_1.len s_1.cap] ∧ ((Lit.int .i64 x_0).wf = true) ∧ (IsD w (.sl 2 l_1) [.slice s_1.a s_1.len s_1.cap]) := by
  have q := isD_st h
  obtain ⟨_, _, rfl, i_0, q⟩ := isF_cons q
  obtain ⟨_, _, rfl, i_1, q⟩ := isF_cons q
  obtain rfl := isF_nil q
  obtain ⟨rfl, ws_0⟩ := isD_int i_0
  obtain ⟨s_1, rfl⟩ := isD_sl_s i_1
  have is_1 := i_1
  exact ⟨s_1, rfl, ws_0, is_1⟩
theorem has_Pool {d : Dat} (h : Has TyPool d) : ∃ l_0 : List Dat, ∃ x_1_0 : Int, ∃ l_1_1 : List Dat, d = .st [.sl 1 l_0, .st [.int .i64 x_1_0, .sl 2 l_1_1]] ∧ (∀ e, e ∈ l_0 → Has (.int .u8) e) ∧ (Has TyFrames (.st [.int .i64 x_1_0, .sl 2 l_1_1])) ∧ (∀ e, e ∈ l_1_1 → Has TyBlock e) := by
  obtain ⟨_, rfl, g⟩ := has_st h
  obtain ⟨_, _, rfl, h_0, g⟩ := hasF_cons g
  obtain ⟨_, _, rfl, h_1, g⟩ := hasF_cons g
  obtain rfl := hasF_nil g
  obtain ⟨l_0, rfl, t_0⟩ := has_sl h_0
  have h_1k := h_1
  obtain ⟨x_1_0, l_1_1, rfl, t_1_1⟩ := has_Frames h_1
  exact ⟨l_0, x_1_0, l_1_1, rfl, t_0, h_1k, t_1_1⟩
theorem cells_Pool {w : World} {l_0 : List Dat} {x_1_0 : Int} {l_1_1 : List Dat} {cs : List Value} (h : IsD w (.st [.sl 1 l_0, .st [.int .i64 x_1_0, .sl 2 l_1_1]]) cs) : ∃ s_0 : Sl, ∃ s_1_1 : Sl, cs = [.slice s_0.a s_0.len s_0.cap, .int .i64 x_1_0, .slice s_1_1.a s_1_1.len s_1_1.cap] ∧ (IsD w (.sl 1 l_0) [.slice s_0.a s_0.len s_0.cap]) ∧ (IsD w (.st [.int .i64 x_1_0, .sl 2 l_1_1]) [.int .i64 x_1_0, .slice s_1_1.a s_1_1.len s_1_1.cap]) ∧ ((Lit.int .i64 x_1_0).wf = true) ∧ (IsD w (.sl 2 l_1_1) [.slice s_1_1.a s_1_1.len s_1_1.cap]) := by
  have q := isD_st h
  obtain ⟨_, _, rfl, i_0, q⟩ := isF_cons q
  obtain ⟨_, _, rfl, i_1, q⟩ := isF_cons q
  obtain rfl := isF_nil q
  obtain ⟨s_0, rfl⟩ := isD_sl_s i_0
  have is_0 := i_0
  have is_1 := i_1
  obtain ⟨s_1_1, rfl, ws_1_0, is_1_1⟩ := cells_Frames i_1
  exact ⟨s_0, s_1_1, rfl, is_0, is_1, ws_1_0, is_1_1⟩
/- toByteS -/
theorem c92 {l : List Dat} {a0 : Sl} {w : World} (ht : ∀ e, e ∈ l → Has (.int .u8) e) (h : IsD w (.sl 1 l) [.slice a0.a a0.len a0.cap]) (hs : (Dat.sl 1 l).sz ≤ 4194304) : CallW Try.prog 92 #[.slice a0.a a0.len a0.cap] w (fun v w' => ∃ s : Sl, v = .slice s.a s.len s.cap ∧ Fr w.heap.size w'.heap.size w' (.sl 1 l) [.slice s.a s.len s.cap] ∧ Ext w w') := by
  refine go92 ?_
  unfold W92
  obtain ⟨hlen, hmax, hel⟩ := isD_sl h
  simp only [Dat.sz] at hs
  rw [hlen]; simp only [Int.toNat_natCast]
  refine ⟨by omega, by omega, by omega, by omega, LetW_iff.2 ?_⟩
  have hs0 := ToInv.start (w := w) (z := 1) (zero := ti5.zero) (e := 5) l rfl
  generalize w.alloc (.cells ⟨zerosOf ti5.zero l.length⟩ 5) = w1 at *
  refine LoopW.m1 (fun (i : Int) w' => ∃ (k : Nat) (bs : List Nat) (vs : List Value), i = k ∧ ToInv w w' w.heap.size 1 l k bs vs) (fun (i : Int) _ => (l.length - i).toNat) ⟨0, [], _, rfl, hs0⟩ ?_
  rintro (i : Int) w4 ⟨k, bs, vs, rfl, hi⟩ J hJ
  refine BIf.dec (fun hlt => ?_) (fun hge => ?_)
  · obtain ⟨d, hd⟩ : ∃ d, l[k]? = some d := ⟨_, List.getElem?_eq_getElem (by omega)⟩
    have hsz := szs_get hd
    obtain ⟨p, es, hp, he, hc, his⟩ := isD_at (IsD.ext hi.ext _ _ h) hd
    have ht0 := ht d (mem_get hd)
    obtain ⟨x, rfl⟩ := has_int ht0
    obtain ⟨rfl, ws⟩ := isD_int his
    obtain ⟨b1, ho, hn, hb⟩ := fr_int (lo := w4.heap.size) (hi := w4.heap.size) (w := w4) ws
    obtain ⟨hm, hi2⟩ := hi.step hd (Only.refl _ _) ho hn (fun c hc => (hb c hc).1) rfl
    rw [puts_one] at hi2
    refine ⟨by omega, by omega, p, hp, _, hc 0 _ rfl, by omega, by omega, _, rfl, mayN_one hm, LetW_iff.2 ?_⟩
    rw [w64 (by omega) (by omega)]
    exact hJ _ _ ⟨k + 1, _, _, by omega, hi2⟩ (by omega)
  · exact ⟨⟨some ⟨w.heap.size, 0, none⟩, l.length, l.length⟩, rfl, (hi.done (by omega) hmax).fr, hi.ext⟩

/- toBlock -/
theorem c187 {d : Dat} {cs : List Value} {w : World} (ht : Has TyBlock d) (h : IsD w d cs) (hs : d.sz ≤ 4194304) : CallW Try.prog 187 #[.agg ⟨cs⟩] w (fun v w' => ∃ cs', v = .agg ⟨cs'⟩ ∧ Fr w.heap.size w'.heap.size w' d cs' ∧ Ext w w') := by
  obtain ⟨x_0, x_1, rfl⟩ := has_Block ht
  obtain ⟨rfl, ws_0, ws_1⟩ := cells_Block h
  show CallW Try.prog 187 #[.agg #[.int .i64 x_0, .int .i64 x_1]] w _
  refine go187 ?_
  unfold W187
  refine alloc_step (fun w1 e1 ha n1 => ?_)
  refine alloc_step (fun w2 e2 hc n2 => ?_)
  have ha := ha.ext e2
  refine alloc_step (fun w3 e3 hb n3 => ?_)
  have ha := ha.ext e3
  have hc := hc.ext e3
  have e := Only.trans e1 (Only.trans e2 e3)
  refine ⟨_, ha.cell 0, ?_⟩
  refine set_step hb (by simp) (fun w4 o4 hb n4 => ?_)
  have ha := ha.only o4 (by omega)
  have hc := hc.only o4 (by omega)
  have e := Ext.own e o4 (fun k hk => by omega)
  refine ⟨_, ha.cell 1, ?_⟩
  refine set_step hb (by simp) (fun w5 o5 hb n5 => ?_)
  have ha := ha.only o5 (by omega)
  have hc := hc.only o5 (by omega)
  have e := Ext.own e o5 (fun k hk => by omega)
  refine ⟨_, hb.cell 0, _, hb.cell 1, ?_⟩
  refine put_step hc rfl rfl (fun w6 o6 hc n6 => ?_)
  have e := Ext.own e o6 (fun k hk => by omega)
  refine ⟨_, hc.cell 0, _, hc.cell 1, ?_⟩
  exact ⟨[.int .i64 x_0, .int .i64 x_1], rfl, frF_st (frF_cons (m := w.heap.size) (fr_int ws_0) (frF_cons (m := w.heap.size) (fr_int ws_1) (frF_nil) (by omega) (by omega)) (by omega) (by omega)), e⟩

/- toBlockS -/
theorem c154 {l : List Dat} {a0 : Sl} {w : World} (ht : ∀ e, e ∈ l → Has TyBlock e) (h : IsD w (.sl 2 l) [.slice a0.a a0.len a0.cap]) (hs : (Dat.sl 2 l).sz ≤ 4194304) : CallW Try.prog 154 #[.slice a0.a a0.len a0.cap] w (fun v w' => ∃ s : Sl, v = .slice s.a s.len s.cap ∧ Fr w.heap.size w'.heap.size w' (.sl 2 l) [.slice s.a s.len s.cap] ∧ Ext w w') := by
  refine go154 ?_
  unfold W154
  obtain ⟨hlen, hmax, hel⟩ := isD_sl h
  simp only [Dat.sz] at hs
  rw [hlen]; simp only [Int.toNat_natCast]
  refine ⟨by omega, by omega, by omega, by omega, LetW_iff.2 ?_⟩
  have hs0 := ToInv.start (w := w) (z := 2) (zero := ti123.zero) (e := 123) l rfl
  generalize w.alloc (.cells ⟨zerosOf ti123.zero l.length⟩ 123) = w1 at *
  refine LoopW.m1 (fun (i : Int) w' => ∃ (k : Nat) (bs : List Nat) (vs : List Value), i = k ∧ ToInv w w' w.heap.size 2 l k bs vs) (fun (i : Int) _ => (l.length - i).toNat) ⟨0, [], _, rfl, hs0⟩ ?_
  rintro (i : Int) w4 ⟨k, bs, vs, rfl, hi⟩ J hJ
  refine BIf.dec (fun hlt => ?_) (fun hge => ?_)
  · obtain ⟨d, hd⟩ : ∃ d, l[k]? = some d := ⟨_, List.getElem?_eq_getElem (by omega)⟩
    have hsz := szs_get hd
    obtain ⟨p, es, hp, he, hc, his⟩ := isD_at (IsD.ext hi.ext _ _ h) hd
    have ht0 := ht d (mem_get hd)
    obtain ⟨x_0, x_1, rfl⟩ := has_Block ht0
    have his0 := his
    obtain ⟨rfl, ws_0, ws_1⟩ := cells_Block his
    refine ⟨by omega, by omega, p, hp, _, hc 0 _ rfl, _, hc 1 _ rfl, (c187 (cs := [.int .i64 x_0, .int .i64 x_1]) ht0 his0 (by omega)).mono ?_⟩
    rintro _ w9 ⟨r, rfl, f, e9⟩
    have hr := f.is
    obtain ⟨rfl, wr_0, wr_1⟩ := cells_Block hr
    obtain ⟨b1, ho, hn, hb⟩ := f
    obtain ⟨hm, hi2⟩ := hi.step hd e9 ho hn (fun c hc => (hb c hc).1) rfl
    refine ⟨_, _, rfl, by omega, by omega, _, rfl, hm, LetW_iff.2 ?_⟩
    rw [w64 (by omega) (by omega)]
    exact hJ _ _ ⟨k + 1, _, _, by omega, hi2⟩ (by omega)
  · exact ⟨⟨some ⟨w.heap.size, 0, none⟩, l.length, l.length⟩, rfl, (hi.done (by omega) hmax).fr, hi.ext⟩

/- toFrames -/
theorem c93 {d : Dat} {cs : List Value} {w : World} (ht : Has TyFrames d) (h : IsD w d cs) (hs : d.sz ≤ 4194304) : CallW Try.prog 93 #[.agg ⟨cs⟩] w (fun v w' => ∃ cs', v = .agg ⟨cs'⟩ ∧ Fr w.heap.size w'.heap.size w' d cs' ∧ Ext w w') := by
  obtain ⟨x_0, l_1, rfl, t_1⟩ := has_Frames ht
  obtain ⟨s_1, rfl, ws_0, is_1⟩ := cells_Frames h
  show CallW Try.prog 93 #[.agg #[.int .i64 x_0, .slice s_1.a s_1.len s_1.cap]] w _
  refine go93 ?_
  unfold W93
  refine alloc_step (fun w1 e1 ha n1 => ?_)
  refine alloc_step (fun w2 e2 hc n2 => ?_)
  have ha := ha.ext e2
  refine alloc_step (fun w3 e3 hb n3 => ?_)
  have ha := ha.ext e3
  have hc := hc.ext e3
  have e := Only.trans e1 (Only.trans e2 e3)
  refine ⟨_, ha.cell 0, ?_⟩
  refine set_step hb (by simp) (fun w4 o4 hb n4 => ?_)
  have ha := ha.only o4 (by omega)
  have hc := hc.only o4 (by omega)
  have e := Ext.own e o4 (fun k hk => by omega)
  refine ⟨s_1, ha.cell 1, ?_⟩
  refine (c154 t_1 (IsD.ext e _ _ is_1) (by simp only [Dat.sz, Dat.szs] at hs ⊢; omega)).mono ?_
  rintro _ w5 ⟨r_1, rfl, f_1, e5⟩
  refine ⟨r_1, rfl, ?_⟩
  have ha := ha.ext e5
  have hb := hb.ext e5
  have hc := hc.ext e5
  have e := Only.trans e e5
  have z5 := e5.size
  refine set_step hb (by simp) (fun w6 o6 hb n6 => ?_)
  have ha := ha.only o6 (by omega)
  have hc := hc.only o6 (by omega)
  have e := Ext.own e o6 (fun k hk => by omega)
  have f_1 := f_1.only o6 (fun k _ _ => by omega)
  refine ⟨_, hb.cell 0, r_1, hb.cell 1, ?_⟩
  refine put_step hc rfl rfl (fun w7 o7 hc n7 => ?_)
  have e := Ext.own e o7 (fun k hk => by omega)
  have f_1 := f_1.only o7 (fun k _ _ => by omega)
  refine ⟨_, hc.cell 0, r_1, hc.cell 1, ?_⟩
  exact ⟨[.int .i64 x_0, .slice r_1.a r_1.len r_1.cap], rfl, frF_st (frF_cons (m := w.heap.size) (fr_int ws_0) (frF_cons (m := w5.heap.size) (f_1.mono (by omega) (Nat.le_refl _)) (frF_nil) (by omega) (by omega)) (by omega) (by omega)), e⟩

/- toPool -/
theorem c34 {d : Dat} {cs : List Value} {w : World} (ht : Has TyPool d) (h : IsD w d cs) (hs : d.sz ≤ 4194304) : CallW Try.prog 34 #[.agg ⟨cs⟩] w (fun v w' => ∃ cs', v = .agg ⟨cs'⟩ ∧ Fr w.heap.size w'.heap.size w' d cs' ∧ Ext w w') := by
  obtain ⟨l_0, x_1_0, l_1_1, rfl, t_0, h_1k, t_1_1⟩ := has_Pool ht
  obtain ⟨s_0, s_1_1, rfl, is_0, is_1, ws_1_0, is_1_1⟩ := cells_Pool h
  show CallW Try.prog 34 #[.agg #[.slice s_0.a s_0.len s_0.cap, .int .i64 x_1_0, .slice s_1_1.a s_1_1.len s_1_1.cap]] w _
  refine go34 ?_
  unfold W34
  refine alloc_step (fun w1 e1 ha n1 => ?_)
  refine alloc_step (fun w2 e2 hc n2 => ?_)
  have ha := ha.ext e2
  refine alloc_step (fun w3 e3 hb n3 => ?_)
  have ha := ha.ext e3
  have hc := hc.ext e3
  have e := Only.trans e1 (Only.trans e2 e3)
  refine ⟨s_0, ha.cell 0, ?_⟩
  refine (c92 t_0 (IsD.ext e _ _ is_0) (by simp only [Dat.sz, Dat.szs] at hs ⊢; omega)).mono ?_
  rintro _ w4 ⟨r_0, rfl, f_0, e4⟩
  refine ⟨r_0, rfl, ?_⟩
  have ha := ha.ext e4
  have hb := hb.ext e4
  have hc := hc.ext e4
  have e := Only.trans e e4
  have z4 := e4.size
  refine set_step hb (by simp) (fun w5 o5 hb n5 => ?_)
  have ha := ha.only o5 (by omega)
  have hc := hc.only o5 (by omega)
  have e := Ext.own e o5 (fun k hk => by omega)
  have f_0 := f_0.only o5 (fun k _ _ => by omega)
  refine ⟨_, ha.cell 1, s_1_1, ha.cell 2, ?_⟩
  refine (c93 (cs := [.int .i64 x_1_0, .slice s_1_1.a s_1_1.len s_1_1.cap]) h_1k (IsD.ext e _ _ is_1) (by simp only [Dat.sz, Dat.szs] at hs ⊢; omega)).mono ?_
  rintro _ w6 ⟨r_1, rfl, f_1, e6⟩
  have hr_1 := f_1.is
  obtain ⟨r_1_1, rfl, wr_1_0, ir_1_1⟩ := cells_Frames hr_1
  refine ⟨_, r_1_1, rfl, ?_⟩
  have ha := ha.ext e6
  have hb := hb.ext e6
  have hc := hc.ext e6
  have e := Only.trans e e6
  have z6 := e6.size
  have f_0 := f_0.ext e6
  refine putAt_step hb rfl (by simp [setAll_length]) (fun w7 o7 hb n7 => ?_)
  have ha := ha.only o7 (by omega)
  have hc := hc.only o7 (by omega)
  have e := Ext.own e o7 (fun k hk => by omega)
  have f_0 := f_0.only o7 (fun k _ _ => by omega)
  have f_1 := f_1.only o7 (fun k _ _ => by omega)
  refine ⟨r_0, hb.cell 0, _, hb.cell 1, r_1_1, hb.cell 2, ?_⟩
  refine put_step hc rfl rfl (fun w8 o8 hc n8 => ?_)
  have e := Ext.own e o8 (fun k hk => by omega)
  have f_0 := f_0.only o8 (fun k _ _ => by omega)
  have f_1 := f_1.only o8 (fun k _ _ => by omega)
  refine ⟨r_0, hc.cell 0, _, hc.cell 1, r_1_1, hc.cell 2, ?_⟩
  exact ⟨[.slice r_0.a r_0.len r_0.cap, .int .i64 x_1_0, .slice r_1_1.a r_1_1.len r_1_1.cap], rfl, frF_st (frF_cons (m := w4.heap.size) (f_0.mono (by omega) (Nat.le_refl _)) (frF_cons (m := w6.heap.size) (f_1.mono (by omega) (Nat.le_refl _)) (frF_nil) (by omega) (by omega)) (by omega) (by omega)), e⟩

/- szByteS -/
theorem c89 {l : List Dat} {a0 : Sl} {left : Int} {w : World} (ht : ∀ e, e ∈ l → Has (.int .u8) e) (h : IsD w (.sl 1 l) [.slice a0.a a0.len a0.cap]) (h0 : 0 ≤ left) (hl : left ≤ 4611686018427387904) : CallW Try.prog 89 #[.slice a0.a a0.len a0.cap, .int .i64 left] w (fun v w' => SzPost (Dat.sl 1 l).sz left v ∧ Ext w w') := by
  refine go89 ?_
  unfold W89
  obtain ⟨hlen, hmax, hel⟩ := isD_sl h
  have hmx : maxLen = 9223372036854775807 := rfl
  rw [hlen, w64 (by omega) (by omega)]
  have hz : Dat.szs l = 0 := by
    refine szs_zero (fun d hd => ?_)
    have ht0 := ht d hd
    obtain ⟨x, rfl⟩ := has_int ht0
    rfl
  refine BIf.dec (fun hn => ⟨⟨_, rfl, .inr ⟨by omega, by simp only [Dat.sz]; omega⟩⟩, Only.refl _ _⟩) (fun hp => ⟨⟨_, rfl, .inl ⟨by simp only [Dat.sz]; omega, by omega⟩⟩, Only.refl _ _⟩)

/- szBlockS -/
theorem c151 {l : List Dat} {a0 : Sl} {left : Int} {w : World} (ht : ∀ e, e ∈ l → Has TyBlock e) (h : IsD w (.sl 2 l) [.slice a0.a a0.len a0.cap]) (h0 : 0 ≤ left) (hl : left ≤ 4611686018427387904) : CallW Try.prog 151 #[.slice a0.a a0.len a0.cap, .int .i64 left] w (fun v w' => SzPost (Dat.sl 2 l).sz left v ∧ Ext w w') := by
  refine go151 ?_
  unfold W151
  obtain ⟨hlen, hmax, hel⟩ := isD_sl h
  have hmx : maxLen = 9223372036854775807 := rfl
  rw [hlen, w64 (by omega) (by omega)]
  have hz : Dat.szs l = 0 := by
    refine szs_zero (fun d hd => ?_)
    have ht0 := ht d hd
    obtain ⟨x_0, x_1, rfl⟩ := has_Block ht0
    rfl
  refine BIf.dec (fun hn => ⟨⟨_, rfl, .inr ⟨by omega, by simp only [Dat.sz]; omega⟩⟩, Only.refl _ _⟩) (fun hp => ⟨⟨_, rfl, .inl ⟨by simp only [Dat.sz]; omega, by omega⟩⟩, Only.refl _ _⟩)

/- szFrames -/
theorem c90 {d : Dat} {cs : List Value} {left : Int} {w : World} (ht : Has TyFrames d) (h : IsD w d cs) (h0 : 0 ≤ left) (hl : left ≤ 4611686018427387904) : CallW Try.prog 90 #[.agg ⟨cs⟩, .int .i64 left] w (fun v w' => SzPost d.sz left v ∧ Ext w w') := by
  obtain ⟨x_0, l_1, rfl, t_1⟩ := has_Frames ht
  obtain ⟨s_1, rfl, ws_0, is_1⟩ := cells_Frames h
  show CallW Try.prog 90 #[.agg #[.int .i64 x_0, .slice s_1.a s_1.len s_1.cap], .int .i64 left] w _
  refine go90 ?_
  unfold W90
  refine alloc_step (fun w1 e ha n1 => ?_)
  have hmx : maxLen = 9223372036854775807 := rfl
  have hx : (0 : Int) ≤ left ∧ left ≤ left := ⟨h0, Int.le_refl _⟩
  have hd := Int.sub_zero left
  refine ⟨s_1, ha.cell 1, (c151 t_1 (IsD.ext e _ _ is_1) (by omega) (by omega)).mono ?_⟩
  rintro _ w2 ⟨⟨r2, rfl, hr2⟩, e2⟩
  have ha := ha.ext e2
  have e := Only.trans e e2
  refine ⟨r2, rfl, BIf.dec (fun hn => ⟨⟨_, rfl, .inr ⟨by omega, by simp only [Dat.sz, Dat.szs] at *; omega⟩⟩, e⟩) (fun hp2 => ?_)⟩
  exact ⟨⟨_, rfl, .inl ⟨by simp only [Dat.sz, Dat.szs] at *; omega, by omega⟩⟩, e⟩

/- szPool -/
theorem c32 {d : Dat} {cs : List Value} {left : Int} {w : World} (ht : Has TyPool d) (h : IsD w d cs) (h0 : 0 ≤ left) (hl : left ≤ 4611686018427387904) : CallW Try.prog 32 #[.agg ⟨cs⟩, .int .i64 left] w (fun v w' => SzPost d.sz left v ∧ Ext w w') := by
  obtain ⟨l_0, x_1_0, l_1_1, rfl, t_0, h_1k, t_1_1⟩ := has_Pool ht
  obtain ⟨s_0, s_1_1, rfl, is_0, is_1, ws_1_0, is_1_1⟩ := cells_Pool h
  show CallW Try.prog 32 #[.agg #[.slice s_0.a s_0.len s_0.cap, .int .i64 x_1_0, .slice s_1_1.a s_1_1.len s_1_1.cap], .int .i64 left] w _
  refine go32 ?_
  unfold W32
  refine alloc_step (fun w1 e ha n1 => ?_)
  have hmx : maxLen = 9223372036854775807 := rfl
  have hx : (0 : Int) ≤ left ∧ left ≤ left := ⟨h0, Int.le_refl _⟩
  have hd := Int.sub_zero left
  refine ⟨s_0, ha.cell 0, (c89 t_0 (IsD.ext e _ _ is_0) (by omega) (by omega)).mono ?_⟩
  rintro _ w2 ⟨⟨r2, rfl, hr2⟩, e2⟩
  have ha := ha.ext e2
  have e := Only.trans e e2
  refine ⟨r2, rfl, BIf.dec (fun hn => ⟨⟨_, rfl, .inr ⟨by omega, by simp only [Dat.sz, Dat.szs] at *; omega⟩⟩, e⟩) (fun hp2 => ?_)⟩
  refine ⟨_, ha.cell 1, s_1_1, ha.cell 2, (c90 (cs := [.int .i64 x_1_0, .slice s_1_1.a s_1_1.len s_1_1.cap]) h_1k (IsD.ext e _ _ is_1) (by omega) (by omega)).mono ?_⟩
  rintro _ w3 ⟨⟨r3, rfl, hr3⟩, e3⟩
  have ha := ha.ext e3
  have e := Only.trans e e3
  refine ⟨r3, rfl, BIf.dec (fun hn => ⟨⟨_, rfl, .inr ⟨by omega, by simp only [Dat.sz, Dat.szs] at *; omega⟩⟩, e⟩) (fun hp3 => ?_)⟩
  exact ⟨⟨_, rfl, .inl ⟨by simp only [Dat.sz, Dat.szs] at *; omega, by omega⟩⟩, e⟩

/- eqByteS -/
theorem c97 {l : List Dat} {a0 a1 : Sl} {w : World} (ht : ∀ e, e ∈ l → Has (.int .u8) e) (h : IsD w (.sl 1 l) [.slice a0.a a0.len a0.cap]) (h2 : IsD w (.sl 1 l) [.slice a1.a a1.len a1.cap]) : CallW Try.prog 97 #[.slice a0.a a0.len a0.cap, .slice a1.a a1.len a1.cap] w (fun v w' => v = .bool true ∧ Ext w w') := by
  refine go97 ?_
  unfold W97
  obtain ⟨hlen, hmax, hel⟩ := isD_sl h
  obtain ⟨hlen2, _, hel2⟩ := isD_sl h2
  have hmx : maxLen = 9223372036854775807 := rfl
  rw [hlen, hlen2]
  refine BIf.f (by simp) ?_
  refine LoopW.m1 (fun (i : Int) w' => ∃ k : Nat, i = k ∧ k ≤ l.length ∧ Ext w w') (fun (i : Int) _ => (l.length - i).toNat) ⟨0, rfl, by omega, Only.refl _ _⟩ ?_
  rintro (i : Int) w4 ⟨k, rfl, hk, e4⟩ J hJ
  refine BIf.dec (fun hlt => ?_) (fun hge => ⟨rfl, e4⟩)
  obtain ⟨d, hd⟩ : ∃ d, l[k]? = some d := ⟨_, List.getElem?_eq_getElem (by omega)⟩
  have e4 := Only.trans e4 (ext_drew w4)
  obtain ⟨p, es, hp, he, hc, his⟩ := isD_at (IsD.ext e4 _ _ h) hd
  obtain ⟨p2, es2, hp2, he2, hc2, his2⟩ := isD_at (IsD.ext e4 _ _ h2) hd
  have ht0 := ht d (mem_get hd)
  have ht1 := ht0
  obtain ⟨x, rfl⟩ := has_int ht1
  obtain ⟨rfl, ws⟩ := isD_int his
  obtain ⟨rfl, wu⟩ := isD_int his2
  refine ⟨by omega, by omega, p, hp, _, hc 0 _ rfl, by omega, by omega, p2, hp2, _, hc2 0 _ rfl, BIf.f (by simp) ?_⟩
  rw [w64 (by omega) (by omega)]
  exact hJ _ _ ⟨k + 1, by omega, by omega, e4⟩ (by omega)

/- eqBlock -/
theorem c188 {d : Dat} {cs1 cs2 : List Value} {w : World} (ht : Has TyBlock d) (h : IsD w d cs1) (h2 : IsD w d cs2) : CallW Try.prog 188 #[.agg ⟨cs1⟩, .agg ⟨cs2⟩] w (fun v w' => v = .bool true ∧ Ext w w') := by
  obtain ⟨x_0, x_1, rfl⟩ := has_Block ht
  obtain ⟨rfl, ws_0, ws_1⟩ := cells_Block h
  obtain ⟨rfl, wu_0, wu_1⟩ := cells_Block h2
  show CallW Try.prog 188 #[.agg #[.int .i64 x_0, .int .i64 x_1], .agg #[.int .i64 x_0, .int .i64 x_1]] w _
  refine go188 ?_
  unfold W188
  refine alloc_step (fun w1 e1 ha n1 => ?_)
  refine alloc_step (fun w2 e2 hb n2 => ?_)
  have ha := ha.ext e2
  have e := Only.trans e1 e2
  refine ⟨_, ha.cell 0, _, hb.cell 0, BIf.f (by simp) ?_⟩
  refine ⟨_, ha.cell 1, _, hb.cell 1, BIf.f (by simp) ?_⟩
  exact ⟨rfl, e⟩

/- eqBlockS -/
theorem c158 {l : List Dat} {a0 a1 : Sl} {w : World} (ht : ∀ e, e ∈ l → Has TyBlock e) (h : IsD w (.sl 2 l) [.slice a0.a a0.len a0.cap]) (h2 : IsD w (.sl 2 l) [.slice a1.a a1.len a1.cap]) : CallW Try.prog 158 #[.slice a0.a a0.len a0.cap, .slice a1.a a1.len a1.cap] w (fun v w' => v = .bool true ∧ Ext w w') := by
  refine go158 ?_
  unfold W158
  obtain ⟨hlen, hmax, hel⟩ := isD_sl h
  obtain ⟨hlen2, _, hel2⟩ := isD_sl h2
  have hmx : maxLen = 9223372036854775807 := rfl
  rw [hlen, hlen2]
  refine BIf.f (by simp) ?_
  refine LoopW.m1 (fun (i : Int) w' => ∃ k : Nat, i = k ∧ k ≤ l.length ∧ Ext w w') (fun (i : Int) _ => (l.length - i).toNat) ⟨0, rfl, by omega, Only.refl _ _⟩ ?_
  rintro (i : Int) w4 ⟨k, rfl, hk, e4⟩ J hJ
  refine BIf.dec (fun hlt => ?_) (fun hge => ⟨rfl, e4⟩)
  obtain ⟨d, hd⟩ : ∃ d, l[k]? = some d := ⟨_, List.getElem?_eq_getElem (by omega)⟩
  have e4 := Only.trans e4 (ext_drew w4)
  obtain ⟨p, es, hp, he, hc, his⟩ := isD_at (IsD.ext e4 _ _ h) hd
  obtain ⟨p2, es2, hp2, he2, hc2, his2⟩ := isD_at (IsD.ext e4 _ _ h2) hd
  have ht0 := ht d (mem_get hd)
  have ht1 := ht0
  obtain ⟨x_0, x_1, rfl⟩ := has_Block ht1
  have his0 := his
  have his20 := his2
  obtain ⟨rfl, ws_0, ws_1⟩ := cells_Block his
  obtain ⟨rfl, wu_0, wu_1⟩ := cells_Block his2
  refine ⟨by omega, by omega, p, hp, _, hc 0 _ rfl, _, hc 1 _ rfl, by omega, by omega, p2, hp2, _, hc2 0 _ rfl, _, hc2 1 _ rfl, (c188 (cs1 := [.int .i64 x_0, .int .i64 x_1]) (cs2 := [.int .i64 x_0, .int .i64 x_1]) ht0 his0 his20).mono ?_⟩
  rintro _ w9 ⟨rfl, e9⟩
  refine ⟨true, rfl, BIf.f rfl ?_⟩
  rw [w64 (by omega) (by omega)]
  exact hJ _ _ ⟨k + 1, by omega, by omega, Only.trans e4 e9⟩ (by omega)

/- eqFrames -/
theorem c98 {d : Dat} {cs1 cs2 : List Value} {w : World} (ht : Has TyFrames d) (h : IsD w d cs1) (h2 : IsD w d cs2) : CallW Try.prog 98 #[.agg ⟨cs1⟩, .agg ⟨cs2⟩] w (fun v w' => v = .bool true ∧ Ext w w') := by
  obtain ⟨x_0, l_1, rfl, t_1⟩ := has_Frames ht
  obtain ⟨s_1, rfl, ws_0, is_1⟩ := cells_Frames h
  obtain ⟨u_1, rfl, wu_0, iu_1⟩ := cells_Frames h2
  show CallW Try.prog 98 #[.agg #[.int .i64 x_0, .slice s_1.a s_1.len s_1.cap], .agg #[.int .i64 x_0, .slice u_1.a u_1.len u_1.cap]] w _
  refine go98 ?_
  unfold W98
  refine alloc_step (fun w1 e1 ha n1 => ?_)
  refine alloc_step (fun w2 e2 hb n2 => ?_)
  have ha := ha.ext e2
  have e := Only.trans e1 e2
  refine ⟨_, ha.cell 0, _, hb.cell 0, BIf.f (by simp) ?_⟩
  refine ⟨s_1, ha.cell 1, u_1, hb.cell 1, (c158 t_1 (IsD.ext e _ _ is_1) (IsD.ext e _ _ iu_1)).mono ?_⟩
  rintro _ w3 ⟨rfl, e3⟩
  have ha := ha.ext e3
  have hb := hb.ext e3
  have e := Only.trans e e3
  refine ⟨true, rfl, BIf.f rfl ?_⟩
  exact ⟨rfl, e⟩

/- eqPool -/
theorem c36 {d : Dat} {cs1 cs2 : List Value} {w : World} (ht : Has TyPool d) (h : IsD w d cs1) (h2 : IsD w d cs2) : CallW Try.prog 36 #[.agg ⟨cs1⟩, .agg ⟨cs2⟩] w (fun v w' => v = .bool true ∧ Ext w w') := by
  obtain ⟨l_0, x_1_0, l_1_1, rfl, t_0, h_1k, t_1_1⟩ := has_Pool ht
  obtain ⟨s_0, s_1_1, rfl, is_0, is_1, ws_1_0, is_1_1⟩ := cells_Pool h
  obtain ⟨u_0, u_1_1, rfl, iu_0, iu_1, wu_1_0, iu_1_1⟩ := cells_Pool h2
  show CallW Try.prog 36 #[.agg #[.slice s_0.a s_0.len s_0.cap, .int .i64 x_1_0, .slice s_1_1.a s_1_1.len s_1_1.cap], .agg #[.slice u_0.a u_0.len u_0.cap, .int .i64 x_1_0, .slice u_1_1.a u_1_1.len u_1_1.cap]] w _
  refine go36 ?_
  unfold W36
  refine alloc_step (fun w1 e1 ha n1 => ?_)
  refine alloc_step (fun w2 e2 hb n2 => ?_)
  have ha := ha.ext e2
  have e := Only.trans e1 e2
  refine ⟨s_0, ha.cell 0, u_0, hb.cell 0, (c97 t_0 (IsD.ext e _ _ is_0) (IsD.ext e _ _ iu_0)).mono ?_⟩
  rintro _ w3 ⟨rfl, e3⟩
  have ha := ha.ext e3
  have hb := hb.ext e3
  have e := Only.trans e e3
  refine ⟨true, rfl, BIf.f rfl ?_⟩
  refine ⟨_, ha.cell 1, s_1_1, ha.cell 2, _, hb.cell 1, u_1_1, hb.cell 2, (c98 (cs1 := [.int .i64 x_1_0, .slice s_1_1.a s_1_1.len s_1_1.cap]) (cs2 := [.int .i64 x_1_0, .slice u_1_1.a u_1_1.len u_1_1.cap]) h_1k (IsD.ext e _ _ is_1) (IsD.ext e _ _ iu_1)).mono ?_⟩
  rintro _ w4 ⟨rfl, e4⟩
  have ha := ha.ext e4
  have hb := hb.ext e4
  have e := Only.trans e e4
  refine ⟨true, rfl, BIf.f rfl ?_⟩
  exact ⟨rfl, e⟩

end Go.Proofs.Ytkgoanjemhbjgaa

/- FnExactSpaceOk: both sides, for the walk. Conditions: none. -/
set_option linter.unusedVariables false
set_option linter.unusedSimpArgs false
namespace Go.Proofs.Ytkgoanjemhbjgaa
open Go Go.Den
theorem pool_of {x : DPool} {w : World} {cs : List Value} (h : IsD w x.dat cs) (hs : x.dat.sz ≤ 1048576) : ∃ sm sf : Sl, cs = [.slice sm.a sm.len sm.cap, .int .i64 x.Free.Total, .slice sf.a sf.len sf.cap] ∧ Bytes w sm x.Mem ∧ FrAt w sf x.Free.Free := by
  obtain ⟨sm, sf, rfl, im, _, _, iff⟩ := cells_Pool h
  have hsz : x.dat.sz = (Dat.sl 1 (x.Mem.map (Dat.int .u8))).sz + ((0 + (((x.Free.Free.map DBlock.dat).length + Dat.szs (x.Free.Free.map DBlock.dat)) + 0)) + 0) := rfl
  rw [sz_nums, List.length_map] at hsz
  have hm := isD_len im
  have hf := isD_len iff
  exact ⟨sm, sf, rfl, ⟨hm.1, isD_cap im, isD_nums im, fun y hy => wf_u8_rng (isD_wf im y hy), by omega⟩, ⟨hf.1, isD_row iff (fun _ => rfl) (fun es y hy => DBlock.is_cells hy), by omega⟩⟩
theorem specSpaceOk {x : DPool} {root : Int} {w : World} {cs : List Value} (h : IsD w x.dat cs) (hs : x.dat.sz ≤ 1048576) : CallW Try.prog 33 #[.agg ⟨cs⟩, .int .i64 root] w (fun v w' => v = .bool (spaceT x.Mem x.Free.Total x.Free.Free root).isSome ∧ Ext w w') := by
  obtain ⟨sm, sf, rfl, hm, hf⟩ := pool_of h hs
  exact c33 hm hf
theorem implSpaceOk {x : DPool} {root : Int} {w : World} {cs : List Value} (h : IsD w x.dat cs) (hs : x.dat.sz ≤ 1048576) : CallW Try.prog 35 #[.agg ⟨cs⟩, .int .i64 root] w (fun v w' => v = .bool (spaceT x.Mem x.Free.Total x.Free.Free root).isSome ∧ Ext w w') := by
  obtain ⟨sm, sf, rfl, hm, hf⟩ := pool_of h hs
  exact c35 hm hf
end Go.Proofs.Ytkgoanjemhbjgaa

/- Frames: the list of blocks of a set, on both sides: greedy, and by halves. Conditions: none. -/
set_option linter.unusedVariables false
set_option linter.unusedSimpArgs false
namespace Go.Proofs.Ytkgoanjemhbjgaa
open Go Go.Den
/-! ## The plain law -/
def wholeP (l : List Bool) (a n : Nat) : Prop := a + n ≤ l.length ∧ ∀ i, i < n → l.getD (a + i) false = true
instance (l : List Bool) (a n : Nat) : Decidable (wholeP l a n) := by unfold wholeP; exact inferInstance
def ordF (l : List Bool) (a : Nat) : Nat → Nat → Nat
  | 0, o => o
  | f + 1, o => if o < 10 ∧ a % 2 ^ (o + 1) = 0 ∧ wholeP l a (2 ^ (o + 1)) then ordF l a f (o + 1) else o
def listF (l : List Bool) (a : Nat) : List DBlock :=
  if a < l.length then (if l.getD a false = true then ⟨a, ordF l a 10 0⟩ :: listF l (a + 2 ^ ordF l a 10 0) else listF l (a + 1)) else []
termination_by l.length - a
decreasing_by
  all_goals have := Nat.one_le_two_pow (n := ordF l a 10 0); omega
def walkF (l : List Bool) : Nat → Nat → List DBlock
  | 0, a => if l.length ≤ a then [] else if wholeP l a (2 ^ 0) then [⟨a, (0 : Nat)⟩] else []
  | o + 1, a => if l.length ≤ a then [] else if wholeP l a (2 ^ (o + 1)) then [⟨a, ((o + 1 : Nat) : Int)⟩] else walkF l o a ++ walkF l o (a + 2 ^ o)
theorem listF_end {l : List Bool} {a : Nat} (h : l.length ≤ a) : listF l a = [] := by rw [listF, if_neg (by omega)]
theorem whole_half {l : List Bool} {a o : Nat} (h : wholeP l a (2 ^ (o + 1))) : wholeP l a (2 ^ o) := by
  have h2 : 2 ^ (o + 1) = 2 ^ o * 2 := Nat.pow_succ 2 o
  exact ⟨by have := h.1; omega, fun i hi => h.2 i (by omega)⟩
theorem whole_le {l : List Bool} {a : Nat} : ∀ {o o' : Nat}, o' ≤ o → wholeP l a (2 ^ o) → wholeP l a (2 ^ o')
  | 0, o', hle, h => by rw [show o' = 0 by omega]; exact h
  | o + 1, o', hle, h => by
    rcases Nat.lt_or_ge o' (o + 1) with h1 | h1
    · exact whole_le (by omega) (whole_half h)
    · rw [show o' = o + 1 by omega]; exact h
theorem mod_le {a : Nat} : ∀ {o o' : Nat}, o' ≤ o → a % 2 ^ o = 0 → a % 2 ^ o' = 0 := fun {o o'} hle h =>
  Nat.mod_eq_zero_of_dvd (Nat.dvd_trans (Nat.pow_dvd_pow 2 hle) (Nat.dvd_of_mod_eq_zero h))
theorem ordF_is {l : List Bool} {a o : Nat} (ho : o ≤ 10) (hm : a % 2 ^ o = 0) (hw : wholeP l a (2 ^ o)) (hs : o = 10 ∨ a % 2 ^ (o + 1) ≠ 0 ∨ ¬ wholeP l a (2 ^ (o + 1))) : ∀ (f k : Nat), k ≤ o → o < k + f + 1 → ordF l a f k = o
  | 0, k, hk, hf => by unfold ordF; omega
  | f + 1, k, hk, hf => by
    unfold ordF
    rcases Nat.lt_or_ge k o with h | h
    · rw [if_pos ⟨by omega, mod_le (by omega) hm, whole_le (by omega) hw⟩]
      exact ordF_is ho hm hw hs f (k + 1) (by omega) (by omega)
    · have hko : k = o := by omega
      subst hko
      rw [if_neg (fun hh => by
        rcases hs with hs | hs | hs
        · omega
        · exact hs hh.2.1
        · exact hs hh.2.2)]
theorem list_walk {l : List Bool} : ∀ (o a : Nat), o ≤ 10 → a % 2 ^ o = 0 → (o = 10 ∨ a % 2 ^ (o + 1) ≠ 0 ∨ ¬ wholeP l a (2 ^ (o + 1))) → listF l a = walkF l o a ++ listF l (a + 2 ^ o)
  | 0, a, ho, hm, hs => by
    unfold walkF
    by_cases h1 : l.length ≤ a
    · rw [if_pos h1, listF_end h1, listF_end (by omega)]; rfl
    · rw [if_neg h1]
      by_cases h2 : wholeP l a (2 ^ 0)
      · have ho2 := ordF_is ho hm h2 hs 10 0 (by omega) (by omega)
        rw [if_pos h2, listF, if_pos (by omega), if_pos (by have := h2.2 0 (by decide); simpa using this), ho2]
        rfl
      · have hf : ¬ (l.getD a false = true) := fun hh => h2 ⟨by show a + 1 ≤ _; omega, fun i hi => by rw [show i = 0 by omega]; exact hh⟩
        rw [if_neg h2, listF, if_pos (by omega), if_neg hf]
        rfl
  | o + 1, a, ho, hm, hs => by
    unfold walkF
    have h2p : 2 ^ (o + 1) = 2 ^ o * 2 := Nat.pow_succ 2 o
    by_cases h1 : l.length ≤ a
    · rw [if_pos h1, listF_end h1, listF_end (by omega)]; rfl
    · rw [if_neg h1]
      by_cases h2 : wholeP l a (2 ^ (o + 1))
      · have ho2 := ordF_is ho hm h2 hs 10 0 (by omega) (by omega)
        have hp := Nat.one_le_two_pow (n := o + 1)
        rw [if_pos h2, listF, if_pos (by omega), if_pos (by have := h2.2 0 (by omega); simpa using this), ho2]
        rfl
      · have hm' : a % 2 ^ o = 0 := mod_le (by omega) hm
        have hp := Nat.one_le_two_pow (n := o)
        have hr : (a + 2 ^ o) % 2 ^ (o + 1) ≠ 0 := by
          rw [Nat.add_mod, hm, Nat.zero_add, Nat.mod_mod, Nat.mod_eq_of_lt (by omega)]; omega
        rw [if_neg h2, list_walk o a (by omega) hm' (.inr (.inr h2)), list_walk o (a + 2 ^ o) (by omega) (by rw [Nat.add_mod, hm', Nat.zero_add, Nat.mod_self]; rfl) (.inr (.inl hr)), List.append_assoc, h2p, show a + 2 ^ o + 2 ^ o = a + 2 ^ o * 2 by omega]
theorem list_eq {l : List Bool} (h : l.length ≤ 1024) : listF l 0 = walkF l 10 0 := by
  rw [list_walk 10 0 (by omega) (by decide) (.inl rfl), listF_end (a := 0 + 2 ^ 10) (by have : 2 ^ 10 = 1024 := rfl; omega), List.append_nil]
theorem walkF_len {l : List Bool} : ∀ (o a : Nat), (walkF l o a).length ≤ 2 ^ o
  | 0, a => by unfold walkF; split; simp; split <;> simp
  | o + 1, a => by
    unfold walkF
    have h2p : 2 ^ (o + 1) = 2 ^ o * 2 := Nat.pow_succ 2 o
    have hp := Nat.one_le_two_pow (n := o)
    split
    · simp
    · split
      · simp; omega
      · have h1 := walkF_len (l := l) o a
        have h2 := walkF_len (l := l) o (a + 2 ^ o)
        rw [List.length_append]; omega
/-! ## Bools that are lent -/
structure Bls (w : World) (s : Sl) (l : List Bool) : Prop where
  len : s.len = l.length
  cap : s.len ≤ s.cap
  row : RowAt w s.a s.len (bools l)
  small : l.length ≤ 1099511627776
theorem Bls.ext {w w' : World} {s : Sl} {l : List Bool} (h : Bls w s l) (e : Ext w w') : Bls w' s l := ⟨h.len, h.cap, e.row h.row, h.small⟩
theorem Bls.at {w : World} {s : Sl} {l : List Bool} (h : Bls w s l) {i : Nat} (h1 : i < l.length) : ∃ p, s.a = some p ∧ w.cell? (p.add (i * 1)) = some (.bool (l.getD i false)) := by
  obtain ⟨p, hp, hc⟩ := h.row.cell (bools_get h1)
  exact ⟨p, hp, by rw [Nat.mul_one]; exact hc⟩
theorem bls_blk {w : World} {b : Nat} {l : List Bool} (h : Blk w b (bools l)) (hs : l.length ≤ 1099511627776) : Bls w ⟨some ⟨b, 0, none⟩, l.length, l.length⟩ l := ⟨rfl, Nat.le_refl _, row_of_blk h (bools_len l), hs⟩
theorem Bls.cut {w : World} {s : Sl} {l : List Bool} (h : Bls w s l) {a n : Nat} (hn : 0 < n) (ha : a + n ≤ l.length) : Bls w ⟨cutA s.a s.cap a 1, n, s.cap - a⟩ ((l.drop a).take n) := by
  have hl := h.len
  have hc := h.cap
  have hsm := h.small
  refine ⟨by simp; omega, by show n ≤ s.cap - a; omega, ?_, by simp; omega⟩
  obtain ⟨p, hp, hcell⟩ := h.row.2 (by omega)
  refine ⟨by rw [bools_len]; simp; omega, fun _ => ⟨p.add (a * 1), ?_, fun j v hj => ?_⟩⟩
  · show cutA s.a s.cap a 1 = _
    unfold cutA
    rw [hp, if_neg (by omega)]
    rfl
  · rw [add_add, Nat.mul_one]
    refine hcell _ v ?_
    unfold bools at hj ⊢
    rw [List.map_take, List.map_drop, List.getElem?_take] at hj
    split at hj
    · rw [List.getElem?_drop] at hj; exact hj
    · cases hj
/-! ## The reference's side -/
theorem c182 {s : Sl} {l : List Bool} {a n : Nat} {w : World} (h : Bls w s l) (ha : a ≤ 1099511627776) (hn : n ≤ 1099511627776) : CallW Try.prog 182 #[.slice s.a s.len s.cap, .int .i64 (a : Int), .int .i64 (n : Int)] w (fun v w' => v = .bool (decide (wholeP l a n)) ∧ w' = w) := by
  refine go182 ?_
  unfold W182
  have hl := h.len
  have hs := h.small
  rw [w64 (n := (a : Int) + (n : Int)) (by omega) (by omega)]
  refine BIf.dec (fun hgt => ⟨by rw [decide_eq_false (fun hh => by have := hh.1; omega)], rfl⟩) (fun hle => ?_)
  refine LoopW.m1 (fun (i : Int) w' => ∃ k : Nat, i = k ∧ k ≤ n ∧ (∀ j, j < k → l.getD (a + j) false = true) ∧ w' = w) (fun (i : Int) _ => ((n : Int) - i).toNat) ⟨0, rfl, by omega, fun j hj => absurd hj (Nat.not_lt_zero _), rfl⟩ ?_
  rintro (i : Int) w ⟨k, rfl, hk, hall, rfl⟩ J hJ
  refine BIf.dec (fun hlt => ?_) (fun hge => ⟨by rw [decide_eq_true ⟨by omega, fun j hj => hall j (by omega)⟩], rfl⟩)
  have hidx : IntKind.i64.wrap ((a : Int) + (k : Int)) = ((a + k : Nat) : Int) := by rw [w64 (by omega) (by omega)]; omega
  rw [hidx, Int.toNat_natCast]
  obtain ⟨p, hp, hc⟩ := h.at (i := a + k) (by omega)
  refine ⟨by omega, by omega, p, hp, _, hc, BIf.of (fun hb => ?_) (fun hb => ?_)⟩
  · have hb : l.getD (a + k) false = false := by simpa using hb
    exact ⟨by rw [decide_eq_false (fun hh => by rw [hh.2 k (by omega)] at hb; cases hb)], rfl⟩
  · have hb : l.getD (a + k) false = true := by simpa using hb
    rw [w64 (by omega) (by omega)]
    refine hJ _ _ ⟨k + 1, by omega, by omega, fun j hj => ?_, rfl⟩ (by omega)
    by_cases hjk : j = k
    · rw [hjk]; exact hb
    · exact hall j (by omega)
def FrV (T : Int) (fr : List DBlock) (w : World) (v : Value) (w' : World) : Prop := ∃ t : Sl, v = .agg #[.int .i64 T, .slice t.a t.len t.cap] ∧ OwnS w' w.heap.size t 2 (fr.flatMap DBlock.cells) ∧ Ext w w'
theorem pw_nat (n : Nat) : pw (n : Int) = ((2 ^ n : Nat) : Int) := by unfold pw; rw [Int.toNat_natCast]
theorem ordF_le (l : List Bool) (a : Nat) : ∀ f o, o ≤ 10 → ordF l a f o ≤ 10
  | 0, o, h => h
  | f + 1, o, h => by unfold ordF; split; exact ordF_le l a f (o + 1) (by omega); exact h
theorem listF_len (l : List Bool) (a : Nat) : (listF l a).length ≤ l.length - a := by
  rw [listF]
  split
  · split
    · have := listF_len l (a + 2 ^ ordF l a 10 0)
      have hp := Nat.one_le_two_pow (n := ordF l a 10 0)
      rw [List.length_cons]; omega
    · have := listF_len l (a + 1); omega
  · simp
termination_by l.length - a
decreasing_by
  all_goals have := Nat.one_le_two_pow (n := ordF l a 10 0); omega
theorem Bls.only {S : Nat → Prop} {w w' : World} {s : Sl} {l : List Bool} (h : Bls w s l) (o : Only S w w') (hS : ∀ p, s.a = some p → p.block < w.heap.size → ¬ S p.block) : Bls w' s l := by
  refine ⟨h.len, h.cap, ⟨h.row.1, fun hn => ?_⟩, h.small⟩
  obtain ⟨p, hp, hc⟩ := h.row.2 hn
  refine ⟨p, hp, fun j v hj => ?_⟩
  have hcj := hc j v hj
  refine Only.cell o hcj ?_
  rw [add_block]
  refine hS p hp ?_
  have hlt : (p.add j).block < w.heap.size := by
    unfold World.cell? at hcj
    rcases hb : w.heap[(p.add j).block]? with _ | o
    · rw [hb] at hcj; exact absurd hcj (by simp)
    · exact (Array.getElem?_eq_some_iff.1 hb).1
  rwa [add_block] at hlt
theorem c143 {s : Sl} {l : List Bool} {w : World} (h : Bls w s l) (hl1024 : l.length ≤ 1024) : CallW Try.prog 143 #[.slice s.a s.len s.cap] w (FrV l.length (listF l 0) w) := by
  refine go143 ?_
  unfold W143
  have hl := h.len
  rw [hl]
  refine alloc_step (fun w1 e1 hr n1 => ?_)
  refine alloc_step (fun w2 e2 _ n2 => ?_)
  refine alloc_step (fun w3 e3 hf n3 => put_step hf rfl rfl (fun w4 o4 hf n4 => ?_))
  have e24 : Ext w2 w4 := Ext.own e3 o4 (fun k hk => by omega)
  have e4 : Ext w w4 := Only.trans e1 (Only.trans e2 e24)
  have hr4 := hr.ext (Only.trans e2 e24)
  refine LoopW.m1 (fun (i : Int) w' => ∃ (a : Nat) (out : List DBlock) (t : Sl), i = a ∧ out.length ≤ a ∧ a ≤ 3000 ∧ out ++ listF l a = listF l 0 ∧ Ext w w' ∧ w4.heap.size ≤ w'.heap.size ∧ Blk w' w.heap.size [.int .i64 0, .slice none 0 0] ∧ Blk w' w2.heap.size [.int .i64 (l.length : Int), .slice t.a t.len t.cap] ∧ OwnS w' w4.heap.size t 2 (out.flatMap DBlock.cells)) (fun (i : Int) _ => ((l.length : Int) - i).toNat)
    ⟨0, [], ⟨some ⟨w1.heap.size, 0, none⟩, 0, 0⟩, rfl, by simp, by omega, rfl, e4, Nat.le_refl _, hr4, hf, OwnS.none _ _ _ _⟩ ?_
  rintro (i : Int) w7 ⟨a, out, t, rfl, hol, ha3, hls, e7, z7, hr7, hf7, own7⟩ J hJ
  have h7 := h.ext e7
  refine BIf.dec (fun hlt => ?_) (fun hge => ?_)
  · rw [Int.toNat_natCast]
    obtain ⟨p, hp, hc⟩ := h7.at (i := a) (by omega)
    refine ⟨by omega, by omega, p, hp, _, hc, BIf.of (fun hb => ?_) (fun hb => ?_)⟩
    · have hb : ¬ (l.getD a false = true) := by simpa using hb
      rw [w64 (by omega) (by omega)]
      rw [listF, if_pos (by omega), if_neg hb] at hls
      exact hJ _ _ ⟨a + 1, out, t, by omega, by omega, by omega, hls, e7, z7, hr7, hf7, own7⟩ (by omega)
    · have hb : l.getD a false = true := by simpa using hb
      rw [listF, if_pos (by omega), if_pos hb] at hls
      generalize hO : ordF l a 10 0 = O at *
      refine LoopW.m1 (fun (i : Int) w' => ∃ o : Nat, i = o ∧ o ≤ 10 ∧ ordF l a (10 - o) o = O ∧ w' = w7) (fun (i : Int) _ => (10 - i).toNat) ⟨0, rfl, by omega, hO, rfl⟩ ?_
      rintro (i : Int) w7 ⟨o, rfl, ho, hoF, rfl⟩ J2 hJ2
      have hp1 : 2 ^ (o + 1) ≤ 2 ^ 11 := pow_le (by omega)
      have hp2 : 1 ≤ 2 ^ (o + 1) := Nat.one_le_two_pow
      have hp3 : (2 : Nat) ^ 11 = 2048 := by decide
      have hw1 : IntKind.i64.wrap ((o : Int) + 1) = ((o + 1 : Nat) : Int) := by rw [w64 (by omega) (by omega)]; omega
      rw [hw1]
      refine JoinW.cut1 (fun (b : Bool) w' => (b = true ↔ o < 10 ∧ a % 2 ^ (o + 1) = 0) ∧ w' = w7) ?_ ?_
      · refine BIf.dec (fun h1 => (c176 (by omega) (by omega)).mono ?_) (fun h1 => ⟨⟨(fun h => nomatch h), fun hh => by omega⟩, rfl⟩)
        rintro _ w7 ⟨rfl, rfl⟩
        refine ⟨_, rfl, by rw [pw_nat]; omega, ?_, rfl⟩
        rw [pw_nat, Int.tmod_eq_emod_of_nonneg (by omega), beq_iff_eq]
        constructor
        · intro hh; exact ⟨by omega, by omega⟩
        · intro hh; have := hh.2; omega
      rintro (b : Bool) w7 ⟨hb1, rfl⟩
      refine JoinW.cut1 (fun (b : Bool) w' => (b = true ↔ o < 10 ∧ a % 2 ^ (o + 1) = 0 ∧ wholeP l a (2 ^ (o + 1))) ∧ w' = w7) ?_ ?_
      · refine BIf.of (fun h1 => (c176 (by omega) (by omega)).mono ?_) (fun h1 => ⟨⟨(fun h => nomatch h), fun hh => by rw [hb1.2 ⟨hh.1, hh.2.1⟩] at h1; cases h1⟩, rfl⟩)
        rintro _ w7 ⟨rfl, rfl⟩
        refine ⟨_, rfl, ?_⟩
        rw [pw_nat]
        have h7w := c182 (a := a) (n := 2 ^ (o + 1)) h7 (by omega) (by omega)
        rw [hl] at h7w
        refine h7w.mono ?_
        rintro _ w7 ⟨rfl, rfl⟩
        refine ⟨_, rfl, ?_, rfl⟩
        rw [decide_eq_true_eq]
        exact ⟨fun hh => ⟨(hb1.1 h1).1, (hb1.1 h1).2, hh⟩, fun hh => hh.2.2⟩
      clear hb1 b
      rintro (b : Bool) w7 ⟨hb2, rfl⟩
      refine BIf.of (fun hbt => ?_) (fun hbf => ?_)
      · have hh := hb2.1 hbt
        obtain ⟨f, hf10⟩ : ∃ f, 10 - o = f + 1 := ⟨10 - o - 1, by omega⟩
        rw [hf10] at hoF
        unfold ordF at hoF
        rw [if_pos hh] at hoF
        exact hJ2 _ _ ⟨o + 1, by omega, by omega, by rw [show 10 - (o + 1) = f by omega]; exact hoF, rfl⟩ (by omega)
      · have hoO : o = O := by
          rw [← hoF]
          cases hf10 : 10 - o with
          | zero => rfl
          | succ f => unfold ordF; rw [if_neg (fun hh => by rw [hb2.2 hh] at hbf; cases hbf)]
        subst hoO
        have hpo1 : 2 ^ o ≤ 2 ^ 10 := pow_le (by omega)
        have hpo2 : 1 ≤ 2 ^ o := Nat.one_le_two_pow
        have hpo3 : (2 : Nat) ^ 10 = 1024 := by decide
        have hll := own7.len
        rw [blocks_len] at hll
        refine ⟨t, hf7.cell 1, LetW_iff.2 ?_⟩
        refine AppendW.one (b0 := w4.heap.size) (z := 2) (x := [.int .i64 (a : Int), .int .i64 (o : Int)]) own7 z7 rfl rfl rfl (by decide) (by show (t.len + 1) * 16 ≤ _; omega) (fun v hv => by simp only [List.mem_cons, List.not_mem_nil, or_false] at hv; rcases hv with rfl | rfl <;> rfl) (fun s' w22 h1 h2 h3 h4 => ?_)
        have e22 : Ext w w22 := e7.own h3 (fun i hi => by have := hi.1; have := e4.size; omega)
        have z22 := h3.size
        have hf22 := hf7.only h3 (fun hh => by have := hh.1; have := e24.size; omega)
        have hr22 := hr7.only h3 (fun hh => by have := hh.1; have := e4.size; omega)
        refine set_step hf22 (by simp) (fun w23 o23 hf23 n23 => ?_)
        have e23 : Ext w w23 := e22.own o23 (fun i hi => by omega)
        have hr23 := hr22.only o23 (by omega)
        have own23 := h2.only o23 (fun b _ hb0 _ hbb => by have := e24.size; omega)
        refine (c176 (by omega) (by omega)).mono ?_
        rintro _ w23 ⟨rfl, rfl⟩
        refine ⟨_, rfl, ?_⟩
        rw [pw_nat, w64 (by omega) (by omega)]
        refine hJ _ _ ⟨a + 2 ^ o, out ++ [⟨a, o⟩], s', by omega, by rw [List.length_append, List.length_singleton]; omega, by omega, by rw [List.append_assoc]; exact hls, e23, by omega, hr23, hf23, ?_⟩ (by omega)
        rw [List.flatMap_append]
        exact own23
  · rw [listF_end (by omega), List.append_nil] at hls
    subst hls
    refine ⟨_, hf7.cell 0, t, hf7.cell 1, put_step hr7 rfl rfl (fun w38 o38 hr38 n38 => ?_)⟩
    have z4 := e4.size
    have own38 := own7.only o38 (fun b _ hb0 _ hbb => by omega)
    exact ⟨_, hr38.cell 0, t, hr38.cell 1, t, rfl, own38.mono z4, e7.own o38 (fun i hi => by omega)⟩
/-! ## The program's side -/
theorem c199 {s : Sl} {l : List Bool} {w : World} (h : Bls w s l) : CallW Try.prog 199 #[.slice s.a s.len s.cap, .bool false] w (fun v w' => ∃ i : Int, v = .int .i64 i ∧ (i < 0 ↔ ∀ k, k < l.length → l.getD k false = true) ∧ w' = w) := by
  refine go199 ?_
  unfold W199
  have hl := h.len
  have hs := h.small
  rw [hl]
  refine LoopW.m1 (fun (i : Int) w' => ∃ k : Nat, i = k ∧ k ≤ l.length ∧ (∀ j, j < k → l.getD j false = true) ∧ w' = w) (fun (i : Int) _ => ((l.length : Int) - i).toNat) ⟨0, rfl, by omega, fun j hj => absurd hj (Nat.not_lt_zero _), rfl⟩ ?_
  rintro (i : Int) w ⟨k, rfl, hk, hall, rfl⟩ J hJ
  refine BIf.dec (fun hlt => ?_) (fun hge => ⟨_, rfl, ⟨fun _ j hj => hall j (by omega), fun _ => by omega⟩, rfl⟩)
  rw [Int.toNat_natCast]
  obtain ⟨p, hp, hc⟩ := h.at (i := k) (by omega)
  refine ⟨by omega, by omega, p, hp, _, hc, BIf.of (fun hb => ?_) (fun hb => ?_)⟩
  · have hb : l.getD k false = false := (eq_of_beq hb).symm
    exact ⟨_, rfl, ⟨fun hh => by omega, fun hh => by rw [hh k (by omega)] at hb; cases hb⟩, rfl⟩
  · have hb : l.getD k false = true := by
      cases hx : l.getD k false with
      | true => rfl
      | false => rw [hx] at hb; cases hb
    rw [w64 (by omega) (by omega)]
    refine hJ _ _ ⟨k + 1, by omega, by omega, fun j hj => ?_, rfl⟩ (by omega)
    by_cases hjk : j = k
    · rw [hjk]; exact hb
    · exact hall j (by omega)
theorem c185 {s : Sl} {l : List Bool} {w : World} (h : Bls w s l) : CallW Try.prog 185 #[.slice s.a s.len s.cap, .bool false] w (fun v w' => ∃ b, v = .bool b ∧ (b = false ↔ ∀ k, k < l.length → l.getD k false = true) ∧ w' = w) := by
  refine go185 ?_
  unfold W185
  refine (c199 h).mono ?_
  rintro _ w ⟨i, rfl, hiff, rfl⟩
  refine ⟨i, rfl, _, rfl, ?_, rfl⟩
  rw [← hiff, decide_eq_false_iff_not]; omega
structure WCtx (w : World) (bF bM bW b0 : Nat) (s : Sl) (l : List Bool) : Prop where
  m : Blk w bM [.slice s.a s.len s.cap]
  bl : Bls w s l
  fn : Blk w bW [.func (.func 184) ⟨[]⟩ ⟨[.pointer (some ⟨bF, 0, none⟩), .pointer (some ⟨bM, 0, none⟩), .pointer (some ⟨bW, 0, none⟩)]⟩]
  mo : ∀ p, s.a = some p → 0 < l.length → p.block ≠ bF
  nm : bM ≠ bF ∧ bM < b0
  nw : bW ≠ bF ∧ bW < b0
  nf : bF < b0
  bsz : b0 ≤ w.heap.size
  old : ∀ p, s.a = some p → 0 < l.length → p.block < b0
theorem WCtx.only {w w' : World} {bF bM bW b0 : Nat} {s : Sl} {l : List Bool} (h : WCtx w bF bM bW b0 s l) (o : Only (fun k => k = bF ∨ b0 ≤ k) w w') : WCtx w' bF bM bW b0 s l := by
  have hn := h.nm
  have hw := h.nw
  refine ⟨h.m.only o (by omega), ?_, h.fn.only o (by omega), h.mo, h.nm, h.nw, h.nf, Nat.le_trans h.bsz o.size, h.old⟩
  by_cases h0 : 0 < l.length
  · exact h.bl.only o (fun p hp _ hh => by
      have := h.old p hp h0
      have := h.mo p hp h0
      omega)
  · refine ⟨h.bl.len, h.bl.cap, ⟨h.bl.row.1, fun hn => ?_⟩, h.bl.small⟩
    have := h.bl.len; omega
def WV (bF b0 : Nat) (T : Int) (out : List DBlock) (w : World) (v : Value) (w' : World) : Prop := v = .tuple #[] ∧ Only (fun k => k = bF ∨ b0 ≤ k) w w' ∧ ∃ t : Sl, Blk w' bF [.int .i64 T, .slice t.a t.len t.cap] ∧ OwnS w' b0 t 2 (out.flatMap DBlock.cells)
def wPtrs (bF bM bW : Nat) : List Value := [.pointer (some ⟨bF, 0, none⟩), .pointer (some ⟨bM, 0, none⟩), .pointer (some ⟨bW, 0, none⟩)]
theorem walkF_eq (l : List Bool) (o a : Nat) : walkF l o a = if l.length ≤ a then [] else if wholeP l a (2 ^ o) then [⟨a, (o : Int)⟩] else match o with | 0 => [] | o' + 1 => walkF l o' a ++ walkF l o' (a + 2 ^ o') := by
  cases o <;> rfl
theorem getD_cut {l : List Bool} {a n k : Nat} (hk : k < n) : ((l.drop a).take n).getD k false = l.getD (a + k) false := by
  simp only [List.getD_eq_getElem?_getD, List.getElem?_take, List.getElem?_drop]
  rw [if_pos hk]
theorem c184s {bF bM bW b0 : Nat} {s : Sl} {l : List Bool} (hl1024 : l.length ≤ 1024) {o : Nat} (ho : o ≤ 10)
    (hrec : o = 0 ∨ ∃ o', o = o' + 1 ∧ ∀ {a : Nat} {out : List DBlock} {t : Sl} {w : World}, a ≤ 4096 → WCtx w bF bM bW b0 s l → Blk w bF [.int .i64 (l.length : Int), .slice t.a t.len t.cap] → OwnS w b0 t 2 (out.flatMap DBlock.cells) → out.length + 2 ^ o' ≤ 4096 →
      CallW Try.prog 184 ⟨[.int .i64 (a : Int), .int .i64 (o' : Int)] ++ wPtrs bF bM bW⟩ w (WV bF b0 l.length (out ++ walkF l o' a) w))
    {a : Nat} {out : List DBlock} {t : Sl} {w : World} (ha : a ≤ 4096) (h : WCtx w bF bM bW b0 s l) (hF : Blk w bF [.int .i64 (l.length : Int), .slice t.a t.len t.cap]) (own : OwnS w b0 t 2 (out.flatMap DBlock.cells)) (hol : out.length + 2 ^ o ≤ 4096) :
    CallW Try.prog 184 ⟨[.int .i64 (a : Int), .int .i64 (o : Int)] ++ wPtrs bF bM bW⟩ w (WV bF b0 l.length (out ++ walkF l o a) w) := by
  refine go184 (a0 := (a : Int)) (a1 := (o : Int)) (c0 := ⟨bF, 0, none⟩) (c1 := ⟨bM, 0, none⟩) (c2 := ⟨bW, 0, none⟩) ?_
  unfold W184
  have hp1 : 2 ^ o ≤ 2 ^ 10 := pow_le ho
  have hp2 : 1 ≤ 2 ^ o := Nat.one_le_two_pow
  have hp3 : (2 : Nat) ^ 10 = 1024 := by decide
  have hbl := h.bl.len
  have hcap := h.bl.cap
  have hwe := walkF_eq l o a
  refine ⟨by omega, _, hF.cell 0, BIf.dec (fun hge => ?_) (fun hlt => ?_)⟩
  · rw [if_pos (by omega)] at hwe
    rw [hwe, List.append_nil]
    exact ⟨rfl, Only.refl _ _, t, hF, own⟩
  rw [if_neg (by omega)] at hwe
  refine ⟨_, hF.cell 0, ?_⟩
  rw [shl_pw (by omega) (by omega), pw_nat]
  have hsum : IntKind.i64.wrap ((a : Int) + ((2 ^ o : Nat) : Int)) = ((a + 2 ^ o : Nat) : Int) := by rw [w64 (by omega) (by omega)]; omega
  rw [hsum]
  refine JoinW.cut1 (fun (b : Bool) w' => (b = true ↔ wholeP l a (2 ^ o)) ∧ w' = w) ?_ ?_
  · refine BIf.dec (fun h1 => ⟨s, h.m.cell 0, by omega, by omega, by omega, by omega, ?_⟩) (fun h1 => ⟨⟨(fun hh => nomatch hh), fun hh => by have := hh.1; omega⟩, rfl⟩)
    rw [Int.toNat_natCast, Int.toNat_natCast, show a + 2 ^ o - a = 2 ^ o by omega]
    refine (c185 (h.bl.cut (a := a) (n := 2 ^ o) (by omega) (by omega))).mono ?_
    rintro _ w ⟨b, rfl, hiff, rfl⟩
    refine ⟨b, rfl, ?_, rfl⟩
    have hlen : ((l.drop a).take (2 ^ o)).length = 2 ^ o := by simp; omega
    rw [hlen] at hiff
    rw [Bool.not_eq_true', hiff]
    exact ⟨fun hh => ⟨by omega, fun i hi => by rw [← getD_cut hi]; exact hh i hi⟩, fun hh k hk => by rw [getD_cut hk]; exact hh.2 k hk⟩
  rintro (b : Bool) w ⟨hiff, rfl⟩
  have hnf := h.nf
  have hbsz := h.bsz
  refine BIf.of (fun hbt => ?_) (fun hbf => ?_)
  · rw [if_pos (hiff.1 hbt)] at hwe
    have hll := own.len
    rw [blocks_len] at hll
    refine ⟨t, hF.cell 1, LetW_iff.2 ?_⟩
    refine AppendW.one (b0 := b0) (z := 2) (x := [.int .i64 (a : Int), .int .i64 (o : Int)]) own hbsz rfl rfl rfl (by decide) (by show (t.len + 1) * 16 ≤ _; omega) (fun v hv => by simp only [List.mem_cons, List.not_mem_nil, or_false] at hv; rcases hv with rfl | rfl <;> rfl) (fun s' w9 h1 h2 h3 h4 => ?_)
    have hF9 := hF.only h3 (fun hh => by have := hh.1; omega)
    refine set_step (i := 1) hF9 (by simp) (fun w10 o10 hF10 n10 => ?_)
    refine ⟨rfl, Only.step (h3.mono (fun i _ hi => .inr hi.1)) o10 (fun i _ hi => .inl hi), s', hF10, ?_⟩
    rw [hwe, List.flatMap_append]
    exact h2.only o10 (fun b _ hb0 _ hbb => by have hbb : b = bF := hbb; omega)
  · rw [if_neg (fun hh => by rw [hiff.2 hh] at hbf; cases hbf)] at hwe
    rcases hrec with rfl | ⟨o', rfl, hrec⟩
    · refine BIf.t rfl ⟨rfl, Only.refl _ _, t, hF, ?_⟩
      rw [hwe, List.append_nil]; exact own
    · have hpo : 2 ^ (o' + 1) = 2 ^ o' * 2 := Nat.pow_succ 2 o'
      have hpo1 : 1 ≤ 2 ^ o' := Nat.one_le_two_pow
      have ho1 : IntKind.i64.wrap (((o' + 1 : Nat) : Int) - 1) = (o' : Int) := by rw [w64 (by omega) (by omega)]; omega
      have hd : IntKind.i64.wrap ((a : Int) + IntKind.i64.wrap (Int.tdiv ((2 ^ (o' + 1) : Nat) : Int) 2)) = ((a + 2 ^ o' : Nat) : Int) := by
        rw [Int.tdiv_eq_ediv_of_nonneg (by omega), w64 (n := ((2 ^ (o' + 1) : Nat) : Int) / 2) (by omega) (by omega), w64 (by omega) (by omega)]; omega
      rw [ho1, hd]
      refine BIf.f (by simp; omega) ⟨⟨184, [], wPtrs bF bM bW⟩, h.fn.cell 0, ?_⟩
      refine CallW.mono (K := WV bF b0 l.length (out ++ walkF l o' a) w) (hrec ha h hF own (by omega)) ?_
      rintro _ w13 ⟨rfl, o13, t2, hF2, own2⟩
      have h13 := h.only o13
      have hwl := walkF_len (l := l) o' a
      refine ⟨rfl, ⟨184, [], wPtrs bF bM bW⟩, h13.fn.cell 0, by omega, ?_⟩
      refine CallW.mono (K := WV bF b0 l.length ((out ++ walkF l o' a) ++ walkF l o' (a + 2 ^ o')) w13) (hrec (by omega) h13 hF2 own2 (by rw [List.length_append]; omega)) ?_
      rintro _ w16 ⟨rfl, o16, t3, hF3, own3⟩
      refine ⟨rfl, rfl, o13.step o16 (fun i _ hi => hi), t3, hF3, ?_⟩
      rw [hwe, ← List.append_assoc]; exact own3
theorem c184 {bF bM bW b0 : Nat} {s : Sl} {l : List Bool} (hl1024 : l.length ≤ 1024) : ∀ (o : Nat), o ≤ 10 → ∀ {a : Nat} {out : List DBlock} {t : Sl} {w : World}, a ≤ 4096 → WCtx w bF bM bW b0 s l → Blk w bF [.int .i64 (l.length : Int), .slice t.a t.len t.cap] → OwnS w b0 t 2 (out.flatMap DBlock.cells) → out.length + 2 ^ o ≤ 4096 →
    CallW Try.prog 184 ⟨[.int .i64 (a : Int), .int .i64 (o : Int)] ++ wPtrs bF bM bW⟩ w (WV bF b0 l.length (out ++ walkF l o a) w)
  | 0, ho, _, _, _, _, ha, h, hF, own, hol => c184s hl1024 ho (.inl rfl) ha h hF own hol
  | o + 1, ho, _, _, _, _, ha, h, hF, own, hol => c184s hl1024 ho (.inr ⟨o, rfl, fun {a out t w} ha h hF own hol => c184 hl1024 o (by omega) ha h hF own hol⟩) ha h hF own hol
theorem Bls.old {w : World} {s : Sl} {l : List Bool} (h : Bls w s l) (h0 : 0 < l.length) {p : Addr} (hp : s.a = some p) : p.block < w.heap.size := by
  obtain ⟨q, hq, hc⟩ := h.row.cell (bools_get h0)
  rw [hp] at hq; cases hq
  unfold World.cell? at hc
  rw [add_zero] at hc
  rcases hb : w.heap[p.block]? with _ | o
  · rw [hb] at hc; exact absurd hc (by simp)
  · exact (Array.getElem?_eq_some_iff.1 hb).1
theorem c148 {s : Sl} {l : List Bool} {w : World} (h : Bls w s l) (hl1024 : l.length ≤ 1024) : CallW Try.prog 148 #[.slice s.a s.len s.cap] w (FrV l.length (listF l 0) w) := by
  refine go148 ?_
  unfold W148
  have hl := h.len
  refine alloc_step (fun w1 e1 hM n1 => ?_)
  refine alloc_step (fun w2 e2 hr n2 => ?_)
  have hM2 := hM.ext e2
  refine ⟨s, hM2.cell 0, ?_⟩
  rw [hl]
  refine alloc_step (fun w4 e4 hF n4 => put_step hF rfl rfl (fun w5 o5 hF n5 => ?_))
  have e25 : Ext w2 w5 := Ext.own e4 o5 (fun k hk => by omega)
  refine alloc_step (fun w6 e6 hW n6 => set_step hW (by simp) (fun w7 o7 hW n7 => ?_))
  have e57 : Ext w5 w7 := Ext.own e6 o7 (fun k hk => by omega)
  have e27 := Only.trans e25 e57
  have e7 : Ext w w7 := Only.trans e1 (Only.trans e2 e27)
  have z7 := e7.size
  have hctx : WCtx w7 w2.heap.size w.heap.size w5.heap.size w7.heap.size s l := ⟨hM2.ext e27, h.ext e7, hW, fun p hp h0 => by have := h.old h0 hp; omega, by omega, by omega, by omega, Nat.le_refl _, fun p hp h0 => by have := h.old h0 hp; omega⟩
  refine ⟨⟨184, [], wPtrs w2.heap.size w.heap.size w5.heap.size⟩, hW.cell 0, ?_⟩
  refine CallW.mono (K := WV w2.heap.size w7.heap.size l.length ([] ++ walkF l 10 0) w7) (c184 (a := 0) hl1024 10 (by omega) (by omega) hctx (hF.ext e57) (t := ⟨none, 0, 0⟩) (out := []) (OwnS.none _ _ _ _) (by decide)) ?_
  rintro _ w10 ⟨rfl, o10, t, hF10, own10⟩
  have hr10 := (hr.ext e27).only o10 (fun hh => by omega)
  refine ⟨rfl, _, hF10.cell 0, t, hF10.cell 1, put_step hr10 rfl rfl (fun w13 o13 hr13 n13 => ?_)⟩
  have z10 := o10.size
  have e10 : Ext w w10 := e7.own o10 (fun i hi => by omega)
  rw [List.nil_append, ← list_eq hl1024] at own10
  refine ⟨_, hr13.cell 0, t, hr13.cell 1, t, rfl, (own10.only o13 (fun b _ hb0 _ hbb => by omega)).mono z7, e10.own o13 (fun i hi => by omega)⟩
end Go.Proofs.Ytkgoanjemhbjgaa

/- Frames: one taken, on both sides. Conditions: none. -/
set_option linter.unusedVariables false
set_option linter.unusedSimpArgs false
namespace Go.Proofs.Ytkgoanjemhbjgaa
open Go Go.Den
def setV (b : Bool) (l : List Bool) (a : Nat) : Nat → List Bool
  | 0 => l
  | k + 1 => (setV b l a k).set (a + k) b
theorem setV_len (b : Bool) (l : List Bool) (a : Nat) : ∀ k, (setV b l a k).length = l.length
  | 0 => rfl
  | k + 1 => by unfold setV; rw [List.length_set, setV_len b l a k]
theorem c183 {q a n : Nat} {b : Bool} {l : List Bool} {w : World} (h : Blk w q (bools l)) (hn : a + n ≤ l.length) (hs : l.length ≤ 4096) : CallW Try.prog 183 #[.slice (some ⟨q, 0, none⟩) l.length l.length, .int .i64 (a : Int), .int .i64 (n : Int), .bool b] w (fun v w' => v = .tuple #[] ∧ Blk w' q (bools (setV b l a n)) ∧ Only (fun k => k = q) w w') := by
  refine CallW.mono (go183 (a0 := ⟨some ⟨q, 0, none⟩, l.length, l.length⟩) (K := fun v w' => v = .tuple #[] ∧ Blk w' q (bools (setV b l a n)) ∧ Only (fun k => k = q) w w') ?_) (fun _ _ h => h)
  unfold W183
  refine LoopW.m1 (fun (i : Int) w' => ∃ k : Nat, i = k ∧ k ≤ n ∧ Blk w' q (bools (setV b l a k)) ∧ Only (fun k => k = q) w w') (fun (i : Int) _ => ((n : Int) - i).toNat) ⟨0, rfl, by omega, h, Only.refl _ _⟩ ?_
  rintro (i : Int) w3 ⟨k, rfl, hk, h3, o3⟩ J hJ
  refine BIf.dec (fun hlt => ?_) (fun hge => ?_)
  · have hidx : IntKind.i64.wrap ((a : Int) + (k : Int)) = ((a + k : Nat) : Int) := by rw [w64 (by omega) (by omega)]; omega
    rw [hidx, Int.toNat_natCast]
    refine ⟨by omega, by show ((a + k : Nat) : Int) < ((l.length : Nat) : Int); omega, _, rfl, set1_step h3 (by rw [bools_len, setV_len]; omega) (fun w5 o5 h5 n5 => ?_)⟩
    rw [bools_set] at h5
    rw [w64 (by omega) (by omega)]
    exact hJ _ _ ⟨k + 1, by omega, by omega, h5, Only.trans o3 o5⟩ (by omega)
  · have : k = n := by omega
    subst this
    exact ⟨rfl, h3, o3⟩
theorem c162 {l : Sl} {T : Int} {fr : List DBlock} {w : World} (h : FrAt w l fr) : CallW Try.prog 162 #[.agg #[.int .i64 T, .slice l.a l.len l.cap]] w (FrV T fr w) := by
  refine go162 ?_
  unfold W162
  have hl := h.len
  have hs := h.few
  refine alloc_step (fun w1 e1 hb n1 => ?_)
  refine alloc_step (fun w2 e2 hz n2 => ?_)
  have hb := (hb.ext e2).ext (ext_drew w2)
  have hz := hz.ext (ext_drew w2)
  have e := Only.trans e1 (Only.trans e2 (ext_drew w2))
  have zd : w2.drew.heap.size = w2.heap.size := rfl
  generalize w2.drew = w2 at *
  refine ⟨_, hb.cell 0, l, hb.cell 1, ?_⟩
  refine alloc_step (fun w5 e5 _ n5 => ?_)
  have hb := hb.ext e5
  have hz := hz.ext e5
  have e := Only.trans e e5
  refine ⟨⟨l, hb.cell 1, rfl⟩, ⟨_, hb.cell 0, rfl⟩, ?_⟩
  refine AppendW.own (b0 := w5.heap.size) (z := 2) (os := []) (vs := fr.flatMap DBlock.cells) (OwnS.none _ _ _ _) ((h.ext e).row) rfl rfl (by decide) (by show (0 + l.len) * 16 ≤ _; omega) plain_blk (Nat.le_refl _) (fun s' w9 h1 h2 h3 h4 => ?_)
  have e9 : Ext w5 w9 := h3.mono (fun k hk hh => by have h5 := hh.1; omega)
  have hb := hb.ext e9
  have hz := hz.ext e9
  have e := Only.trans e e9
  have z9 := e9.size
  refine ⟨⟨_, hb.cell 0, rfl⟩, put_step hz rfl rfl (fun w11 o11 hz n11 => ?_)⟩
  have e := Ext.own e o11 (fun k hk => by omega)
  have h2 := h2.only o11 (fun b _ hb0 _ hbb => by omega)
  exact ⟨_, hz.cell 0, s', hz.cell 1, s', rfl, h2.mono (by omega), e⟩
/-! ## The best block -/
def ordAt (fr : List DBlock) (i : Int) : Int := match fr[i.toNat]? with | some y => y.Order | none => 0
def bestF (fr : List DBlock) (o : Int) : Nat → Int
  | 0 => -1
  | k + 1 => match fr[k]? with
    | none => bestF fr o k
    | some x => if o ≤ x.Order ∧ (bestF fr o k < 0 ∨ x.Order < ordAt fr (bestF fr o k)) then (k : Int) else bestF fr o k
theorem bestF_rng (fr : List DBlock) (o : Int) : ∀ k, -1 ≤ bestF fr o k ∧ bestF fr o k < k
  | 0 => by unfold bestF; omega
  | k + 1 => by
    have := bestF_rng fr o k
    unfold bestF
    split
    · omega
    · split <;> omega
theorem bestF_ord (fr : List DBlock) (o : Int) : ∀ k, bestF fr o k = -1 ∨ ∃ x, fr[(bestF fr o k).toNat]? = some x ∧ o ≤ x.Order
  | 0 => .inl rfl
  | k + 1 => by
    have := bestF_ord fr o k
    unfold bestF
    split
    · exact this
    · rename_i x hx
      split
      · rename_i h; exact .inr ⟨x, by rw [Int.toNat_natCast]; exact hx, h.1⟩
      · exact this
open Classical in
noncomputable def takeF (T : Int) (fr : List DBlock) (o : Int) : Int × List DBlock × Int :=
  if ¬ FOk T fr ∨ o < 0 ∨ 10 < o then (0, [], -1)
  else if bestF fr o fr.length < 0 then (T, fr, -1)
  else match fr[(bestF fr o fr.length).toNat]? with
    | none => (T, fr, -1)
    | some x => (T, listF (setV false (freeL T fr) x.At.toNat (2 ^ o.toNat)) 0, x.At)
def TkV (r : Int × List DBlock × Int) (w : World) (v : Value) (w' : World) : Prop := ∃ t : Sl, v = .tuple #[.agg #[.int .i64 r.1, .slice t.a t.len t.cap], .int .i64 r.2.2] ∧ OwnS w' w.heap.size t 2 (r.2.1.flatMap DBlock.cells) ∧ Ext w w'
theorem takeF_bad {T o : Int} {fr : List DBlock} (h : ¬ FOk T fr ∨ o < 0 ∨ 10 < o) : takeF T fr o = (0, [], -1) := by unfold takeF; rw [if_pos h]
theorem takeF_none {T o : Int} {fr : List DBlock} (h : ¬ (¬ FOk T fr ∨ o < 0 ∨ 10 < o)) (hb : bestF fr o fr.length < 0) : takeF T fr o = (T, fr, -1) := by unfold takeF; rw [if_neg h, if_pos hb]
theorem takeF_some {T o : Int} {fr : List DBlock} (h : ¬ (¬ FOk T fr ∨ o < 0 ∨ 10 < o)) {x : DBlock} (hb : 0 ≤ bestF fr o fr.length) (hx : fr[(bestF fr o fr.length).toNat]? = some x) : takeF T fr o = (T, listF (setV false (freeL T fr) x.At.toNat (2 ^ o.toNat)) 0, x.At) := by unfold takeF; rw [if_neg h, if_neg (by omega), hx]
theorem pow_mono_le {a b : Int} (h : a ≤ b) : pw a ≤ pw b := by
  unfold pw
  have : 2 ^ a.toNat ≤ 2 ^ b.toNat := pow_le (by omega)
  omega
theorem c144 {l : Sl} {T o : Int} {fr : List DBlock} {w : World} (h : FrAt w l fr) : CallW Try.prog 144 #[.agg #[.int .i64 T, .slice l.a l.len l.cap], .int .i64 o] w (TkV (takeF T fr o) w) := by
  refine go144 ?_
  unfold W144
  have hl := h.len
  have hfew := h.few
  refine alloc_step (fun w1 e1 hb n1 => ?_)
  refine alloc_step (fun w2 e2 hz n2 => ?_)
  have hb := hb.ext e2
  have e := Only.trans e1 e2
  refine ⟨_, hb.cell 0, l, hb.cell 1, (c160 (h.ext e)).mono ?_⟩
  rintro _ w6 ⟨b, rfl, hiff, e6⟩
  have hb := hb.ext e6
  have hz := hz.ext e6
  have e := Only.trans e e6
  have z6 := e6.size
  refine ⟨b, rfl, ?_⟩
  simp only [join_or]
  refine BIf.of (fun hbad => ?_) (fun hgood => ?_)
  · have hbd : ¬ FOk T fr ∨ o < 0 ∨ 10 < o := by
      simp only [Bool.or_eq_true, Bool.not_eq_true', decide_eq_true_eq] at hbad
      rcases hbad with (hb1 | hb1) | hb1
      · exact .inl (fun hf => by rw [hiff.2 hf] at hb1; cases hb1)
      · exact .inr (.inl hb1)
      · exact .inr (.inr hb1)
    refine put_step hz rfl rfl (fun w14 o14 hz n14 => ?_)
    refine ⟨_, hz.cell 0, ⟨none, 0, 0⟩, hz.cell 1, ?_⟩
    rw [takeF_bad hbd]
    exact ⟨⟨none, 0, 0⟩, rfl, OwnS.none _ _ _ _, Ext.own e o14 (fun k hk => by omega)⟩
  have hgd : ¬ (¬ FOk T fr ∨ o < 0 ∨ 10 < o) := by
    simp only [Bool.or_eq_false_iff, Bool.not_eq_false', decide_eq_false_iff_not] at hgood
    rintro (hh | hh | hh)
    · exact hh (hiff.1 hgood.1.1)
    · omega
    · omega
  have hok : FOk T fr := Classical.byContradiction (fun hn => hgd (.inl hn))
  refine LoopW.m2 (fun (best i : Int) w' => ∃ k : Nat, i = k ∧ k ≤ fr.length ∧ best = bestF fr o k ∧ Ext w6 w') (fun _ (i : Int) _ => ((fr.length : Int) - i).toNat) ⟨0, rfl, by omega, rfl, Only.refl _ _⟩ ?_
  rintro (best : Int) (i : Int) w20 ⟨k, rfl, hk, rfl, e20⟩ J hJ
  have hb20 := hb.ext e20
  have hz20 := hz.ext e20
  have ew20 := Only.trans e e20
  have z20 := e20.size
  have hr := bestF_rng fr o k
  refine ⟨l, hb20.cell 1, ?_⟩
  rw [hl]
  refine BIf.dec (fun hlt => ?_) (fun hge => ?_)
  · obtain ⟨x, hx⟩ : ∃ x, fr[k]? = some x := ⟨_, List.getElem?_eq_getElem (by omega)⟩
    have hst : bestF fr o (k + 1) = if o ≤ x.Order ∧ (bestF fr o k < 0 ∨ x.Order < ordAt fr (bestF fr o k)) then (k : Int) else bestF fr o k := by
      rw [bestF, hx]; try rfl
    have ed := ext_drew w20
    refine JoinW.cut1 (fun (b : Bool) w' => (b = true ↔ o ≤ x.Order ∧ (bestF fr o k < 0 ∨ x.Order < ordAt fr (bestF fr o k))) ∧ Ext w20 w') ?_ ?_
    · generalize w20.drew = w21 at *
      have hb21 := hb20.ext ed
      have h21 := h.ext (Only.trans ew20 ed)
      obtain ⟨p, hp, hc0, hc1⟩ := h21.get hx
      refine ⟨l, hb21.cell 1, by omega, by omega, p, hp, _, hc1, ?_⟩
      refine BIf.dec (fun h1 => BIf.dec (fun h2 => ⟨⟨fun _ => ⟨h1, .inl h2⟩, fun _ => rfl⟩, ed⟩) (fun h2 => ?_)) (fun h1 => ⟨⟨(fun hh => nomatch hh), fun hh => absurd hh.1 h1⟩, ed⟩)
      obtain ⟨y, hy⟩ : ∃ y, fr[(bestF fr o k).toNat]? = some y := ⟨_, List.getElem?_eq_getElem (by omega)⟩
      have hoy : ordAt fr (bestF fr o k) = y.Order := by unfold ordAt; rw [hy]
      obtain ⟨q, hq, hd0, hd1⟩ := h21.get hy
      rw [hoy]
      refine ⟨l, hb21.cell 1, by omega, by omega, p, hp, _, hc1, l, hb21.cell 1, by omega, by omega, q, hq, _, hd1, ?_, ed⟩
      rw [decide_eq_true_eq]
      exact ⟨fun hh => ⟨h1, .inr hh⟩, fun hh => by rcases hh.2 with hh | hh; exact absurd hh h2; exact hh⟩
    rintro (b : Bool) w24 ⟨hb24, e24⟩
    rw [w64 (by omega) (by omega)]
    refine BIf.of (fun hbt => ?_) (fun hbf => ?_)
    · exact hJ _ _ _ ⟨k + 1, by omega, by omega, by rw [hst, if_pos (hb24.1 hbt)], Only.trans e20 e24⟩ (by omega)
    · exact hJ _ _ _ ⟨k + 1, by omega, by omega, by rw [hst, if_neg (fun hh => by rw [hb24.2 hh] at hbf; cases hbf)], Only.trans e20 e24⟩ (by omega)
  · have hkl : k = fr.length := by omega
    subst hkl
    refine BIf.dec (fun hneg => ?_) (fun hpos => ?_)
    · rw [takeF_none hgd hneg]
      refine ⟨_, hb20.cell 0, l, hb20.cell 1, (c162 (h.ext ew20)).mono ?_⟩
      rintro _ w37 ⟨t, rfl, own, e37⟩
      have hz37 := hz20.ext e37
      have z37 := e37.size
      refine ⟨_, t, rfl, put_step hz37 rfl rfl (fun w40 o40 hz40 n40 => ?_)⟩
      have own40 := own.only o40 (fun b _ hb0 _ hbb => by omega)
      exact ⟨_, hz40.cell 0, t, hz40.cell 1, t, rfl, own40.mono (by omega), Ext.own (Only.trans ew20 e37) o40 (fun k hk => by omega)⟩
    · obtain ⟨x, hx⟩ : ∃ x, fr[(bestF fr o fr.length).toNat]? = some x := ⟨_, List.getElem?_eq_getElem (by omega)⟩
      rw [takeF_some hgd (by omega) hx]
      have hbo := blkOk_out (hok.2.2 _ x hx).1
      have hox : o ≤ x.Order := by
        rcases bestF_ord fr o fr.length with hh | ⟨y, hy, hyo⟩
        · omega
        · rw [hx] at hy; cases hy; exact hyo
      have hT0 := hok.1
      have hT1 := hok.2.1
      have ho0 : 0 ≤ o := by omega
      have hpo := pw_rng (o := o) (by omega)
      have hpm := pow_mono_le hox
      have hpn : pw o = ((2 ^ o.toNat : Nat) : Int) := rfl
      refine ⟨_, hb20.cell 0, l, hb20.cell 1, (c153 (h.ext ew20) hok).mono ?_⟩
      rintro _ w46 ⟨bf, rfl, hbf0, hbf, e46⟩
      have z46 := e46.size
      have e46d := Only.trans e46 (ext_drew w46)
      have hb46 := hb20.ext e46d
      have hz46 := hz20.ext e46d
      have hbf46 := hbf.ext (ext_drew w46)
      have zd : w46.drew.heap.size = w46.heap.size := rfl
      generalize w46.drew = w47 at *
      have h47 := h.ext (Only.trans ew20 e46d)
      obtain ⟨p, hp, hc0, hc1⟩ := h47.get hx
      refine ⟨⟨some ⟨bf, 0, none⟩, T.toNat, T.toNat⟩, rfl, l, hb46.cell 1, by omega, by omega, p, hp, _, hc0, (c176 ho0 (by omega)).mono ?_⟩
      rintro _ w47 ⟨rfl, rfl⟩
      refine ⟨_, rfl, ⟨_, hc0, rfl⟩, ⟨l, hb46.cell 1, rfl⟩, ?_⟩
      have hfl := freeL_len T fr
      have hmk := c183 (a := x.At.toNat) (n := 2 ^ o.toNat) (b := false) hbf46 (by omega) (by omega)
      rw [hfl, show ((x.At.toNat : Nat) : Int) = x.At by omega] at hmk
      refine hmk.mono ?_
      rintro _ w57 ⟨rfl, hbf57, o57⟩
      have eb57 : Ext w20 w57 := Ext.own e46d o57 (fun k hk => by omega)
      have e57d := Only.trans eb57 (ext_drew w57)
      have hb57 := hb20.ext e57d
      have hz57 := hz20.ext e57d
      have hbf57 := hbf57.ext (ext_drew w57)
      have zd2 : w57.drew.heap.size = w57.heap.size := rfl
      generalize w57.drew = w58 at *
      have h58 := h.ext (Only.trans ew20 e57d)
      obtain ⟨p2, hp2, hd0, hd1⟩ := h58.get hx
      rw [hp] at hp2; cases hp2
      refine ⟨rfl, l, hb57.cell 1, by omega, by omega, p, hp, _, hd0, ?_⟩
      have hlen2 : (setV false (freeL T fr) x.At.toNat (2 ^ o.toNat)).length = T.toNat := by rw [setV_len, hfl]
      have hls := c143 (bls_blk hbf57 (by omega)) (by omega)
      rw [hlen2] at hls
      refine hls.mono ?_
      rintro _ w62 ⟨t, rfl, own62, e62⟩
      have hb62 := hb57.ext e62
      have hz62 := hz57.ext e62
      have z57 := e57d.size
      have z62 := e62.size
      refine ⟨_, t, rfl, ⟨_, e62.cell hd0, rfl⟩, ⟨l, hb62.cell 1, rfl⟩, put_step hz62 rfl rfl (fun w67 o67 hz67 n67 => ?_)⟩
      have hb67 := hb62.only o67 (by omega)
      have e67 : Ext w w67 := Ext.own (Only.trans ew20 (Only.trans e57d e62)) o67 (fun k hk => by omega)
      obtain ⟨p3, hp3, hf0, hf1⟩ := (h.ext e67).get hx
      rw [hp] at hp3; cases hp3
      have own67 := own62.only o67 (fun b _ hb0 _ hbb => by omega)
      refine ⟨⟨_, hf0, rfl⟩, ⟨l, hb67.cell 1, rfl⟩, _, hz67.cell 0, t, hz67.cell 1, t, ?_, own67.mono (by omega), e67⟩
      rw [show ((T.toNat : Nat) : Int) = T by omega]
end Go.Proofs.Ytkgoanjemhbjgaa

/- Frames: one taken, on the program's side; pools: a frame taken and cleared. Conditions: none. -/
set_option linter.unusedVariables false
set_option linter.unusedSimpArgs false
namespace Go.Proofs.Ytkgoanjemhbjgaa
open Go Go.Den
theorem c83 {l : Sl} {T o : Int} {fr : List DBlock} {w : World} (h : FrAt w l fr) : CallW Try.prog 83 #[.agg #[.int .i64 T, .slice l.a l.len l.cap], .int .i64 o] w (TkV (takeF T fr o) w) := by
  refine go83 ?_
  unfold W83
  have hl := h.len
  have hfew := h.few
  refine alloc_step (fun w1 e1 hb n1 => ?_)
  refine alloc_step (fun w2 e2 hz n2 => ?_)
  have hb := hb.ext e2
  have e := Only.trans e1 e2
  refine ⟨_, hb.cell 0, l, hb.cell 1, (c134 (h.ext e)).mono ?_⟩
  rintro _ w6 ⟨b, rfl, hiff, e6⟩
  have hb := hb.ext e6
  have hz := hz.ext e6
  have e := Only.trans e e6
  have z6 := e6.size
  refine ⟨b, rfl, ?_⟩
  simp only [join_or]
  refine BIf.of (fun hbad => ?_) (fun hgood => ?_)
  · have hbd : ¬ FOk T fr ∨ o < 0 ∨ 10 < o := by
      simp only [Bool.or_eq_true, Bool.not_eq_true', decide_eq_true_eq] at hbad
      rcases hbad with (hb1 | hb1) | hb1
      · exact .inl (fun hf => by rw [hiff.2 hf] at hb1; cases hb1)
      · exact .inr (.inl hb1)
      · exact .inr (.inr hb1)
    refine put_step hz rfl rfl (fun w14 o14 hz n14 => ?_)
    refine ⟨_, hz.cell 0, ⟨none, 0, 0⟩, hz.cell 1, ?_⟩
    rw [takeF_bad hbd]
    exact ⟨⟨none, 0, 0⟩, rfl, OwnS.none _ _ _ _, Ext.own e o14 (fun k hk => by omega)⟩
  have hgd : ¬ (¬ FOk T fr ∨ o < 0 ∨ 10 < o) := by
    simp only [Bool.or_eq_false_iff, Bool.not_eq_false', decide_eq_false_iff_not] at hgood
    rintro (hh | hh | hh)
    · exact hh (hiff.1 hgood.1.1)
    · omega
    · omega
  have hok : FOk T fr := Classical.byContradiction (fun hn => hgd (.inl hn))
  refine ⟨l, hb.cell 1, ?_⟩
  rw [hl]
  refine LoopW.m2 (fun (best i : Int) w' => ∃ k : Nat, i = k ∧ k ≤ fr.length ∧ best = bestF fr o k ∧ Ext w6 w') (fun _ (i : Int) _ => ((fr.length : Int) - i).toNat) ⟨0, rfl, by omega, rfl, Only.refl _ _⟩ ?_
  rintro (best : Int) (i : Int) w20 ⟨k, rfl, hk, rfl, e20⟩ J hJ
  have hb20 := hb.ext e20
  have hz20 := hz.ext e20
  have ew20 := Only.trans e e20
  have z20 := e20.size
  have hr := bestF_rng fr o k
  refine BIf.dec (fun hlt => ?_) (fun hge => ?_)
  · obtain ⟨x, hx⟩ : ∃ x, fr[k]? = some x := ⟨_, List.getElem?_eq_getElem (by omega)⟩
    have hst : bestF fr o (k + 1) = if o ≤ x.Order ∧ (bestF fr o k < 0 ∨ x.Order < ordAt fr (bestF fr o k)) then (k : Int) else bestF fr o k := by
      rw [bestF, hx]; try rfl
    obtain ⟨p0, hp0, hx0, hx1⟩ := (h.ext ew20).get hx
    refine ⟨by omega, by omega, p0, hp0, _, hx0, _, hx1, alloc_step (fun w25 e25 hy n25 => blk_put2 hy (fun w26 o26 hy n26 => ?_))⟩
    have e26 : Ext w20 w26 := Ext.own e25 o26 (fun j hj => by omega)
    have ed := Only.trans e26 (ext_drew w26)
    have hy := hy.ext (ext_drew w26)
    refine JoinW.cut1 (fun (b : Bool) w' => (b = true ↔ o ≤ x.Order ∧ (bestF fr o k < 0 ∨ x.Order < ordAt fr (bestF fr o k))) ∧ Ext w20 w') ?_ ?_
    · generalize w26.drew = w21 at *
      have hb21 := hb20.ext ed
      have h21 := h.ext (Only.trans ew20 ed)
      refine ⟨_, hy.cell 1, ?_⟩
      refine BIf.dec (fun h1 => BIf.dec (fun h2 => ⟨⟨fun _ => ⟨h1, .inl h2⟩, fun _ => rfl⟩, ed⟩) (fun h2 => ?_)) (fun h1 => ⟨⟨(fun hh => nomatch hh), fun hh => absurd hh.1 h1⟩, ed⟩)
      obtain ⟨y, hyy⟩ : ∃ y, fr[(bestF fr o k).toNat]? = some y := ⟨_, List.getElem?_eq_getElem (by omega)⟩
      have hoy : ordAt fr (bestF fr o k) = y.Order := by unfold ordAt; rw [hyy]
      obtain ⟨q, hq, hd0, hd1⟩ := h21.get hyy
      rw [hoy]
      refine ⟨_, hy.cell 1, l, hb21.cell 1, by omega, by omega, q, hq, _, hd1, ?_, ed⟩
      rw [decide_eq_true_eq]
      exact ⟨fun hh => ⟨h1, .inr hh⟩, fun hh => by rcases hh.2 with hh | hh; exact absurd hh h2; exact hh⟩
    rintro (b : Bool) w24 ⟨hb24, e24⟩
    rw [w64 (by omega) (by omega)]
    refine BIf.of (fun hbt => ?_) (fun hbf => ?_)
    · exact hJ _ _ _ ⟨k + 1, by omega, by omega, by rw [hst, if_pos (hb24.1 hbt)], Only.trans e20 e24⟩ (by omega)
    · exact hJ _ _ _ ⟨k + 1, by omega, by omega, by rw [hst, if_neg (fun hh => by rw [hb24.2 hh] at hbf; cases hbf)], Only.trans e20 e24⟩ (by omega)
  · have hkl : k = fr.length := by omega
    subst hkl
    refine BIf.dec (fun hneg => ?_) (fun hpos => ?_)
    · rw [takeF_none hgd hneg]
      refine ⟨_, hb20.cell 0, l, hb20.cell 1, (c149 (h.ext ew20)).mono ?_⟩
      rintro _ w37 ⟨t, rfl, own, e37⟩
      have hz37 := hz20.ext e37
      have z37 := e37.size
      refine ⟨_, t, rfl, put_step hz37 rfl rfl (fun w40 o40 hz40 n40 => ?_)⟩
      have own40 := own.only o40 (fun b _ hb0 _ hbb => by omega)
      exact ⟨_, hz40.cell 0, t, hz40.cell 1, t, rfl, own40.mono (by omega), Ext.own (Only.trans ew20 e37) o40 (fun k hk => by omega)⟩
    · obtain ⟨x, hx⟩ : ∃ x, fr[(bestF fr o fr.length).toNat]? = some x := ⟨_, List.getElem?_eq_getElem (by omega)⟩
      rw [takeF_some hgd (by omega) hx]
      have hbo := blkOk_out (hok.2.2 _ x hx).1
      have hox : o ≤ x.Order := by
        rcases bestF_ord fr o fr.length with hh | ⟨y, hy, hyo⟩
        · omega
        · rw [hx] at hy; cases hy; exact hyo
      have hT0 := hok.1
      have hT1 := hok.2.1
      have ho0 : 0 ≤ o := by omega
      have hpo := pw_rng (o := o) (by omega)
      have hpm := pow_mono_le hox
      have hpn : pw o = ((2 ^ o.toNat : Nat) : Int) := rfl
      have hfl := freeL_len T fr
      refine ⟨_, hb20.cell 0, l, hb20.cell 1, (c150 (h.ext ew20) hok).mono ?_⟩
      rintro _ w47 ⟨bf, rfl, hbf0, hbf, e47⟩
      have z47 := e47.size
      have hb47 := hb20.ext e47
      have hz47 := hz20.ext e47
      have hbfl := hbf.lt
      obtain ⟨p, hp, hc0, hc1⟩ := (h.ext (Only.trans ew20 e47)).get hx
      refine ⟨⟨some ⟨bf, 0, none⟩, T.toNat, T.toNat⟩, rfl, l, hb47.cell 1, by omega, by omega, p, hp, _, hc0, _, hc1, alloc_step (fun w53 e53 hy n53 => blk_put2 hy (fun w54 o54 hy n54 => ?_))⟩
      have e54 : Ext w47 w54 := Ext.own e53 o54 (fun j hj => by omega)
      rw [shl_pw ho0 (by omega)]
      refine ⟨by omega, ?_⟩
      refine LoopW.m1 (fun (i : Int) w' => ∃ q : Nat, i = q ∧ q ≤ 2 ^ o.toNat ∧ Blk w' bf (bools (setV false (freeL T fr) x.At.toNat q)) ∧ Blk w' w47.heap.size [.int .i64 x.At, .int .i64 x.Order] ∧ Ext w20 w' ∧ w47.heap.size < w'.heap.size) (fun (i : Int) _ => (pw o - i).toNat) ⟨0, rfl, by omega, hbf.ext e54, hy, Only.trans e47 e54, by omega⟩ ?_
      rintro (i : Int) w57 ⟨q, rfl, hq, hbf57, hy57, e57, z57⟩ J2 hJ2
      refine BIf.dec (fun hq2 => ?_) (fun hq2 => ?_)
      · have hidx : IntKind.i64.wrap (x.At + (q : Int)) = ((x.At.toNat + q : Nat) : Int) := by rw [w64 (by omega) (by omega)]; omega
        refine ⟨_, hy57.cell 0, ?_⟩
        rw [hidx, Int.toNat_natCast]
        refine ⟨by omega, by show ((x.At.toNat + q : Nat) : Int) < ((T.toNat : Nat) : Int); omega, _, rfl, set1_step hbf57 (by rw [bools_len, setV_len, hfl]; omega) (fun w60 o60 hbf60 n60 => ?_)⟩
        rw [w64 (by omega) (by omega)]
        rw [bools_set] at hbf60
        exact hJ2 _ _ ⟨q + 1, by omega, by omega, hbf60, hy57.only o60 (by omega), Ext.own e57 o60 (fun j hj => by omega), by omega⟩ (by omega)
      · have hq3 : q = 2 ^ o.toNat := by omega
        subst hq3
        have e57d := Only.trans e57 (ext_drew w57)
        have hy58 := hy57.ext (ext_drew w57)
        have hbf58 := hbf57.ext (ext_drew w57)
        have hz58 := hz20.ext e57d
        have zd2 : w57.drew.heap.size = w57.heap.size := rfl
        generalize w57.drew = w58 at *
        have hlen2 : (setV false (freeL T fr) x.At.toNat (2 ^ o.toNat)).length = T.toNat := by rw [setV_len, hfl]
        have hls := c148 (bls_blk hbf58 (by omega)) (by omega)
        rw [hlen2] at hls
        refine ⟨_, hy58.cell 0, hls.mono ?_⟩
        rintro _ w62 ⟨t, rfl, own62, e62⟩
        have hy62 := hy58.ext e62
        have hz62 := hz58.ext e62
        have z62 := e62.size
        refine ⟨_, t, rfl, ⟨_, hy62.cell 0, rfl⟩, put_step hz62 rfl rfl (fun w67 o67 hz67 n67 => ?_)⟩
        have hy67 := hy62.only o67 (by omega)
        have e67 : Ext w w67 := Ext.own (Only.trans ew20 (Only.trans e57d e62)) o67 (fun k hk => by omega)
        have own67 := own62.only o67 (fun b _ hb0 _ hbb => by omega)
        refine ⟨⟨_, hy67.cell 0, rfl⟩, _, hz67.cell 0, t, hz67.cell 1, t, ?_, own67.mono (by omega), e67⟩
        rw [show ((T.toNat : Nat) : Int) = T by omega]
/-! ## A frame's bytes cleared -/
def zer (m : List Int) (a : Nat) : Nat → List Int
  | 0 => m
  | k + 1 => (zer m a k).set (a + k) 0
theorem zer_len (m : List Int) (a : Nat) : ∀ k, (zer m a k).length = m.length
  | 0 => rfl
  | k + 1 => by unfold zer; rw [List.length_set, zer_len m a k]
theorem zer_rng {m : List Int} (h : ∀ x, x ∈ m → 0 ≤ x ∧ x ≤ 255) (a : Nat) : ∀ k x, x ∈ zer m a k → 0 ≤ x ∧ x ≤ 255
  | 0, x, hx => h x hx
  | k + 1, x, hx => by
    unfold zer at hx
    rcases List.mem_or_eq_of_mem_set hx with hx | hx
    · exact zer_rng h a k x hx
    · omega
def u8s (m : List Int) : List Value := m.map (Value.int .u8)
theorem u8s_len (m : List Int) : (u8s m).length = m.length := by unfold u8s; simp
theorem u8s_set (m : List Int) (i : Nat) (x : Int) : (u8s m).set i (.int .u8 x) = u8s (m.set i x) := by unfold u8s; rw [List.map_set]
theorem own_set1 {w : World} {b0 : Nat} {s : Sl} {m : List Int} {i : Nat} {x : Int} {k : World → Prop} (h : OwnS w b0 s 1 (u8s m)) (hi : i < m.length)
    (hk : ∀ w2, OwnS w2 b0 s 1 (u8s (m.set i x)) → Only (fun q => b0 ≤ q ∧ s.a = some ⟨q, 0, none⟩ ∧ q < w.heap.size) w w2 → w2.heap.size = w.heap.size → k w2) :
    ∃ p, s.a = some p ∧ May w (p.add (i * 1)) ∧ LetW (w.setCell (p.add (i * 1)) (.int .u8 x)) k := by
  have hl := h.len
  rw [u8s_len, Nat.mul_one] at hl
  obtain ⟨p, hp, hm, ho, hn⟩ := h.set (i := i) (by rw [u8s_len]; exact hi) (.int .u8 x)
  rw [Nat.mul_one]
  refine ⟨p, hp, hm, LetW_iff.2 (hk _ (by rw [← u8s_set]; exact ho) ?_ (size_set w _ _))⟩
  have hcap := OwnS.capLe h
  obtain ⟨q, hq, hq0, hq1⟩ := OwnS.where_ h (by omega)
  rw [hp] at hq
  cases hq
  have hos := only_set w ((⟨q, 0, none⟩ : Addr).add i) (.int .u8 x)
  exact hos.mono (fun j _ hj => by rw [add_block] at hj; subst hj; exact ⟨hq0, hp, hq1⟩)
set_option maxRecDepth 8000 in
theorem c161 {sm sf : Sl} {T : Int} {m : List Int} {b0 f : Nat} {w : World} (h : OwnS w b0 sm 1 (u8s m)) {n : Nat} (hn256 : n = 256) (hf : f * 256 + n ≤ m.length) (hs : m.length ≤ 1048576) :
    CallW Try.prog 161 #[.agg #[.slice sm.a sm.len sm.cap, .int .i64 T, .slice sf.a sf.len sf.cap], .int .i64 (f : Int)] w (fun v w' => v = .tuple #[] ∧ OwnS w' b0 sm 1 (u8s (zer m (f * 256) n)) ∧ Only (fun q => b0 ≤ q ∧ sm.a = some ⟨q, 0, none⟩) w w') := by
  refine go161 ?_
  unfold W161
  refine alloc_step (fun w1 e1 hb n1 => ?_)
  have hl := h.len
  rw [u8s_len, Nat.mul_one] at hl
  obtain ⟨q0, hq0, hq1, hq2⟩ := OwnS.where_ h (by have := OwnS.capLe h; omega)
  refine LoopW.m1 (fun (i : Int) w' => ∃ k : Nat, i = k ∧ k ≤ n ∧ OwnS w' b0 sm 1 (u8s (zer m (f * 256) k)) ∧ Only (fun q => b0 ≤ q ∧ sm.a = some ⟨q, 0, none⟩) w1 w') (fun (i : Int) _ => (256 - i).toNat) ⟨0, rfl, by omega, h.ext e1, Only.refl _ _⟩ ?_
  rintro (i : Int) w4 ⟨k, rfl, hk, h4, o4⟩ J hJ
  refine BIf.dec (fun hlt => ?_) (fun hge => ?_)
  · have hb4 := hb.only o4 (fun hh => by have h5 := hh.2; rw [hq0] at h5; cases h5; omega)
    refine ⟨sm, hb4.cell 0, ?_⟩
    have hidx : IntKind.i64.wrap (IntKind.i64.wrap ((f : Int) * 256) + (k : Int)) = ((f * 256 + k : Nat) : Int) := by rw [w64 (n := (f : Int) * 256) (by omega) (by omega), w64 (by omega) (by omega)]; omega
    rw [hidx, Int.toNat_natCast]
    refine ⟨by omega, by omega, own_set1 h4 (by rw [zer_len]; omega) (fun w7 h7 o7 n7 => ?_)⟩
    rw [w64 (by omega) (by omega)]
    exact hJ _ _ ⟨k + 1, by omega, by omega, h7, Only.trans o4 (o7.mono (fun j _ hj => ⟨hj.1, hj.2.1⟩))⟩ (by omega)
  · have hk2 : k = n := by omega
    subst hk2
    exact ⟨rfl, h4, e1.any.trans o4⟩
set_option maxRecDepth 8000 in
theorem c163 {sm : Sl} {x y : Value} {m : List Int} {b b0 f : Nat} {w : World} (hp : Blk w b [.slice sm.a sm.len sm.cap, x, y]) (h : OwnS w b0 sm 1 (u8s m)) (hmb : Apart sm b) {n : Nat} (hn256 : n = 256) (hf : f * 256 + n ≤ m.length) (hs : m.length ≤ 1048576) :
    CallW Try.prog 163 #[.pointer (some ⟨b, 0, none⟩), .int .i64 (f : Int)] w (fun v w' => v = .tuple #[] ∧ OwnS w' b0 sm 1 (u8s (zer m (f * 256) n)) ∧ Only (fun q => b0 ≤ q ∧ sm.a = some ⟨q, 0, none⟩) w w') := by
  refine go163 ?_
  unfold W163
  have hl := h.len
  rw [u8s_len, Nat.mul_one] at hl
  have hcap : 0 < sm.cap := by have := OwnS.capLe h; omega
  refine LoopW.m1 (fun (i : Int) w' => ∃ k : Nat, i = k ∧ k ≤ n ∧ OwnS w' b0 sm 1 (u8s (zer m (f * 256) k)) ∧ Only (fun q => b0 ≤ q ∧ sm.a = some ⟨q, 0, none⟩) w w') (fun (i : Int) _ => (256 - i).toNat) ⟨0, rfl, by omega, h, Only.refl _ _⟩ ?_
  rintro (i : Int) w4 ⟨k, rfl, hk, h4, o4⟩ J hJ
  refine BIf.dec (fun hlt => ?_) (fun hge => ?_)
  · have hb4 := hp.only o4 (fun hh => hmb hcap hh.2)
    refine ⟨_, rfl, sm, hb4.cell 0, ?_⟩
    have hidx : IntKind.i64.wrap (IntKind.i64.wrap ((f : Int) * 256) + (k : Int)) = ((f * 256 + k : Nat) : Int) := by rw [w64 (n := (f : Int) * 256) (by omega) (by omega), w64 (by omega) (by omega)]; omega
    rw [hidx, Int.toNat_natCast]
    refine ⟨by omega, by omega, own_set1 h4 (by rw [zer_len]; omega) (fun w7 h7 o7 n7 => ?_)⟩
    rw [w64 (by omega) (by omega)]
    exact hJ _ _ ⟨k + 1, by omega, by omega, h7, Only.trans o4 (o7.mono (fun j _ hj => ⟨hj.1, hj.2.1⟩))⟩ (by omega)
  · have hk2 : k = n := by omega
    subst hk2
    exact ⟨rfl, h4, o4⟩
end Go.Proofs.Ytkgoanjemhbjgaa

/- Spaces: a pool copied, a frame taken from a pool, both sides. Conditions: none. -/
set_option linter.unusedVariables false
set_option linter.unusedSimpArgs false
namespace Go.Proofs.Ytkgoanjemhbjgaa
open Go Go.Den
/-- A pool's two slices, owned. -/
def PoV (m : List Int) (fr : List DBlock) (b0 : Nat) (w : World) (tm tf : Sl) : Prop :=
  OwnS w b0 tm 1 (u8s m) ∧ OwnS w b0 tf 2 (fr.flatMap DBlock.cells) ∧ ∀ q, 0 < tm.cap → tm.a = some ⟨q, 0, none⟩ → Apart tf q
theorem PoV.only {S : Nat → Prop} {m : List Int} {fr : List DBlock} {b0 : Nat} {w w' : World} {tm tf : Sl} (h : PoV m fr b0 w tm tf) (o : Only S w w') (hS : ∀ b, b0 ≤ b → b < w.heap.size → ¬ S b) : PoV m fr b0 w' tm tf :=
  ⟨h.1.only o (fun b _ h1 h2 => hS b h1 h2), h.2.1.only o (fun b _ h1 h2 => hS b h1 h2), h.2.2⟩
theorem PoV.mono {m : List Int} {fr : List DBlock} {b0 b1 : Nat} {w : World} {tm tf : Sl} (h : PoV m fr b0 w tm tf) (hb : b1 ≤ b0) : PoV m fr b1 w tm tf := ⟨h.1.mono hb, h.2.1.mono hb, h.2.2⟩
theorem PoV.ext {m : List Int} {fr : List DBlock} {b0 : Nat} {w w' : World} {tm tf : Sl} (h : PoV m fr b0 w tm tf) (e : Ext w w') : PoV m fr b0 w' tm tf := h.only e (fun _ _ _ => id)
theorem apart_new {w w2 : World} {b0 b1 z z2 : Nat} {s t : Sl} {vs us : List Value} (hs : OwnS w b0 s z vs) (ht : OwnS w2 b1 t z2 us) (hb : w.heap.size ≤ b1) : ∀ q, 0 < s.cap → s.a = some ⟨q, 0, none⟩ → Apart t q := by
  intro q hc hq hc2 ha
  obtain ⟨q1, hq1, _, hlt1⟩ := OwnS.where_ hs hc
  obtain ⟨q2, hq2, hge, _⟩ := OwnS.where_ ht hc2
  rw [hq1] at hq; cases hq
  rw [hq2] at ha; cases ha; omega
theorem c101 {sm sf : Sl} {m : List Int} {T : Int} {fr : List DBlock} {w : World} (hm : Bytes w sm m) (hf : FrAt w sf fr) : CallW Try.prog 101 #[.agg #[.slice sm.a sm.len sm.cap, .int .i64 T, .slice sf.a sf.len sf.cap]] w
    (fun v w' => ∃ tm tf : Sl, v = .agg #[.slice tm.a tm.len tm.cap, .int .i64 T, .slice tf.a tf.len tf.cap] ∧ PoV m fr w.heap.size w' tm tf ∧ Ext w w') := by
  refine go101 ?_
  unfold W101
  have hl := hm.len
  have hs := hm.small
  refine alloc_step (fun w1 e1 hb n1 => ?_)
  refine alloc_step (fun w2 e2 hz n2 => ?_)
  have e := Only.trans (Only.trans e1 e2) (ext_drew w2)
  have hb := hb.ext (Only.trans e2 (ext_drew w2))
  have hz := hz.ext (ext_drew w2)
  have zd : w2.drew.heap.size = w2.heap.size := rfl
  generalize w2.drew = w3 at *
  refine ⟨sm, hb.cell 0, _, hb.cell 1, sf, hb.cell 2, alloc_step (fun w6 e6 hy n6 => ?_)⟩
  have hb := hb.ext e6
  have hz := hz.ext e6
  have e := Only.trans e e6
  refine ⟨⟨_, hb.cell 1, sf, hb.cell 2, rfl⟩, ⟨sm, hb.cell 0, rfl⟩, ?_⟩
  refine AppendW.own (b0 := w6.heap.size) (z := 1) (os := []) (vs := m.map (Value.int .u8)) (OwnS.none _ _ _ _) (by rw [Nat.mul_one]; exact (hm.ext e).row) rfl rfl (by decide) (by show (0 + sm.len) * 1 ≤ _; omega) plain_int (Nat.le_refl _) (fun tm w11 h1 om h3 h4 => ?_)
  have e11 : Ext w6 w11 := h3.mono (fun k hk hh => absurd hh.1 (by omega))
  have hb := hb.ext e11
  have hz := hz.ext e11
  have e := Only.trans e e11
  refine ⟨⟨_, hb.cell 1, sf, hb.cell 2, rfl⟩, (c162 (hf.ext e)).mono ?_⟩
  rintro _ w15 ⟨tf, rfl, of, e15⟩
  have hz := hz.ext e15
  have e := Only.trans e e15
  have om' : OwnS w15 w6.heap.size tm 1 (u8s m) := om.ext e15
  have z11 := e11.size
  have z15 := e15.size
  have hp : PoV m fr w6.heap.size w15 tm tf := ⟨om', of.mono (by omega), apart_new om of (by omega)⟩
  refine ⟨_, tf, rfl, put_step hz rfl rfl (fun w18 o18 hz n18 => ?_)⟩
  refine ⟨tm, hz.cell 0, _, hz.cell 1, tf, hz.cell 2, tm, tf, rfl, (hp.only o18 (fun b h1 _ hb => by omega)).mono (by omega), Ext.own e o18 (fun k hk => by omega)⟩
/-! ## A frame taken from a pool -/
noncomputable def fz : Nat := Classical.choose (⟨256, rfl⟩ : ∃ z, z = 256)
theorem fz_eq : fz = 256 := Classical.choose_spec (⟨256, rfl⟩ : ∃ z, z = 256)
noncomputable def poF (m : List Int) (T : Int) (fr : List DBlock) : (List Int × List DBlock) × Int :=
  if (takeF T fr 0).2.2 < 0 then ((m, fr), -1) else ((zer m ((takeF T fr 0).2.2.toNat * 256) fz, (takeF T fr 0).2.1), (takeF T fr 0).2.2)
theorem take_out {T : Int} {fr : List DBlock} (h : FOk T fr) : (takeF T fr 0).1 = T ∧ ((takeF T fr 0).2.2 = -1 ∨ (0 ≤ (takeF T fr 0).2.2 ∧ (takeF T fr 0).2.2 < T)) := by
  have hb := bestF_rng fr 0 fr.length
  have hn : ¬ (¬ FOk T fr ∨ (0 : Int) < 0 ∨ (10 : Int) < 0) := fun h2 => by rcases h2 with h2 | h2 | h2; exact h2 h; omega; omega
  by_cases h0 : bestF fr 0 fr.length < 0
  · rw [takeF_none hn h0]; exact ⟨rfl, .inl rfl⟩
  · rcases bestF_ord fr 0 fr.length with h1 | ⟨x, hx, _⟩
    · omega
    · rw [takeF_some hn (by omega) hx]
      have := blkOk_out (h.2.2 _ x hx).1
      exact ⟨rfl, .inr ⟨this.2.2.1, this.2.2.2.1⟩⟩
theorem c100 {tm tf : Sl} {m : List Int} {T : Int} {fr : List DBlock} {b0 : Nat} {w : World} (h : PoV m fr b0 w tm tf) (hb0 : b0 ≤ w.heap.size) (hok : POk m T fr) (hfew : fr.length ≤ 1099511627776) : CallW Try.prog 100 #[.agg #[.slice tm.a tm.len tm.cap, .int .i64 T, .slice tf.a tf.len tf.cap]] w
    (fun v w' => ∃ sm sf : Sl, v = .tuple #[.agg #[.slice sm.a sm.len sm.cap, .int .i64 T, .slice sf.a sf.len sf.cap], .int .i64 (poF m T fr).2] ∧ PoV (poF m T fr).1.1 (poF m T fr).1.2 b0 w' sm sf ∧ Only (fun q => b0 ≤ q) w w') := by
  refine go100 ?_
  unfold W100
  obtain ⟨t1, t2⟩ := take_out hok.2.2.1
  refine alloc_step (fun w1 e1 hb n1 => ?_)
  refine alloc_step (fun w2 e2 hz n2 => ?_)
  have hb := hb.ext e2
  have e := Only.trans e1 e2
  have h2 := h.ext e
  refine ⟨_, hb.cell 1, tf, hb.cell 2, (c144 (own_fr h2.2.1 hfew)).mono ?_⟩
  rintro _ w6 ⟨t, rfl, ot, e6⟩
  have hb := hb.ext e6
  have hz := hz.ext e6
  have h6 := h2.ext e6
  have e := Only.trans e e6
  have z2 := e2.size
  have z6 := e6.size
  refine ⟨_, t, _, rfl, alloc_step (fun w10 e10 hy n10 => put_step hy rfl rfl (fun w11 o11 hy n11 => ?_))⟩
  have ee : Ext w6 w11 := e10.own o11 (fun j hj => by omega)
  have hb := hb.ext ee
  have hz := hz.ext ee
  have h11 := h6.ext ee
  have ot := ot.ext ee
  have e := Only.trans e ee
  have hne : w.heap.size ≠ w1.heap.size := by omega
  refine BIf.dec (fun hlt => ?_) (fun hge => ?_)
  · refine ⟨tm, hb.cell 0, _, hb.cell 1, tf, hb.cell 2, put_step hz rfl rfl (fun w15 o15 hz n15 => ?_)⟩
    refine ⟨tm, hz.cell 0, _, hz.cell 1, tf, hz.cell 2, tm, tf, ?_, ?_, ?_⟩
    · unfold poF; rw [if_pos hlt]
    · unfold poF; rw [if_pos hlt]
      exact h.ext (Ext.own e o15 (fun k hk => by omega))
    · exact Ext.any (Ext.own e o15 (fun k hk => by omega))
  · have hpo : poF m T fr = ((zer m ((takeF T fr 0).2.2.toNat * 256) fz, (takeF T fr 0).2.1), (takeF T fr 0).2.2) := by unfold poF; rw [if_neg hge]
    have hT := hok.2.2.2
    have hm1 := hok.2.1
    generalize takeF T fr 0 = r at *
    obtain ⟨r1, rf, ra⟩ := r
    obtain rfl : r1 = T := t1
    have hlen := h.1.len
    rw [u8s_len, Nat.mul_one] at hlen
    obtain ⟨n, rfl⟩ : ∃ n : Nat, ra = n := ⟨ra.toNat, by show ra = _; have : ¬ ra < 0 := hge; omega⟩
    have hn : (n : Int) < r1 := by rcases t2 with t2 | t2; exact absurd (show (n : Int) = -1 from t2) (by omega); exact t2.2
    have hcap : 0 < tm.cap := by have := OwnS.capLe h.1; omega
    obtain ⟨q0, hq0, hq1, hq2⟩ := OwnS.where_ h.1 hcap
    refine ⟨tm, hb.cell 0, _, hb.cell 1, tf, hb.cell 2, (c161 h11.1 fz_eq (by rw [fz_eq]; omega) (by omega)).mono ?_⟩
    rintro _ w23 ⟨rfl, om, o23⟩
    have hS : ∀ q, (b0 ≤ q ∧ tm.a = some ⟨q, 0, none⟩) → q = q0 := by rintro q ⟨_, hq⟩; rw [hq0] at hq; cases hq; rfl
    have hb := hb.only o23 (fun hh => by have := hS _ hh; omega)
    have hz := hz.only o23 (fun hh => by have := hS _ hh; omega)
    have hy := hy.only o23 (fun hh => by have := hS _ hh; omega)
    have z11 := e.size
    have ot := ot.only o23 (fun b _ h1 h2 hh => by have := hS _ hh; omega)
    refine ⟨rfl, tm, hb.cell 0, _, hy.cell 0, t, hy.cell 1, put_step hz rfl rfl (fun w27 o27 hz n27 => ?_)⟩
    refine ⟨tm, hz.cell 0, _, hz.cell 1, t, hz.cell 2, tm, t, ?_, ?_, ?_⟩
    · rw [hpo]
    · rw [hpo]
      have ot := ot.only o27 (fun b _ h1 h2 hh => by omega)
      have om := om.only o27 (fun b hb _ _ hh => by rw [hq0] at hb; cases hb; omega)
      refine ⟨om, ot.mono (by omega), fun q hc hq hc2 ha => ?_⟩
      obtain ⟨q2, hq2', hge2, _⟩ := OwnS.where_ ot hc2
      rw [hq0] at hq; cases hq
      rw [hq2'] at ha; cases ha; omega
    · exact Only.trans (Ext.any e) (Only.trans (o23.mono (fun j _ hj => hj.1)) (o27.mono (fun j _ hj => by omega)))
theorem c102 {b : Nat} {sm sf : Sl} {m : List Int} {T : Int} {fr : List DBlock} {b0 : Nat} {w : World} (h : PoolAt w b0 b sm sf m T fr) (hb0 : b0 ≤ w.heap.size) (hok : POk m T fr) (hfew : fr.length ≤ 1099511627776) : CallW Try.prog 102 #[.pointer (some ⟨b, 0, none⟩)] w
    (fun v w' => ∃ tf : Sl, v = .int .i64 (poF m T fr).2 ∧ PoolAt w' b0 b sm tf (poF m T fr).1.1 T (poF m T fr).1.2 ∧ Only (fun q => b0 ≤ q) w w') := by
  refine go102 ?_
  unfold W102
  obtain ⟨t1, t2⟩ := take_out hok.2.2.1
  refine ⟨_, rfl, _, h.blk.cell 1, sf, h.blk.cell 2, (c83 (own_fr h.frs hfew)).mono ?_⟩
  rintro _ w6 ⟨t, rfl, ot, e6⟩
  have z6 := e6.size
  refine ⟨_, t, _, rfl, alloc_step (fun w10 e10 hy n10 => put_step hy rfl rfl (fun w11 o11 hy n11 => ?_))⟩
  have ee : Ext w6 w11 := e10.own o11 (fun j hj => by omega)
  have h11 := h.ext (Only.trans e6 ee)
  have ot := ot.ext ee
  have e := Only.trans e6 ee
  have hbl := h.blk.lt
  refine BIf.dec (fun hge => ?_) (fun hlt => ?_)
  · have hpo : poF m T fr = ((zer m ((takeF T fr 0).2.2.toNat * 256) fz, (takeF T fr 0).2.1), (takeF T fr 0).2.2) := by unfold poF; rw [if_neg (by omega)]
    have hT := hok.2.2.2
    have hm1 := hok.2.1
    generalize takeF T fr 0 = r at *
    obtain ⟨r1, rf, ra⟩ := r
    obtain rfl : r1 = T := t1
    have hlen := h.mem.len
    rw [List.length_map, Nat.mul_one] at hlen
    obtain ⟨n, rfl⟩ : ∃ n : Nat, ra = n := ⟨ra.toNat, by show ra = _; have : ra ≥ 0 := hge; omega⟩
    have hn : (n : Int) < r1 := by rcases t2 with t2 | t2; exact absurd (show (n : Int) = -1 from t2) (by omega); exact t2.2
    have hcap : 0 < sm.cap := by have := OwnS.capLe h.mem; omega
    obtain ⟨q0, hq0, hq1, hq2⟩ := OwnS.where_ h.mem hcap
    have hqb : q0 ≠ b := fun hh => h.mb hcap (by rw [hq0, hh])
    refine ⟨_, hy.cell 0, t, hy.cell 1, _, rfl, putAt_step h11.blk rfl (by simp) (fun w14 o14 hp n14 => ?_)⟩
    have hp : Blk w14 b [.slice sm.a sm.len sm.cap, .int .i64 r1, .slice t.a t.len t.cap] := hp
    have om14 := h11.mem.only o14 (fun b' hb' _ _ hh => by rw [hq0] at hb'; cases hb'; exact hqb hh)
    have z11 := e.size
    have ot := ot.only o14 (fun b' _ h1 h2 hh => by have hh : b' = b := hh; omega)
    refine (c163 hp om14 h.mb fz_eq (by rw [fz_eq]; omega) (by omega)).mono ?_
    rintro _ w16 ⟨rfl, om, o16⟩
    have hS : ∀ q, (b0 ≤ q ∧ sm.a = some ⟨q, 0, none⟩) → q = q0 := by rintro q ⟨_, hq⟩; rw [hq0] at hq; cases hq; rfl
    have hp := hp.only o16 (fun hh => hqb (hS _ hh).symm)
    have ot := ot.only o16 (fun b' _ h1 h2 hh => by have := hS _ hh; omega)
    refine ⟨rfl, t, ?_, ?_, ?_⟩
    · rw [hpo]
    · rw [hpo]
      refine ⟨hp, om, ot.mono (by omega), h.hb, h.mb, fun hc2 ha => ?_, fun q hc hq hc2 ha => ?_⟩
      · obtain ⟨q2, hq2', hge2, _⟩ := OwnS.where_ ot hc2
        rw [hq2'] at ha; cases ha; omega
      · obtain ⟨q2, hq2', hge2, _⟩ := OwnS.where_ ot hc2
        rw [hq0] at hq; cases hq
        rw [hq2'] at ha; cases ha; omega
    · exact Only.trans (Ext.any e) (Only.trans (o14.mono (fun j _ hj => by have hj : j = b := hj; have := h.hb; omega)) (o16.mono (fun j _ hj => hj.1)))
  · have hlt : (takeF T fr 0).2.2 < 0 := by omega
    have ha : (takeF T fr 0).2.2 = -1 := by omega
    refine ⟨sf, ?_, ?_, Ext.any e⟩
    · unfold poF; rw [if_pos hlt, ha]
    · unfold poF; rw [if_pos hlt]; exact h11
theorem c103 {b : Nat} {sm sf : Sl} {m : List Int} {T : Int} {fr : List DBlock} {b0 : Nat} {w : World} (h : PoolAt w b0 b sm sf m T fr) : CallW Try.prog 103 #[.pointer (some ⟨b, 0, none⟩)] w
    (fun v w' => v = .agg #[.slice sm.a sm.len sm.cap, .int .i64 T, .slice sf.a sf.len sf.cap] ∧ Ext w w') := by
  refine go103 ?_
  unfold W103
  refine alloc_step (fun w1 e1 hz n1 => ?_)
  have e := Only.trans e1 (ext_drew w1)
  have hz := hz.ext (ext_drew w1)
  have h1 := h.ext e
  generalize w1.drew = w3 at *
  refine ⟨_, rfl, sm, h1.blk.cell 0, _, rfl, _, h1.blk.cell 1, sf, h1.blk.cell 2, put_step hz rfl rfl (fun w7 o7 hz n7 => ?_)⟩
  exact ⟨sm, hz.cell 0, _, hz.cell 1, sf, hz.cell 2, rfl, Ext.own e o7 (fun k hk => by omega)⟩
end Go.Proofs.Ytkgoanjemhbjgaa

/- Spaces: a space made, both sides. Conditions: none. -/
set_option linter.unusedVariables false
set_option linter.unusedSimpArgs false
namespace Go.Proofs.Ytkgoanjemhbjgaa
open Go Go.Den
open Classical in
noncomputable def newF (m : List Int) (T : Int) (fr : List DBlock) : (List Int × Int × List DBlock) × Int :=
  if POk m T fr then (((poF m T fr).1.1, T, (poF m T fr).1.2), (poF m T fr).2) else (([], 0, []), -1)
def NewV (r : (List Int × Int × List DBlock) × Int) (w : World) (v : Value) (w' : World) : Prop :=
  ∃ tm tf : Sl, v = .tuple #[.agg #[.slice tm.a tm.len tm.cap, .int .i64 r.1.2.1, .slice tf.a tf.len tf.cap], .int .i64 r.2] ∧ PoV r.1.1 r.1.2.2 w.heap.size w' tm tf ∧ Ext w w'
theorem pov_nil (b0 : Nat) (w : World) : PoV [] [] b0 w ⟨none, 0, 0⟩ ⟨none, 0, 0⟩ := ⟨OwnS.none _ _ _ _, OwnS.none _ _ _ _, fun q h => absurd h (by simp)⟩
theorem c37 {sm sf : Sl} {m : List Int} {T : Int} {fr : List DBlock} {w : World} (hm : Bytes w sm m) (hf : FrAt w sf fr) : CallW Try.prog 37 #[.agg #[.slice sm.a sm.len sm.cap, .int .i64 T, .slice sf.a sf.len sf.cap]] w (NewV (newF m T fr) w) := by
  refine go37 ?_
  unfold W37
  have hfew := hf.few
  refine alloc_step (fun w1 e1 hb n1 => ?_)
  refine alloc_step (fun w2 e2 hz n2 => ?_)
  have hb := hb.ext e2
  have e := Only.trans e1 e2
  refine ⟨sm, hb.cell 0, _, hb.cell 1, sf, hb.cell 2, (c99 (hm.ext e) (hf.ext e)).mono ?_⟩
  rintro _ w7 ⟨b, rfl, hiff, e7⟩
  have hb := hb.ext e7
  have hz := hz.ext e7
  have e := Only.trans e e7
  have z7 := e7.size
  refine ⟨b, rfl, ?_⟩
  by_cases hok : POk m T fr
  · obtain rfl := hiff.2 hok
    have hr : newF m T fr = (((poF m T fr).1.1, T, (poF m T fr).1.2), (poF m T fr).2) := by unfold newF; rw [if_pos hok]
    rw [hr]
    refine BIf.of (fun h => (by cases h)) (fun _ => ?_)
    refine ⟨sm, hb.cell 0, _, hb.cell 1, sf, hb.cell 2, (c101 (hm.ext e) (hf.ext e)).mono ?_⟩
    rintro _ w17 ⟨tm, tf, rfl, hp, e17⟩
    have hz := hz.ext e17
    have z17 := e17.size
    refine ⟨tm, _, tf, rfl, (c100 hp (by omega) hok hfew).mono ?_⟩
    rintro _ w22 ⟨um, uf, rfl, hq, o22⟩
    have hz := hz.only o22 (fun hh => by omega)
    have e := Ext.own (Only.trans e e17) o22 (fun k hk => by omega)
    refine ⟨um, _, uf, _, rfl, put_step hz rfl rfl (fun w27 o27 hz n27 => ?_)⟩
    refine ⟨um, hz.cell 0, _, hz.cell 1, uf, hz.cell 2, um, uf, rfl, (hq.only o27 (fun b h1 _ hh => by omega)).mono (by omega), Ext.own e o27 (fun k hk => by omega)⟩
  · have hbf : b = false := by
      cases b with
      | false => rfl
      | true => exact absurd (hiff.1 rfl) hok
    subst hbf
    have hr : newF m T fr = (([], 0, []), -1) := by unfold newF; rw [if_neg hok]
    rw [hr]
    refine BIf.of (fun _ => ?_) (fun h => (by cases h))
    refine put_step hz rfl rfl (fun w9 o9 hz n9 => ?_)
    exact ⟨⟨none, 0, 0⟩, hz.cell 0, _, hz.cell 1, ⟨none, 0, 0⟩, hz.cell 2, ⟨none, 0, 0⟩, ⟨none, 0, 0⟩, rfl, pov_nil _ _, Ext.own e o9 (fun k hk => by omega)⟩
theorem c38 {sm sf : Sl} {m : List Int} {T : Int} {fr : List DBlock} {w : World} (hm : Bytes w sm m) (hf : FrAt w sf fr) : CallW Try.prog 38 #[.agg #[.slice sm.a sm.len sm.cap, .int .i64 T, .slice sf.a sf.len sf.cap]] w (NewV (newF m T fr) w) := by
  refine go38 ?_
  unfold W38
  have hfew := hf.few
  refine alloc_step (fun w1 e1 hb n1 => ?_)
  refine alloc_step (fun w2 e2 hz n2 => ?_)
  have hb := hb.ext e2
  have e := Only.trans e1 e2
  refine ⟨sm, hb.cell 0, _, hb.cell 1, sf, hb.cell 2, (c94 (hm.ext e) (hf.ext e)).mono ?_⟩
  rintro _ w7 ⟨b, rfl, hiff, e7⟩
  have hb := hb.ext e7
  have hz := hz.ext e7
  have e := Only.trans e e7
  have z7 := e7.size
  refine ⟨b, rfl, ?_⟩
  by_cases hok : POk m T fr
  · obtain rfl := hiff.2 hok
    have hr : newF m T fr = (((poF m T fr).1.1, T, (poF m T fr).1.2), (poF m T fr).2) := by unfold newF; rw [if_pos hok]
    rw [hr]
    refine BIf.of (fun h => (by cases h)) (fun _ => ?_)
    refine ⟨sm, hb.cell 0, _, hb.cell 1, sf, hb.cell 2, (c95 (hm.ext e) (hf.ext e)).mono ?_⟩
    rintro _ w17 ⟨pb, tm, tf, rfl, hp, e17⟩
    have hz := hz.ext e17
    have z17 := e17.size
    refine ⟨_, rfl, (c102 hp (by omega) hok hfew).mono ?_⟩
    rintro _ w20 ⟨uf, rfl, hq, o20⟩
    have hz := hz.only o20 (fun hh => by omega)
    have e := Ext.own (Only.trans e e17) o20 (fun k hk => by omega)
    refine ⟨_, rfl, (c103 hq).mono ?_⟩
    rintro _ w23 ⟨rfl, e23⟩
    have hz := hz.ext e23
    have hq := hq.ext e23
    have e := Only.trans e e23
    have hv : PoV (poF m T fr).1.1 (poF m T fr).1.2 w7.heap.size w23 tm uf := ⟨hq.mem, hq.frs, hq.mf⟩
    refine ⟨tm, _, uf, rfl, put_step hz rfl rfl (fun w27 o27 hz n27 => ?_)⟩
    refine ⟨tm, hz.cell 0, _, hz.cell 1, uf, hz.cell 2, tm, uf, rfl, (hv.only o27 (fun b h1 _ hh => by omega)).mono (by omega), Ext.own e o27 (fun k hk => by omega)⟩
  · have hbf : b = false := by
      cases b with
      | false => rfl
      | true => exact absurd (hiff.1 rfl) hok
    subst hbf
    have hr : newF m T fr = (([], 0, []), -1) := by unfold newF; rw [if_neg hok]
    rw [hr]
    refine BIf.of (fun _ => ?_) (fun h => (by cases h))
    refine put_step hz rfl rfl (fun w9 o9 hz n9 => ?_)
    exact ⟨⟨none, 0, 0⟩, hz.cell 0, _, hz.cell 1, ⟨none, 0, 0⟩, hz.cell 2, ⟨none, 0, 0⟩, ⟨none, 0, 0⟩, rfl, pov_nil _ _, Ext.own e o9 (fun k hk => by omega)⟩
/-! ## As a tree -/
theorem own_flat {α : Type} {w : World} {f : α → Dat} {g : α → List Value} {z : Nat} : ∀ (l : List α) (vs : List Value), (∀ d, d ∈ l → (g d).length = z ∧ OwnD w (f d) [] (g d)) → OwnE w z (l.map f) [] (l.flatMap g ++ vs)
  | [], vs, h => by rw [List.map_nil]; unfold OwnE; rfl
  | d :: r, vs, h => by
    rw [List.map_cons]
    unfold OwnE
    obtain ⟨h1, h2⟩ := h d (by simp)
    exact ⟨[], [], g d, r.flatMap g ++ vs, rfl, by simp, h1, h2, own_flat r vs (fun d hd => h d (by simp [hd]))⟩
theorem ownS_D {α : Type} {w : World} {b0 z : Nat} {s : Sl} {f : α → Dat} {g : α → List Value} {l : List α} (h : OwnS w b0 s z (l.flatMap g)) (hz : 0 < z) (hg : ∀ d, d ∈ l → (g d).length = z ∧ OwnD w (f d) [] (g d)) (hmax : l.length ≤ maxLen) :
    ∃ bs, OwnD w (.sl z (l.map f)) bs [.slice s.a s.len s.cap] ∧ bs.Nodup ∧ ∀ b, b ∈ bs → b0 ≤ b ∧ b < w.heap.size ∧ 0 < s.cap ∧ s.a = some ⟨b, 0, none⟩ := by
  have hlen : l.length * z = s.len * z := by
    rw [← h.len]
    clear h hmax
    induction l with
    | nil => simp
    | cons d r ih => rw [List.flatMap_cons, List.length_append, (hg d (by simp)).1, List.length_cons, Nat.add_mul, ← ih (fun d hd => hg d (by simp [hd]))]; omega
  have hlen : l.length = s.len := Nat.eq_of_mul_eq_mul_right hz hlen
  by_cases hc : s.cap = 0
  · have := OwnS.capLe h
    refine ⟨[], ?_, List.nodup_nil, fun b hb => by cases hb⟩
    unfold OwnD
    exact ⟨s.a, s.cap, by rw [List.length_map, hlen], by rw [List.length_map]; omega, by rw [List.length_map]; exact hmax, .inl ⟨hc, rfl⟩⟩
  · rcases h.2 with h2 | ⟨b, cs, ha, hb, hbl, hcl, hle, ht⟩
    · exact absurd h2.1 hc
    · refine ⟨[b], ?_, by simp, fun q hq => ?_⟩
      · unfold OwnD
        refine ⟨s.a, s.cap, by rw [List.length_map, hlen], by rw [List.length_map]; omega, by rw [List.length_map]; exact hmax, .inr ⟨b, [], cs, ha, rfl, hbl, hcl, ?_⟩⟩
        have := own_flat (w := w) (f := f) (g := g) (z := z) l (cs.drop (s.len * z)) hg
        rwa [← ht, List.take_append_drop] at this
      · simp only [List.mem_singleton] at hq
        subst hq
        exact ⟨hb, hbl.lt, by omega, ha⟩
theorem ownF_two2 {w : World} {d1 d2 : Dat} {b1 b2 : List Nat} {c1 c2 : List Value} (h1 : OwnD w d1 b1 c1) (h2 : OwnD w d2 b2 c2) : OwnF w [d1, d2] (b1 ++ b2) (c1 ++ c2) := ownF_app (ownF_one h1) (ownF_one h2)
theorem ownF_two {w : World} {d1 d2 : Dat} {c1 c2 : List Value} (h1 : OwnD w d1 [] c1) (h2 : OwnD w d2 [] c2) : OwnF w [d1, d2] [] (c1 ++ c2) := ownF_two2 h1 h2
def POut (m : List Int) (T : Int) (fr : List DBlock) : Prop := (∀ x, x ∈ m → 0 ≤ x ∧ x ≤ 255) ∧ m.length ≤ 2097152 ∧ fr.length ≤ 2097152 ∧ (Lit.int .i64 T).wf = true ∧ ∀ x, x ∈ fr → (Lit.int .i64 x.At).wf = true ∧ (Lit.int .i64 x.Order).wf = true
theorem fr_pool {m : List Int} {T : Int} {fr : List DBlock} {b0 : Nat} {w : World} {tm tf : Sl} (h : PoV m fr b0 w tm tf) (ho : POut m T fr) : Fr b0 w.heap.size w (⟨m, ⟨T, fr⟩⟩ : DPool).dat [.slice tm.a tm.len tm.cap, .int .i64 T, .slice tf.a tf.len tf.cap] := by
  have hmx : maxLen = 9223372036854775807 := rfl
  obtain ⟨h1, h2, h3⟩ := h
  have hu : u8s m = m.flatMap (fun n => [Value.int .u8 n]) := (map_flat m).symm
  rw [hu] at h1
  obtain ⟨b1, o1, d1, r1⟩ := ownS_D (f := Dat.int .u8) h1 (by omega) (fun d hd => ⟨rfl, by unfold OwnD; exact ⟨rfl, rfl, by have := ho.1 d hd; exact wf_u8 this.1 this.2⟩⟩) (by have := ho.2.1; omega)
  obtain ⟨b2, o2, d2, r2⟩ := ownS_D (f := DBlock.dat) h2 (by omega) (fun d hd => ⟨rfl, by
    obtain ⟨ha, hb⟩ := ho.2.2.2.2 d hd
    unfold DBlock.dat OwnD
    exact ownF_two (own_int ha) (own_int hb)⟩) (by have := ho.2.2.1; omega)
  refine ⟨b1 ++ b2, ?_, ?_, ?_⟩
  · unfold DPool.dat DFrames.dat OwnD
    refine ownF_two2 o1 ?_
    unfold OwnD
    exact ownF_two2 (b1 := []) (c1 := [.int .i64 T]) (own_int ho.2.2.2.1) o2
  · refine List.nodup_append.2 ⟨d1, d2, fun a ha b hb hab => ?_⟩
    subst hab
    obtain ⟨_, _, c1, e1⟩ := r1 _ ha
    obtain ⟨_, _, c2, e2⟩ := r2 _ hb
    exact h3 _ c1 e1 c2 e2
  · intro b hb
    rcases List.mem_append.1 hb with hb | hb
    · exact ⟨(r1 _ hb).1, (r1 _ hb).2.1⟩
    · exact ⟨(r2 _ hb).1, (r2 _ hb).2.1⟩
end Go.Proofs.Ytkgoanjemhbjgaa

/- FnExactSpaceNew: both sides, for the walk. Conditions: none. -/
set_option linter.unusedVariables false
set_option linter.unusedSimpArgs false
namespace Go.Proofs.Ytkgoanjemhbjgaa
open Go Go.Den
theorem listF_mem (l : List Bool) (a : Nat) : ∀ x, x ∈ listF l a → 0 ≤ x.At ∧ x.At < l.length ∧ 0 ≤ x.Order ∧ x.Order ≤ 10 := by
  intro x hx
  rw [listF] at hx
  split at hx
  · split at hx
    · rcases List.mem_cons.1 hx with hx | hx
      · subst hx
        have := ordF_le l a 10 0 (by omega)
        exact ⟨by show (0 : Int) ≤ (a : Int); omega, by show (a : Int) < _; omega, by show (0 : Int) ≤ (ordF l a 10 0 : Nat); omega, by show ((ordF l a 10 0 : Nat) : Int) ≤ 10; omega⟩
      · exact listF_mem l _ x hx
    · exact listF_mem l _ x hx
  · cases hx
termination_by l.length - a
decreasing_by
  all_goals have := Nat.one_le_two_pow (n := ordF l a 10 0); omega
theorem fok_mem {T : Int} {fr : List DBlock} (h : FOk T fr) : ∀ x, x ∈ fr → 0 ≤ x.At ∧ x.At < 1024 ∧ 0 ≤ x.Order ∧ x.Order ≤ 10 := by
  intro x hx
  obtain ⟨i, hi⟩ := List.getElem?_of_mem hx
  have := blkOk_out (h.2.2 i x hi).1
  have := h.2.1
  omega
theorem wf_blk {x : DBlock} (h : 0 ≤ x.At ∧ x.At < 1024 ∧ 0 ≤ x.Order ∧ x.Order ≤ 10) : (Lit.int .i64 x.At).wf = true ∧ (Lit.int .i64 x.Order).wf = true := ⟨wf_i64 (by omega) (by omega), wf_i64 (by omega) (by omega)⟩
theorem take_mem {T o : Int} {fr : List DBlock} (h : FOk T fr) (ho : 0 ≤ o) (ho2 : o ≤ 10) : (takeF T fr o).2.1.length ≤ fr.length + 1024 ∧ ∀ x, x ∈ (takeF T fr o).2.1 → 0 ≤ x.At ∧ x.At < 1024 ∧ 0 ≤ x.Order ∧ x.Order ≤ 10 := by
  have hn : ¬ (¬ FOk T fr ∨ o < 0 ∨ 10 < o) := fun h2 => by rcases h2 with h2 | h2 | h2; exact h2 h; omega; omega
  by_cases h0 : bestF fr o fr.length < 0
  · rw [takeF_none hn h0]; exact ⟨by show fr.length ≤ _; omega, fok_mem h⟩
  · rcases bestF_ord fr o fr.length with h1 | ⟨x, hx, _⟩
    · omega
    · rw [takeF_some hn (by omega) hx]
      have hl : (setV false (freeL T fr) x.At.toNat (2 ^ o.toNat)).length = T.toNat := by rw [setV_len, freeL_len]
      have hT := h.2.1
      refine ⟨?_, fun y hy => ?_⟩
      · show (listF _ 0).length ≤ _
        have := listF_len (setV false (freeL T fr) x.At.toNat (2 ^ o.toNat)) 0
        omega
      · have := listF_mem _ _ y hy
        omega
theorem new_out {m : List Int} {T : Int} {fr : List DBlock} (hm : ∀ x, x ∈ m → 0 ≤ x ∧ x ≤ 255) (hl : m.length ≤ 1048576) (hf : fr.length ≤ 1048576) : POut (newF m T fr).1.1 (newF m T fr).1.2.1 (newF m T fr).1.2.2 ∧ -1 ≤ (newF m T fr).2 ∧ (newF m T fr).2 ≤ 1024 := by
  by_cases hok : POk m T fr
  · have hr : newF m T fr = (((poF m T fr).1.1, T, (poF m T fr).1.2), (poF m T fr).2) := by unfold newF; rw [if_pos hok]
    have hT0 := hok.2.2.1.1
    have hT1 := hok.2.2.1.2.1
    have hT : (Lit.int .i64 T).wf = true := wf_i64 (by omega) (by omega)
    rw [hr]
    obtain ⟨t1, t2⟩ := take_out hok.2.2.1
    obtain ⟨u1, u2⟩ := take_mem hok.2.2.1 (o := 0) (by omega) (by omega)
    by_cases hlt : (takeF T fr 0).2.2 < 0
    · have hpo : poF m T fr = ((m, fr), -1) := by unfold poF; rw [if_pos hlt]
      rw [hpo]
      exact ⟨⟨hm, by show m.length ≤ _; omega, by show fr.length ≤ _; omega, hT, fun x hx => wf_blk (fok_mem hok.2.2.1 x hx)⟩, by show (-1 : Int) ≤ -1; omega, by show (-1 : Int) ≤ 1024; omega⟩
    · have hpo : poF m T fr = ((zer m ((takeF T fr 0).2.2.toNat * 256) fz, (takeF T fr 0).2.1), (takeF T fr 0).2.2) := by unfold poF; rw [if_neg hlt]
      rw [hpo]
      exact ⟨⟨zer_rng hm _ _, by show (zer _ _ _).length ≤ _; rw [zer_len]; omega, by show (takeF T fr 0).2.1.length ≤ _; omega, hT, fun x hx => wf_blk (u2 x hx)⟩, by show -1 ≤ (takeF T fr 0).2.2; omega, by show (takeF T fr 0).2.2 ≤ 1024; omega⟩
  · have hr : newF m T fr = (([], 0, []), -1) := by unfold newF; rw [if_neg hok]
    rw [hr]
    exact ⟨⟨fun x hx => absurd hx List.not_mem_nil, Nat.zero_le _, Nat.zero_le _, by decide, fun x hx => absurd hx List.not_mem_nil⟩, by show (-1 : Int) ≤ -1; omega, by show (-1 : Int) ≤ 1024; omega⟩
noncomputable def newP (x : DPool) : DPool := ⟨(newF x.Mem x.Free.Total x.Free.Free).1.1, ⟨(newF x.Mem x.Free.Total x.Free.Free).1.2.1, (newF x.Mem x.Free.Total x.Free.Free).1.2.2⟩⟩
noncomputable def newN (x : DPool) : Int := (newF x.Mem x.Free.Total x.Free.Free).2
theorem pool_few {x : DPool} (hs : x.dat.sz ≤ 1048576) : x.Mem.length ≤ 1048576 ∧ x.Free.Free.length ≤ 1048576 := by
  have hsz : x.dat.sz = (Dat.sl 1 (x.Mem.map (Dat.int .u8))).sz + ((0 + (((x.Free.Free.map DBlock.dat).length + Dat.szs (x.Free.Free.map DBlock.dat)) + 0)) + 0) := rfl
  rw [sz_nums, List.length_map] at hsz
  omega
theorem cnts_nums {k : IntKind} : ∀ l : List Int, Dat.cnts (l.map (Dat.int k)) = l.length
  | [] => rfl
  | a :: r => by simp only [List.map_cons, Dat.cnts, Dat.cnt, cnts_nums r, List.length_cons]; omega
theorem cnts_blks : ∀ l : List DBlock, Dat.cnts (l.map DBlock.dat) = 2 * l.length
  | [] => rfl
  | a :: r => by simp only [List.map_cons, DBlock.dat, Dat.cnts, Dat.cnt, List.length_cons]; have := cnts_blks r; omega
theorem cnt_pool (x : DPool) : x.dat.cntT = x.Mem.length + 2 * x.Free.Free.length := by
  simp only [DPool.dat, DFrames.dat, Dat.cntT, Dat.cntTs, cnts_nums, cnts_blks]; omega
theorem pool_cnt {x : DPool} (hs : x.dat.sz ≤ 1048576) : x.dat.cntT ≤ 4194304 := by
  have := pool_few hs
  rw [cnt_pool]; omega
theorem newP_cnt {x : DPool} {w : World} {cs : List Value} (h : IsD w x.dat cs) (hs : x.dat.sz ≤ 1048576) : (newP x).dat.cntT ≤ 8388608 := by
  obtain ⟨sm, sf, rfl, hm, hf⟩ := pool_of h hs
  have hx := pool_few hs
  have := (new_out (T := x.Free.Total) hm.rng hx.1 hx.2).1
  have h1 := this.2.1
  have h2 := this.2.2.1
  rw [cnt_pool]
  show (newF x.Mem x.Free.Total x.Free.Free).1.1.length + 2 * (newF x.Mem x.Free.Total x.Free.Free).1.2.2.length ≤ _
  omega
def NewS (n : Nat) : Prop := ∀ {x : DPool} {w : World} {cs : List Value} (h : IsD w x.dat cs) (hs : x.dat.sz ≤ 1048576), CallW Try.prog n #[.agg ⟨cs⟩] w (fun v w' => ∃ y, v = .tuple #[.agg ⟨y⟩, .int .i64 (newN x)] ∧ Fr w.heap.size w'.heap.size w' (newP x).dat y ∧ Ext w w')
theorem new_post {x : DPool} {w w' : World} {v : Value} (hm : ∀ y, y ∈ x.Mem → 0 ≤ y ∧ y ≤ 255) (hs : x.dat.sz ≤ 1048576) (h : NewV (newF x.Mem x.Free.Total x.Free.Free) w v w') : ∃ y, v = .tuple #[.agg ⟨y⟩, .int .i64 (newN x)] ∧ Fr w.heap.size w'.heap.size w' (newP x).dat y ∧ Ext w w' := by
  obtain ⟨tm, tf, rfl, hp, e⟩ := h
  have hx := pool_few hs
  exact ⟨_, rfl, fr_pool hp (new_out hm hx.1 hx.2).1, e⟩
theorem specSpaceNew : NewS 37 := by
  intro x w cs h hs
  obtain ⟨sm, sf, rfl, hm, hf⟩ := pool_of h hs
  exact (c37 hm hf).mono (fun v w' hv => new_post hm.rng hs hv)
theorem implSpaceNew : NewS 38 := by
  intro x w cs h hs
  obtain ⟨sm, sf, rfl, hm, hf⟩ := pool_of h hs
  exact (c38 hm hf).mono (fun v w' hv => new_post hm.rng hs hv)
end Go.Proofs.Ytkgoanjemhbjgaa

/- Frames: given back, on both sides. Conditions: none. -/
set_option linter.unusedVariables false
set_option linter.unusedSimpArgs false
namespace Go.Proofs.Ytkgoanjemhbjgaa
open Go Go.Den
theorem setV_out (b : Bool) (l : List Bool) (a : Nat) : ∀ (k j : Nat), k ≤ j → (setV b l a k).getD (a + j) false = l.getD (a + j) false
  | 0, j, h => rfl
  | k + 1, j, h => by
    unfold setV
    rw [← setV_out b l a k j (by omega)]
    simp only [List.getD_eq_getElem?_getD]
    rw [List.getElem?_set_ne (by omega)]
def flipP (l : List Bool) (a n : Nat) (b : Bool) : Prop := ∀ j, j < n → l.getD (a + j) false = !b
open Classical in
noncomputable def flipF (T : Int) (fr : List DBlock) (a n : Nat) (b : Bool) : Int × List DBlock × Bool :=
  if flipP (freeL T fr) a n b then (T, listF (setV b (freeL T fr) a n) 0, true) else (T, fr, false)
theorem flip_yes {T : Int} {fr : List DBlock} {a n : Nat} {b : Bool} (h : flipP (freeL T fr) a n b) : flipF T fr a n b = (T, listF (setV b (freeL T fr) a n) 0, true) := by unfold flipF; rw [if_pos h]
theorem flip_no {T : Int} {fr : List DBlock} {a n k : Nat} {b : Bool} (hk : k < n) (h : (freeL T fr).getD (a + k) false = b) : flipF T fr a n b = (T, fr, false) := by
  unfold flipF; rw [if_neg (fun hh => by have h2 := hh k hk; rw [h] at h2; cases b <;> cases h2)]
open Classical in
noncomputable def giveF (T : Int) (fr : List DBlock) (a o : Int) : Int × List DBlock × Bool :=
  if FOk T fr ∧ blkOk T a o = true then flipF T fr a.toNat (2 ^ o.toNat) true else (0, [], false)
def GvV (r : Int × List DBlock × Bool) (w : World) (v : Value) (w' : World) : Prop := ∃ t : Sl, v = .tuple #[.agg #[.int .i64 r.1, .slice t.a t.len t.cap], .bool r.2.2] ∧ OwnS w' w.heap.size t 2 (r.2.1.flatMap DBlock.cells) ∧ Ext w w'
theorem c146 {l : Sl} {T a o : Int} {fr : List DBlock} {w : World} (h : FrAt w l fr) : CallW Try.prog 146 #[.agg #[.int .i64 T, .slice l.a l.len l.cap], .int .i64 a, .int .i64 o] w (GvV (giveF T fr a o) w) := by
  refine go146 ?_
  unfold W146
  have hl := h.len
  have hfew := h.few
  refine alloc_step (fun w1 e1 hb n1 => ?_)
  refine alloc_step (fun w2 e2 hz n2 => ?_)
  have hb := hb.ext e2
  have e := Only.trans e1 e2
  refine ⟨_, hb.cell 0, l, hb.cell 1, (c160 (h.ext e)).mono ?_⟩
  rintro _ w6 ⟨b, rfl, hiff, e6⟩
  have hb := hb.ext e6
  have hz := hz.ext e6
  have e := Only.trans e e6
  have z6 := e6.size
  refine ⟨b, rfl, ?_⟩
  refine JoinW.cut1 (fun (c : Bool) w' => (c = false ↔ FOk T fr ∧ blkOk T a o = true) ∧ Ext w6 w') ?_ ?_
  · refine BIf.of (fun hbad => ?_) (fun hgood => ?_)
    · exact ⟨⟨(fun hh => by cases hh), (fun hh => by rw [hiff.2 hh.1] at hbad; cases hbad)⟩, Only.refl _ _⟩
    · have hbt : b = true := by cases b with
        | true => rfl
        | false => cases hgood
      have hok := hiff.1 hbt
      have := hok.2.1
      refine ⟨_, hb.cell 0, (c145 (by omega)).mono ?_⟩
      rintro _ w50 ⟨rfl, e50⟩
      refine ⟨_, rfl, ⟨?_, e50⟩⟩
      cases hbo : blkOk T a o with
      | true => exact ⟨fun _ => ⟨hok, rfl⟩, fun _ => rfl⟩
      | false => exact ⟨(fun hh => by cases hh), (fun hh => by cases hh.2)⟩
  rintro (c : Bool) w10 ⟨hc, e10⟩
  have hb := hb.ext e10
  have hz := hz.ext e10
  have e := Only.trans e e10
  have z10 := e10.size
  refine BIf.of (fun hbad => ?_) (fun hgood => ?_)
  · have hr : giveF T fr a o = (0, [], false) := by unfold giveF; rw [if_neg (fun hh => by rw [hc.2 hh] at hbad; cases hbad)]
    rw [hr]
    refine put_step hz rfl rfl (fun w11 o11 hz n11 => ?_)
    exact ⟨_, hz.cell 0, ⟨none, 0, 0⟩, hz.cell 1, ⟨none, 0, 0⟩, rfl, OwnS.none _ _ _ _, Ext.own e o11 (fun k hk => by omega)⟩
  obtain ⟨hok, hbk⟩ := hc.1 hgood
  have hr : giveF T fr a o = flipF T fr a.toNat (2 ^ o.toNat) true := by unfold giveF; rw [if_pos ⟨hok, hbk⟩]
  rw [hr]
  have hbo := blkOk_out hbk
  have hT1 := hok.2.1
  have ho0 : 0 ≤ o := by omega
  have hpo := pw_rng (o := o) (by omega)
  have hpn : pw o = ((2 ^ o.toNat : Nat) : Int) := rfl
  have hfl := freeL_len T fr
  refine ⟨_, hb.cell 0, l, hb.cell 1, (c153 (h.ext e) hok).mono ?_⟩
  rintro _ w17 ⟨bf, rfl, hbf0, hbf, e17⟩
  have hb := hb.ext e17
  have hz := hz.ext e17
  have e := Only.trans e e17
  have z17 := e17.size
  refine ⟨⟨some ⟨bf, 0, none⟩, T.toNat, T.toNat⟩, rfl, ?_⟩
  refine LoopW.m1 (fun (i : Int) w' => ∃ k : Nat, i = k ∧ k ≤ 2 ^ o.toNat ∧ (∀ j, j < k → (freeL T fr).getD (a.toNat + j) false = false) ∧ w' = w17) (fun (i : Int) _ => (pw o - i).toNat) ⟨0, rfl, by omega, fun j hj => by omega, rfl⟩ ?_
  rintro (i : Int) w17 ⟨k, rfl, hk, hfr, rfl⟩ J hJ
  refine (c176 ho0 (by omega)).mono ?_
  rintro _ w17 ⟨rfl, rfl⟩
  refine ⟨_, rfl, BIf.dec (fun hlt => ?_) (fun hge => ?_)⟩
  · have hidx : IntKind.i64.wrap (a + (k : Int)) = ((a.toNat + k : Nat) : Int) := by rw [w64 (by omega) (by omega)]; omega
    rw [hidx, Int.toNat_natCast]
    obtain ⟨p, hp, hcell⟩ := (bls_blk hbf (by omega)).at (i := a.toNat + k) (by omega)
    cases hp
    refine ⟨by omega, by show ((a.toNat + k : Nat) : Int) < ((T.toNat : Nat) : Int); omega, _, rfl, _, hcell, ?_⟩
    refine BIf.of (fun hbusy => ?_) (fun hfree => ?_)
    · rw [flip_no (b := true) (k := k) (by omega) hbusy]
      refine ⟨_, hb.cell 0, l, hb.cell 1, (c162 (h.ext e)).mono ?_⟩
      rintro _ w30 ⟨t, rfl, own, e30⟩
      have hz30 := hz.ext e30
      have z30 := e30.size
      refine ⟨_, t, rfl, put_step hz30 rfl rfl (fun w33 o33 hz33 n33 => ?_)⟩
      have own33 := own.only o33 (fun b _ hb0 _ hbb => by omega)
      exact ⟨_, hz33.cell 0, t, hz33.cell 1, t, rfl, own33.mono (by omega), Ext.own (Only.trans e e30) o33 (fun k hk => by omega)⟩
    · rw [w64 (by omega) (by omega)]
      refine hJ _ _ ⟨k + 1, by omega, by omega, fun j hj => ?_, rfl⟩ (by omega)
      rcases Nat.lt_or_ge j k with hjk | hjk
      · exact hfr j hjk
      · obtain rfl : j = k := by omega
        exact hfree
  · have hk2 : k = 2 ^ o.toNat := by omega
    subst hk2
    rw [flip_yes (b := true) (fun j hj => hfr j hj)]
    refine (c176 ho0 (by omega)).mono ?_
    rintro _ w17 ⟨rfl, rfl⟩
    refine ⟨_, rfl, ?_⟩
    have hmk := c183 (a := a.toNat) (n := 2 ^ o.toNat) (b := true) hbf (by omega) (by omega)
    rw [hfl, show ((a.toNat : Nat) : Int) = a by omega] at hmk
    refine hmk.mono ?_
    rintro _ w40 ⟨rfl, hbf40, o40⟩
    have hz40 := hz.only o40 (by omega)
    have e40 := Ext.own e o40 (fun k hk => by omega)
    have z40 := o40.size
    have hlen2 : (setV true (freeL T fr) a.toNat (2 ^ o.toNat)).length = T.toNat := by rw [setV_len, hfl]
    have hls := c143 (bls_blk hbf40 (by omega)) (by omega)
    rw [hlen2] at hls
    refine ⟨rfl, hls.mono ?_⟩
    rintro _ w42 ⟨t, rfl, own, e42⟩
    have hz42 := hz40.ext e42
    have z42 := e42.size
    refine ⟨_, t, rfl, put_step hz42 rfl rfl (fun w45 o45 hz45 n45 => ?_)⟩
    have own45 := own.only o45 (fun b _ hb0 _ hbb => by omega)
    refine ⟨_, hz45.cell 0, t, hz45.cell 1, t, ?_, own45.mono (by omega), Ext.own (Only.trans e40 e42) o45 (fun k hk => by omega)⟩
    rw [show ((T.toNat : Nat) : Int) = T by omega]
theorem c85 {l : Sl} {T a o : Int} {fr : List DBlock} {w : World} (h : FrAt w l fr) : CallW Try.prog 85 #[.agg #[.int .i64 T, .slice l.a l.len l.cap], .int .i64 a, .int .i64 o] w (GvV (giveF T fr a o) w) := by
  refine go85 ?_
  unfold W85
  have hl := h.len
  have hfew := h.few
  refine alloc_step (fun w1 e1 hb n1 => ?_)
  refine alloc_step (fun w2 e2 hz n2 => ?_)
  have hb := hb.ext e2
  have e := Only.trans e1 e2
  refine ⟨_, hb.cell 0, l, hb.cell 1, (c134 (h.ext e)).mono ?_⟩
  rintro _ w6 ⟨b, rfl, hiff, e6⟩
  have hb := hb.ext e6
  have hz := hz.ext e6
  have e := Only.trans e e6
  have z6 := e6.size
  refine ⟨b, rfl, ?_⟩
  refine JoinW.cut1 (fun (c : Bool) w' => (c = false ↔ FOk T fr ∧ blkOk T a o = true) ∧ Ext w6 w') ?_ ?_
  · refine BIf.of (fun hbad => ?_) (fun hgood => ?_)
    · exact ⟨⟨(fun hh => by cases hh), (fun hh => by rw [hiff.2 hh.1] at hbad; cases hbad)⟩, Only.refl _ _⟩
    · have hbt : b = true := by cases b with
        | true => rfl
        | false => cases hgood
      have hok := hiff.1 hbt
      have := hok.2.1
      refine ⟨_, hb.cell 0, (c84 (by omega)).mono ?_⟩
      rintro _ w50 ⟨rfl, e50⟩
      refine ⟨_, rfl, ⟨?_, e50⟩⟩
      cases hbo : blkOk T a o with
      | true => exact ⟨fun _ => ⟨hok, rfl⟩, fun _ => rfl⟩
      | false => exact ⟨(fun hh => by cases hh), (fun hh => by cases hh.2)⟩
  rintro (c : Bool) w10 ⟨hc, e10⟩
  have hb := hb.ext e10
  have hz := hz.ext e10
  have e := Only.trans e e10
  have z10 := e10.size
  refine BIf.of (fun hbad => ?_) (fun hgood => ?_)
  · have hr : giveF T fr a o = (0, [], false) := by unfold giveF; rw [if_neg (fun hh => by rw [hc.2 hh] at hbad; cases hbad)]
    rw [hr]
    refine put_step hz rfl rfl (fun w11 o11 hz n11 => ?_)
    exact ⟨_, hz.cell 0, ⟨none, 0, 0⟩, hz.cell 1, ⟨none, 0, 0⟩, rfl, OwnS.none _ _ _ _, Ext.own e o11 (fun k hk => by omega)⟩
  obtain ⟨hok, hbk⟩ := hc.1 hgood
  have hr : giveF T fr a o = flipF T fr a.toNat (2 ^ o.toNat) true := by unfold giveF; rw [if_pos ⟨hok, hbk⟩]
  rw [hr]
  have hbo := blkOk_out hbk
  have hT1 := hok.2.1
  have ho0 : 0 ≤ o := by omega
  have hpo := pw_rng (o := o) (by omega)
  have hpn : pw o = ((2 ^ o.toNat : Nat) : Int) := rfl
  have hfl := freeL_len T fr
  refine ⟨_, hb.cell 0, l, hb.cell 1, (c150 (h.ext e) hok).mono ?_⟩
  rintro _ w17 ⟨bf, rfl, hbf0, hbf, e17⟩
  have hb := hb.ext e17
  have hz := hz.ext e17
  have e := Only.trans e e17
  have z17 := e17.size
  refine ⟨⟨some ⟨bf, 0, none⟩, T.toNat, T.toNat⟩, rfl, by omega, ?_⟩
  rw [shl_pw ho0 (by omega)]
  refine LoopW.m1 (fun (i : Int) w' => ∃ k : Nat, i = k ∧ k ≤ 2 ^ o.toNat ∧ (∀ j, j < k → (freeL T fr).getD (a.toNat + j) false = false) ∧ Blk w' bf (bools (setV true (freeL T fr) a.toNat k)) ∧ Only (fun q => q = bf) w17 w') (fun (i : Int) _ => (pw o - i).toNat) ⟨0, rfl, by omega, (fun j hj => by omega), hbf, Only.refl _ _⟩ ?_
  rintro (i : Int) w21 ⟨k, rfl, hk, hfr, hbf, o21⟩ J hJ
  have hb21 := hb.only o21 (by omega)
  have hz21 := hz.only o21 (by omega)
  have e21 := Ext.own e o21 (fun k hk => by omega)
  have z21 := o21.size
  have hlk : (setV true (freeL T fr) a.toNat k).length = T.toNat := by rw [setV_len, hfl]
  refine BIf.dec (fun hlt => ?_) (fun hge => ?_)
  · have hidx : IntKind.i64.wrap (a + (k : Int)) = ((a.toNat + k : Nat) : Int) := by rw [w64 (by omega) (by omega)]; omega
    rw [hidx, Int.toNat_natCast]
    obtain ⟨p, hp, hcell⟩ := (bls_blk hbf (by omega)).at (i := a.toNat + k) (by omega)
    cases hp
    rw [setV_out true _ _ _ _ (Nat.le_refl _)] at hcell
    refine ⟨by omega, by show ((a.toNat + k : Nat) : Int) < ((T.toNat : Nat) : Int); omega, _, rfl, _, hcell, ?_⟩
    refine BIf.of (fun hbusy => ?_) (fun hfree => ?_)
    · rw [flip_no (b := true) (k := k) (by omega) hbusy]
      refine ⟨_, hb21.cell 0, l, hb21.cell 1, (c149 (h.ext e21)).mono ?_⟩
      rintro _ w30 ⟨t, rfl, own, e30⟩
      have hz30 := hz21.ext e30
      have z30 := e30.size
      refine ⟨_, t, rfl, put_step hz30 rfl rfl (fun w33 o33 hz33 n33 => ?_)⟩
      have own33 := own.only o33 (fun b _ hb0 _ hbb => by omega)
      exact ⟨_, hz33.cell 0, t, hz33.cell 1, t, rfl, own33.mono (by omega), Ext.own (Only.trans e21 e30) o33 (fun k hk => by omega)⟩
    · refine ⟨by omega, by show ((a.toNat + k : Nat) : Int) < ((T.toNat : Nat) : Int); omega, _, rfl, set1_step hbf (by rw [bools_len, hlk]; omega) (fun w34 o34 hbf34 n34 => ?_)⟩
      rw [w64 (by omega) (by omega)]
      rw [bools_set] at hbf34
      refine hJ _ _ ⟨k + 1, by omega, by omega, fun j hj => ?_, hbf34, Only.trans o21 o34⟩ (by omega)
      rcases Nat.lt_or_ge j k with hjk | hjk
      · exact hfr j hjk
      · obtain rfl : j = k := by omega
        exact hfree
  · have hk2 : k = 2 ^ o.toNat := by omega
    subst hk2
    rw [flip_yes (b := true) (fun j hj => hfr j hj)]
    have hls := c148 (bls_blk hbf (by omega)) (by omega)
    rw [hlk] at hls
    refine hls.mono ?_
    rintro _ w42 ⟨t, rfl, own, e42⟩
    have hz42 := hz21.ext e42
    have z42 := e42.size
    refine ⟨_, t, rfl, put_step hz42 rfl rfl (fun w45 o45 hz45 n45 => ?_)⟩
    have own45 := own.only o45 (fun b _ hb0 _ hbb => by omega)
    refine ⟨_, hz45.cell 0, t, hz45.cell 1, t, ?_, own45.mono (by omega), Ext.own (Only.trans e21 e42) o45 (fun k hk => by omega)⟩
    rw [show ((T.toNat : Nat) : Int) = T by omega]
end Go.Proofs.Ytkgoanjemhbjgaa

/- Frames: held, on both sides. Conditions: none. -/
set_option linter.unusedVariables false
set_option linter.unusedSimpArgs false
namespace Go.Proofs.Ytkgoanjemhbjgaa
open Go Go.Den
def HoldOk (T : Int) (fr : List DBlock) (a n : Int) : Prop := FOk T fr ∧ 0 ≤ n ∧ 0 ≤ a ∧ a + n ≤ T
open Classical in
noncomputable def holdF (T : Int) (fr : List DBlock) (a n : Int) : Int × List DBlock × Bool :=
  if HoldOk T fr a n then flipF T fr a.toNat n.toNat false else (0, [], false)
theorem c147 {l : Sl} {T a n : Int} {fr : List DBlock} {w : World} (h : FrAt w l fr) : CallW Try.prog 147 #[.agg #[.int .i64 T, .slice l.a l.len l.cap], .int .i64 a, .int .i64 n] w (GvV (holdF T fr a n) w) := by
  refine go147 ?_
  unfold W147
  have hl := h.len
  have hfew := h.few
  refine alloc_step (fun w1 e1 hb n1 => ?_)
  refine alloc_step (fun w2 e2 hz n2 => ?_)
  have hb := hb.ext e2
  have e := Only.trans e1 e2
  refine ⟨_, hb.cell 0, l, hb.cell 1, (c160 (h.ext e)).mono ?_⟩
  rintro _ w6 ⟨b, rfl, hiff, e6⟩
  have hb := hb.ext e6
  have hz := hz.ext e6
  have e := Only.trans e e6
  have z6 := e6.size
  refine ⟨b, rfl, ?_⟩
  simp only [join_or]
  refine JoinW.cut1 (fun (c : Bool) w' => (c = false ↔ FOk T fr ∧ 0 ≤ n ∧ n ≤ T) ∧ w' = w6) ?_ ?_
  · refine BIf.of (fun hbad => ?_) (fun hgood => ?_)
    · simp only [Bool.or_eq_true, Bool.not_eq_true', decide_eq_true_eq] at hbad
      refine ⟨⟨(fun hh => by cases hh), (fun hh => ?_)⟩, rfl⟩
      rcases hbad with hb1 | hb1
      · rw [hiff.2 hh.1] at hb1; cases hb1
      · omega
    · simp only [Bool.or_eq_false_iff, Bool.not_eq_false', decide_eq_false_iff_not] at hgood
      have hok := hiff.1 hgood.1
      refine ⟨_, hb.cell 0, ⟨⟨(fun hh => ⟨hok, by omega, by simpa using hh⟩), (fun hh => by simpa using hh.2.2)⟩, rfl⟩⟩
  rintro (c : Bool) w6 ⟨hc, rfl⟩
  refine JoinW.cut1 (fun (c : Bool) w' => (c = false ↔ HoldOk T fr a n) ∧ w' = w6) ?_ ?_
  · refine BIf.of (fun hbad => ?_) (fun hgood => ?_)
    · simp only [Bool.or_eq_true, decide_eq_true_eq] at hbad
      refine ⟨⟨(fun hh => by cases hh), (fun hh => ?_)⟩, rfl⟩
      obtain ⟨h1, h2, h3, h4⟩ := hh
      rcases hbad with hb1 | hb1
      · rw [hc.2 ⟨h1, by omega, by omega⟩] at hb1; cases hb1
      · omega
    · simp only [Bool.or_eq_false_iff, decide_eq_false_iff_not] at hgood
      obtain ⟨hok, h1, h2⟩ := hc.1 hgood.1
      have hT := hok.2.1
      refine ⟨_, hb.cell 0, ?_⟩
      rw [w64 (by omega) (by omega)]
      refine ⟨⟨(fun hh => ⟨hok, by omega, by omega, ?_⟩), (fun hh => ?_)⟩, rfl⟩
      · have : ¬ a > T - n := by simpa using hh
        omega
      · have := hh.2.2.2
        exact decide_eq_false (by omega)
  rintro (c : Bool) w6 ⟨hc, rfl⟩
  refine BIf.of (fun hbad => ?_) (fun hgood => ?_)
  · have hr : holdF T fr a n = (0, [], false) := by unfold holdF; rw [if_neg (fun hh => by rw [hc.2 hh] at hbad; cases hbad)]
    rw [hr]
    refine put_step hz rfl rfl (fun w11 o11 hz n11 => ?_)
    exact ⟨_, hz.cell 0, ⟨none, 0, 0⟩, hz.cell 1, ⟨none, 0, 0⟩, rfl, OwnS.none _ _ _ _, Ext.own e o11 (fun k hk => by omega)⟩
  have hho := hc.1 hgood
  obtain ⟨hok, h1, h2, h3⟩ := hho
  have hr : holdF T fr a n = flipF T fr a.toNat n.toNat false := by unfold holdF; rw [if_pos ⟨hok, h1, h2, h3⟩]
  rw [hr]
  have hT1 := hok.2.1
  have hT0 := hok.1
  have hfl := freeL_len T fr
  refine ⟨_, hb.cell 0, l, hb.cell 1, (c153 (h.ext e) hok).mono ?_⟩
  rintro _ w17 ⟨bf, rfl, hbf0, hbf, e17⟩
  have hb := hb.ext e17
  have hz := hz.ext e17
  have e := Only.trans e e17
  have z17 := e17.size
  have hwh := c182 (a := a.toNat) (n := n.toNat) (bls_blk hbf (by omega)) (by omega) (by omega)
  rw [hfl, show ((a.toNat : Nat) : Int) = a by omega, show ((n.toNat : Nat) : Int) = n by omega] at hwh
  refine ⟨⟨some ⟨bf, 0, none⟩, T.toNat, T.toNat⟩, rfl, hwh.mono ?_⟩
  rintro _ w17 ⟨rfl, rfl⟩
  refine ⟨_, rfl, ?_⟩
  refine BIf.of (fun hno => ?_) (fun hyes => ?_)
  · have hno : ¬ wholeP (freeL T fr) a.toNat n.toNat := by simpa using hno
    have hf : flipF T fr a.toNat n.toNat false = (T, fr, false) := by
      unfold flipF
      rw [if_neg (fun hh => hno ⟨by omega, fun j hj => hh j hj⟩)]
    rw [hf]
    refine ⟨_, hb.cell 0, l, hb.cell 1, (c162 (h.ext e)).mono ?_⟩
    rintro _ w30 ⟨t, rfl, own, e30⟩
    have hz30 := hz.ext e30
    have z30 := e30.size
    refine ⟨_, t, rfl, put_step hz30 rfl rfl (fun w33 o33 hz33 n33 => ?_)⟩
    have own33 := own.only o33 (fun b _ hb0 _ hbb => by omega)
    exact ⟨_, hz33.cell 0, t, hz33.cell 1, t, rfl, own33.mono (by omega), Ext.own (Only.trans e e30) o33 (fun k hk => by omega)⟩
  · have hyes : wholeP (freeL T fr) a.toNat n.toNat := by simpa using hyes
    rw [flip_yes (b := false) (fun j hj => hyes.2 j hj)]
    have hmk := c183 (a := a.toNat) (n := n.toNat) (b := false) hbf (by omega) (by omega)
    rw [hfl, show ((a.toNat : Nat) : Int) = a by omega, show ((n.toNat : Nat) : Int) = n by omega] at hmk
    refine hmk.mono ?_
    rintro _ w40 ⟨rfl, hbf40, o40⟩
    have hz40 := hz.only o40 (by omega)
    have e40 := Ext.own e o40 (fun k hk => by omega)
    have z40 := o40.size
    have hlen2 : (setV false (freeL T fr) a.toNat n.toNat).length = T.toNat := by rw [setV_len, hfl]
    have hls := c143 (bls_blk hbf40 (by omega)) (by omega)
    rw [hlen2] at hls
    refine ⟨rfl, hls.mono ?_⟩
    rintro _ w42 ⟨t, rfl, own, e42⟩
    have hz42 := hz40.ext e42
    have z42 := e42.size
    refine ⟨_, t, rfl, put_step hz42 rfl rfl (fun w45 o45 hz45 n45 => ?_)⟩
    have own45 := own.only o45 (fun b _ hb0 _ hbb => by omega)
    refine ⟨_, hz45.cell 0, t, hz45.cell 1, t, ?_, own45.mono (by omega), Ext.own (Only.trans e40 e42) o45 (fun k hk => by omega)⟩
    rw [show ((T.toNat : Nat) : Int) = T by omega]
theorem c87 {l : Sl} {T a n : Int} {fr : List DBlock} {w : World} (h : FrAt w l fr) : CallW Try.prog 87 #[.agg #[.int .i64 T, .slice l.a l.len l.cap], .int .i64 a, .int .i64 n] w (GvV (holdF T fr a n) w) := by
  refine go87 ?_
  unfold W87
  have hl := h.len
  have hfew := h.few
  refine alloc_step (fun w1 e1 hb n1 => ?_)
  refine alloc_step (fun w2 e2 hz n2 => ?_)
  have hb := hb.ext e2
  have e := Only.trans e1 e2
  refine ⟨_, hb.cell 0, l, hb.cell 1, (c134 (h.ext e)).mono ?_⟩
  rintro _ w6 ⟨b, rfl, hiff, e6⟩
  have hb := hb.ext e6
  have hz := hz.ext e6
  have e := Only.trans e e6
  have z6 := e6.size
  refine ⟨b, rfl, ?_⟩
  simp only [join_or]
  refine JoinW.cut1 (fun (c : Bool) w' => (c = false ↔ FOk T fr ∧ 0 ≤ n ∧ 0 ≤ a ∧ a ≤ T) ∧ w' = w6) ?_ ?_
  · refine BIf.of (fun hbad => ?_) (fun hgood => ?_)
    · simp only [Bool.or_eq_true, Bool.not_eq_true', decide_eq_true_eq] at hbad
      refine ⟨⟨(fun hh => by cases hh), (fun hh => ?_)⟩, rfl⟩
      rcases hbad with (hb1 | hb1) | hb1
      · rw [hiff.2 hh.1] at hb1; cases hb1
      · omega
      · omega
    · simp only [Bool.or_eq_false_iff, Bool.not_eq_false', decide_eq_false_iff_not] at hgood
      have hok := hiff.1 hgood.1.1
      refine ⟨_, hb.cell 0, ⟨⟨(fun hh => ⟨hok, by omega, by omega, by simpa using hh⟩), (fun hh => by simpa using hh.2.2.2)⟩, rfl⟩⟩
  rintro (c : Bool) w6 ⟨hc, rfl⟩
  refine JoinW.cut1 (fun (c : Bool) w' => (c = false ↔ HoldOk T fr a n) ∧ w' = w6) ?_ ?_
  · refine BIf.of (fun hbad => ?_) (fun hgood => ?_)
    · refine ⟨⟨(fun hh => by cases hh), (fun hh => ?_)⟩, rfl⟩
      obtain ⟨h1, h2, h3, h4⟩ := hh
      rw [hc.2 ⟨h1, by omega, by omega, by omega⟩] at hbad; cases hbad
    · obtain ⟨hok, h1, h2, h3⟩ := hc.1 hgood
      have hT := hok.2.1
      refine ⟨_, hb.cell 0, ?_⟩
      rw [w64 (by omega) (by omega)]
      refine ⟨⟨(fun hh => ⟨hok, by omega, by omega, ?_⟩), (fun hh => ?_)⟩, rfl⟩
      · have : ¬ n > T - a := by simpa using hh
        omega
      · have := hh.2.2.2
        exact decide_eq_false (by omega)
  rintro (c : Bool) w6 ⟨hc, rfl⟩
  refine BIf.of (fun hbad => ?_) (fun hgood => ?_)
  · have hr : holdF T fr a n = (0, [], false) := by unfold holdF; rw [if_neg (fun hh => by rw [hc.2 hh] at hbad; cases hbad)]
    rw [hr]
    refine put_step hz rfl rfl (fun w11 o11 hz n11 => ?_)
    exact ⟨_, hz.cell 0, ⟨none, 0, 0⟩, hz.cell 1, ⟨none, 0, 0⟩, rfl, OwnS.none _ _ _ _, Ext.own e o11 (fun k hk => by omega)⟩
  have hho := hc.1 hgood
  obtain ⟨hok, h1, h2, h3⟩ := hho
  have hr : holdF T fr a n = flipF T fr a.toNat n.toNat false := by unfold holdF; rw [if_pos ⟨hok, h1, h2, h3⟩]
  rw [hr]
  have hT1 := hok.2.1
  have hT0 := hok.1
  have hfl := freeL_len T fr
  refine ⟨_, hb.cell 0, l, hb.cell 1, (c150 (h.ext e) hok).mono ?_⟩
  rintro _ w17 ⟨bf, rfl, hbf0, hbf, e17⟩
  have hb := hb.ext e17
  have hz := hz.ext e17
  have e := Only.trans e e17
  have z17 := e17.size
  refine ⟨⟨some ⟨bf, 0, none⟩, T.toNat, T.toNat⟩, rfl, ?_⟩
  refine LoopW.m1 (fun (i : Int) w' => ∃ k : Nat, i = k ∧ k ≤ n.toNat ∧ (∀ j, j < k → (freeL T fr).getD (a.toNat + j) false = true) ∧ Blk w' bf (bools (setV false (freeL T fr) a.toNat k)) ∧ Only (fun q => q = bf) w17 w') (fun (i : Int) _ => (n - i).toNat) ⟨0, rfl, by omega, (fun j hj => by omega), hbf, Only.refl _ _⟩ ?_
  rintro (i : Int) w21 ⟨k, rfl, hk, hfr, hbf, o21⟩ J hJ
  have hb21 := hb.only o21 (by omega)
  have hz21 := hz.only o21 (by omega)
  have e21 := Ext.own e o21 (fun k hk => by omega)
  have z21 := o21.size
  have hlk : (setV false (freeL T fr) a.toNat k).length = T.toNat := by rw [setV_len, hfl]
  refine BIf.dec (fun hlt => ?_) (fun hge => ?_)
  · have hidx : IntKind.i64.wrap (a + (k : Int)) = ((a.toNat + k : Nat) : Int) := by rw [w64 (by omega) (by omega)]; omega
    rw [hidx, Int.toNat_natCast]
    obtain ⟨p, hp, hcell⟩ := (bls_blk hbf (by omega)).at (i := a.toNat + k) (by omega)
    cases hp
    rw [setV_out false _ _ _ _ (Nat.le_refl _)] at hcell
    refine ⟨by omega, by show ((a.toNat + k : Nat) : Int) < ((T.toNat : Nat) : Int); omega, _, rfl, _, hcell, ?_⟩
    refine BIf.of (fun hbusy => ?_) (fun hfree => ?_)
    · rw [flip_no (b := false) (k := k) (by omega) (by simpa using hbusy)]
      refine ⟨_, hb21.cell 0, l, hb21.cell 1, (c149 (h.ext e21)).mono ?_⟩
      rintro _ w30 ⟨t, rfl, own, e30⟩
      have hz30 := hz21.ext e30
      have z30 := e30.size
      refine ⟨_, t, rfl, put_step hz30 rfl rfl (fun w33 o33 hz33 n33 => ?_)⟩
      have own33 := own.only o33 (fun b _ hb0 _ hbb => by omega)
      exact ⟨_, hz33.cell 0, t, hz33.cell 1, t, rfl, own33.mono (by omega), Ext.own (Only.trans e21 e30) o33 (fun k hk => by omega)⟩
    · refine ⟨by omega, by show ((a.toNat + k : Nat) : Int) < ((T.toNat : Nat) : Int); omega, _, rfl, set1_step hbf (by rw [bools_len, hlk]; omega) (fun w34 o34 hbf34 n34 => ?_)⟩
      rw [w64 (by omega) (by omega)]
      rw [bools_set] at hbf34
      refine hJ _ _ ⟨k + 1, by omega, by omega, fun j hj => ?_, hbf34, Only.trans o21 o34⟩ (by omega)
      rcases Nat.lt_or_ge j k with hjk | hjk
      · exact hfr j hjk
      · obtain rfl : j = k := by omega
        simpa using hfree
  · have hk2 : k = n.toNat := by omega
    subst hk2
    rw [flip_yes (b := false) (fun j hj => hfr j hj)]
    have hls := c148 (bls_blk hbf (by omega)) (by omega)
    rw [hlk] at hls
    refine hls.mono ?_
    rintro _ w42 ⟨t, rfl, own, e42⟩
    have hz42 := hz21.ext e42
    have z42 := e42.size
    refine ⟨_, t, rfl, put_step hz42 rfl rfl (fun w45 o45 hz45 n45 => ?_)⟩
    have own45 := own.only o45 (fun b _ hb0 _ hbb => by omega)
    refine ⟨_, hz45.cell 0, t, hz45.cell 1, t, ?_, own45.mono (by omega), Ext.own (Only.trans e21 e42) o45 (fun k hk => by omega)⟩
    rw [show ((T.toNat : Nat) : Int) = T by omega]
end Go.Proofs.Ytkgoanjemhbjgaa

/- Frames: a list of free runs can be. Conditions: none. -/
set_option linter.unusedVariables false
set_option linter.unusedSimpArgs false
namespace Go.Proofs.Ytkgoanjemhbjgaa
open Go Go.Den
def RunAt (l : List Bool) (x o : Nat) : Prop := o ≤ 10 ∧ x % 2 ^ o = 0 ∧ wholeP l x (2 ^ o) ∧ (o = 10 ∨ x % 2 ^ (o + 1) ≠ 0 ∨ ¬ wholeP l x (2 ^ (o + 1)))
theorem ordF_run {l : List Bool} {a : Nat} : ∀ (f k : Nat), k + f = 10 → a % 2 ^ k = 0 → wholeP l a (2 ^ k) → RunAt l a (ordF l a f k)
  | 0, k, hk, hm, hw => by unfold ordF; exact ⟨by omega, hm, hw, .inl (by omega)⟩
  | f + 1, k, hk, hm, hw => by
    unfold ordF
    split
    · rename_i h; exact ordF_run f (k + 1) (by omega) h.2.1 h.2.2
    · rename_i h
      refine ⟨by omega, hm, hw, ?_⟩
      by_cases h1 : a % 2 ^ (k + 1) = 0
      · exact .inr (.inr (fun hh => h ⟨by omega, h1, hh⟩))
      · exact .inr (.inl h1)
def Run (l : List Bool) (a : Nat) (b : DBlock) : Prop := ∃ x o : Nat, b = ⟨x, o⟩ ∧ a ≤ x ∧ RunAt l x o
theorem listF_run (l : List Bool) (a : Nat) : ∀ i b, (listF l a)[i]? = some b → Run l a b ∧ ∀ c, 0 < i → (listF l a)[i - 1]? = some c → c.At + pw c.Order ≤ b.At := by
  rw [listF]
  split
  · rename_i h1
    split
    · rename_i h2
      have hr := ordF_run (l := l) (a := a) 10 0 (by omega) (by simp [Nat.mod_one]) ⟨by show a + 2 ^ 0 ≤ l.length; omega, fun i hi => by obtain rfl : i = 0 := by { have : i < 1 := hi; omega }; simpa using h2⟩
      have ih := listF_run l (a + 2 ^ ordF l a 10 0)
      have hp := Nat.one_le_two_pow (n := ordF l a 10 0)
      generalize ordF l a 10 0 = o at *
      intro i b hb
      cases i with
      | zero =>
        simp at hb; subst hb
        exact ⟨⟨a, o, rfl, Nat.le_refl _, hr⟩, fun c h0 => by omega⟩
      | succ i =>
        simp at hb
        obtain ⟨⟨x, p, rfl, hx, hxr⟩, hc⟩ := ih i b hb
        refine ⟨⟨x, p, rfl, by omega, hxr⟩, fun c _ hcc => ?_⟩
        cases i with
        | zero =>
          simp at hcc; subst hcc
          show (a : Int) + pw (o : Int) ≤ (x : Int)
          rw [pw_nat]
          exact_mod_cast hx
        | succ i => exact hc c (by omega) (by simpa using hcc)
    · intro i b hb
      obtain ⟨⟨x, p, rfl, hx, hxr⟩, hc⟩ := listF_run l (a + 1) i b hb
      exact ⟨⟨x, p, rfl, by omega, hxr⟩, hc⟩
  · intro i b hb; simp at hb
termination_by l.length - a
decreasing_by
  all_goals have := Nat.one_le_two_pow (n := ordF l a 10 0); omega
theorem listF_ok {l : List Bool} {T : Int} (hT : T = (l.length : Int)) (hs : l.length ≤ 1024) : FOk T (listF l 0) := by
  refine ⟨by omega, by omega, fun i b hb => ?_⟩
  obtain ⟨⟨x, o, rfl, _, h1, h2, h3, h4⟩, hc⟩ := listF_run l 0 i b hb
  have hp := Nat.one_le_two_pow (n := o)
  have hx := h3.1
  refine ⟨decide_eq_true ?_, fun c hi hcc => ?_⟩
  · show (0 : Int) ≤ (o : Int) ∧ (o : Int) ≤ 10 ∧ (0 : Int) ≤ (x : Int) ∧ (x : Int) < T ∧ (x : Int) % pw (o : Int) = 0 ∧ (x : Int) + pw (o : Int) ≤ T
    rw [pw_nat]
    have : ((x : Int) % ((2 ^ o : Nat) : Int)) = ((x % 2 ^ o : Nat) : Int) := by omega
    rw [this, h2]
    omega
  · refine ⟨hc c hi hcc, ?_⟩
    rintro ⟨g1, g2, g3, g4⟩
    obtain ⟨⟨y, p, rfl, _, k1, k2, k3, k4⟩, _⟩ := listF_run l 0 (i - 1) c hcc
    have g1 : (p : Int) = (o : Int) := g1
    obtain rfl : p = o := by omega
    have g2 : (p : Int) < 10 := g2
    have g3 : (y : Int) + pw (p : Int) = (x : Int) := g3
    have g4 : (y : Int) % (2 * pw (p : Int)) = 0 := g4
    rw [pw_nat] at g3 g4
    have hpow : 2 ^ (p + 1) = 2 * 2 ^ p := by rw [Nat.pow_succ]; omega
    rcases k4 with k4 | k4 | k4
    · omega
    · rw [hpow] at k4
      have : ((y % (2 * 2 ^ p) : Nat) : Int) = 0 := by rw [Int.natCast_emod]; simpa using g4
      omega
    · refine k4 ⟨by rw [hpow]; have := h3.1; omega, fun j hj => ?_⟩
      rw [hpow] at hj
      rcases Nat.lt_or_ge j (2 ^ p) with h | h
      · exact k3.2 j h
      · have := h3.2 (j - 2 ^ p) (by omega)
        rwa [show x + (j - 2 ^ p) = y + j by omega] at this
end Go.Proofs.Ytkgoanjemhbjgaa

/- Frames: new ones, how many are left. Conditions: none. -/
set_option linter.unusedVariables false
set_option linter.unusedSimpArgs false
namespace Go.Proofs.Ytkgoanjemhbjgaa
open Go Go.Den
def newFr (T : Int) : List DBlock := listF (setV true (List.replicate T.toNat false) 0 T.toNat) 0
theorem newFr_len (T : Int) : (setV true (List.replicate T.toNat false) 0 T.toNat).length = T.toNat := by rw [setV_len, List.length_replicate]
theorem newFr_ok {T : Int} (h0 : 0 ≤ T) (h1 : T ≤ 1024) : FOk T (newFr T) := listF_ok (by rw [newFr_len]; omega) (by rw [newFr_len]; omega)
theorem c79 {T : Int} {w : World} (h0 : 0 ≤ T) (h1 : T ≤ 1024) : CallW Try.prog 79 #[.int .i64 T] w (FrV T (newFr T) w) := by
  refine go79 ?_
  unfold W79
  refine alloc_step (fun w1 e1 hz n1 => ?_)
  simp only [join_or]
  refine BIf.f (by simp only [Bool.or_eq_false_iff, decide_eq_false_iff_not]; omega) ?_
  refine ⟨by omega, by omega, by omega, by omega, alloc_step (fun w3 e3 hm n3 => ?_)⟩
  have hm : Blk w3 w1.heap.size (bools (setV true (List.replicate T.toNat false) 0 0)) := by
    rw [show zerosOf ti4.zero T.toNat = bools (List.replicate T.toNat false) from zeros_bool _] at hm
    exact hm
  have hz := hz.ext e3
  have e := Only.trans e1 e3
  have z3 := e3.size
  refine LoopW.m1 (fun (i : Int) w' => ∃ k : Nat, i = k ∧ k ≤ T.toNat ∧ Blk w' w1.heap.size (bools (setV true (List.replicate T.toNat false) 0 k)) ∧ Only (fun j => j = w1.heap.size) w3 w') (fun (i : Int) _ => (T - i).toNat) ⟨0, rfl, by omega, hm, Only.refl _ _⟩ ?_
  rintro (i : Int) w4 ⟨k, rfl, hk, hm4, o4⟩ J hJ
  refine BIf.dec (fun hlt => ?_) (fun hge => ?_)
  · rw [Int.toNat_natCast]
    refine ⟨by omega, hlt, _, rfl, set1_step hm4 (by rw [bools_len, setV_len, List.length_replicate]; omega) (fun w5 o5 hm5 n5 => ?_)⟩
    rw [w64 (by omega) (by omega)]
    rw [bools_set] at hm5
    refine hJ _ _ ⟨k + 1, by omega, by omega, ?_, Only.trans o4 o5⟩ (by omega)
    unfold setV
    rw [Nat.zero_add]
    exact hm5
  · have hkT : k = T.toNat := by omega
    subst hkT
    have hz4 := hz.only o4 (by omega)
    have e4 := Ext.own e o4 (fun k hk => by omega)
    have z4 := o4.size
    have hls := c143 (bls_blk hm4 (by rw [newFr_len]; omega)) (by rw [newFr_len]; omega)
    rw [newFr_len] at hls
    refine hls.mono ?_
    rintro _ w5 ⟨t, rfl, own, e5⟩
    have hz5 := hz4.ext e5
    have z5 := e5.size
    refine ⟨_, t, rfl, put_step hz5 rfl rfl (fun w6 o6 hz6 n6 => ?_)⟩
    have own6 := own.only o6 (fun b _ hb0 _ hbb => by omega)
    refine ⟨_, hz6.cell 0, t, hz6.cell 1, t, ?_, own6.mono (by omega), Ext.own (Only.trans e4 e5) o6 (fun k hk => by omega)⟩
    rw [show ((T.toNat : Nat) : Int) = T by omega]
theorem c82 {T : Int} {w : World} (h0 : 0 ≤ T) (h1 : T ≤ 1024) : CallW Try.prog 82 #[.int .i64 T] w (FrV T (newFr T) w) := by
  refine go82 ?_
  unfold W82
  refine alloc_step (fun w1 e1 hz n1 => ?_)
  simp only [join_or]
  refine BIf.f (by simp only [Bool.or_eq_false_iff, decide_eq_false_iff_not]; omega) ?_
  refine ⟨by omega, by omega, by omega, by omega, alloc_step (fun w3 e3 hm n3 => ?_)⟩
  have hm : Blk w3 w1.heap.size (bools (setV true (List.replicate T.toNat false) 0 0)) := by
    rw [show zerosOf ti4.zero T.toNat = bools (List.replicate T.toNat false) from zeros_bool _] at hm
    exact hm
  have hz := hz.ext e3
  have e := Only.trans e1 e3
  have z3 := e3.size
  refine LoopW.m1 (fun (i : Int) w' => ∃ k : Nat, i = k ∧ k ≤ T.toNat ∧ Blk w' w1.heap.size (bools (setV true (List.replicate T.toNat false) 0 k)) ∧ Only (fun j => j = w1.heap.size) w3 w') (fun (i : Int) _ => (T - i).toNat) ⟨0, rfl, by omega, hm, Only.refl _ _⟩ ?_
  rintro (i : Int) w4 ⟨k, rfl, hk, hm4, o4⟩ J hJ
  refine BIf.dec (fun hlt => ?_) (fun hge => ?_)
  · rw [Int.toNat_natCast]
    refine ⟨by omega, hlt, _, rfl, set1_step hm4 (by rw [bools_len, setV_len, List.length_replicate]; omega) (fun w5 o5 hm5 n5 => ?_)⟩
    rw [w64 (by omega) (by omega)]
    rw [bools_set] at hm5
    refine hJ _ _ ⟨k + 1, by omega, by omega, ?_, Only.trans o4 o5⟩ (by omega)
    unfold setV
    rw [Nat.zero_add]
    exact hm5
  · have hkT : k = T.toNat := by omega
    subst hkT
    have hz4 := hz.only o4 (by omega)
    have e4 := Ext.own e o4 (fun k hk => by omega)
    have z4 := o4.size
    have hls := c148 (bls_blk hm4 (by rw [newFr_len]; omega)) (by rw [newFr_len]; omega)
    rw [newFr_len] at hls
    refine hls.mono ?_
    rintro _ w5 ⟨t, rfl, own, e5⟩
    have hz5 := hz4.ext e5
    have z5 := e5.size
    refine ⟨_, t, rfl, put_step hz5 rfl rfl (fun w6 o6 hz6 n6 => ?_)⟩
    have own6 := own.only o6 (fun b _ hb0 _ hbb => by omega)
    refine ⟨_, hz6.cell 0, t, hz6.cell 1, t, ?_, own6.mono (by omega), Ext.own (Only.trans e4 e5) o6 (fun k hk => by omega)⟩
    rw [show ((T.toNat : Nat) : Int) = T by omega]
def leftF (fr : List DBlock) : Nat → Int
  | 0 => 0
  | k + 1 => leftF fr k + (match fr[k]? with | some x => pw x.Order | none => 0)
theorem leftF_rng {T : Int} {fr : List DBlock} (h : FOk T fr) : ∀ k, 0 ≤ leftF fr k ∧ leftF fr k ≤ k * 1024
  | 0 => by unfold leftF; omega
  | k + 1 => by
    have ih := leftF_rng h k
    unfold leftF
    cases hx : fr[k]? with
    | none => simp only; omega
    | some x =>
      have hb := blkOk_out (h.2.2 k x hx).1
      have := h.2.1
      have hp := pw_rng (o := x.Order) (by omega)
      simp only
      omega
theorem leftF_step {fr : List DBlock} {k : Nat} {x : DBlock} (hx : fr[k]? = some x) : leftF fr (k + 1) = leftF fr k + pw x.Order := by
  rw [leftF, hx]
theorem c60 {l : Sl} {T : Int} {fr : List DBlock} {w : World} (h : FrAt w l fr) (hok : FOk T fr) : CallW Try.prog 60 #[.agg #[.int .i64 T, .slice l.a l.len l.cap]] w (fun v w' => v = .int .i64 (leftF fr fr.length) ∧ Ext w w') := by
  refine go60 ?_
  unfold W60
  have hl := h.len
  have hfew := h.few
  refine alloc_step (fun w1 e1 hb n1 => ?_)
  refine ⟨_, hb.cell 0, l, hb.cell 1, (c134 (h.ext e1)).mono ?_⟩
  rintro _ w5 ⟨b, rfl, hiff, e5⟩
  obtain rfl := hiff.2 hok
  have hb := hb.ext e5
  have e := Only.trans e1 e5
  refine ⟨_, rfl, BIf.f rfl ⟨l, hb.cell 1, ?_⟩⟩
  rw [hl]
  refine LoopW.m2 (fun (s i : Int) w' => ∃ k : Nat, i = k ∧ k ≤ fr.length ∧ s = leftF fr k ∧ Ext w w') (fun _ (i : Int) _ => ((fr.length : Int) - i).toNat) ⟨0, rfl, by omega, rfl, e⟩ ?_
  rintro (s : Int) (i : Int) w11 ⟨k, rfl, hk, rfl, e11⟩ J hJ
  refine BIf.dec (fun hlt => ?_) (fun hge => ?_)
  · obtain ⟨x, hx⟩ : ∃ x, fr[k]? = some x := ⟨_, List.getElem?_eq_getElem (by omega)⟩
    obtain ⟨p, hp, hc0, hc1⟩ := (h.ext e11).get hx
    have hbo := blkOk_out (hok.2.2 k x hx).1
    have hpw := pw_rng (o := x.Order) (by omega)
    have hr := leftF_rng hok k
    refine ⟨by omega, by omega, p, hp, _, hc0, _, hc1, alloc_step (fun w15 e15 hy n15 => blk_put2 hy (fun w16 o16 hy n16 => ?_))⟩
    have e16 : Ext w11 w16 := e15.own o16 (fun j hj => by omega)
    refine ⟨_, hy.cell 1, by omega, ?_⟩
    rw [shl_pw hbo.1 (by omega), w64 (n := (k : Int) + 1) (by omega) (by omega), w64 (by omega) (by omega)]
    exact hJ _ _ _ ⟨k + 1, by omega, by omega, (leftF_step hx).symm, Only.trans e11 e16⟩ (by omega)
  · have hk2 : k = fr.length := by omega
    subst hk2
    exact ⟨rfl, e11⟩
theorem c128 {l : Sl} {T : Int} {fr : List DBlock} {w : World} (h : FrAt w l fr) (hok : FOk T fr) : CallW Try.prog 128 #[.agg #[.int .i64 T, .slice l.a l.len l.cap]] w (fun v w' => v = .int .i64 (leftF fr fr.length) ∧ Ext w w') := by
  refine go128 ?_
  unfold W128
  have hl := h.len
  have hfew := h.few
  refine alloc_step (fun w1 e1 hb n1 => ?_)
  refine ⟨_, hb.cell 0, l, hb.cell 1, (c160 (h.ext e1)).mono ?_⟩
  rintro _ w5 ⟨b, rfl, hiff, e5⟩
  obtain rfl := hiff.2 hok
  have hb := hb.ext e5
  have e := Only.trans e1 e5
  refine ⟨_, rfl, BIf.f rfl ?_⟩
  refine LoopW.m2 (fun (s i : Int) w' => ∃ k : Nat, i = k ∧ k ≤ fr.length ∧ s = leftF fr k ∧ w' = w5) (fun _ (i : Int) _ => ((fr.length : Int) - i).toNat) ⟨0, rfl, by omega, rfl, rfl⟩ ?_
  rintro (s : Int) (i : Int) w5 ⟨k, rfl, hk, rfl, rfl⟩ J hJ
  refine ⟨l, hb.cell 1, ?_⟩
  rw [hl]
  refine BIf.dec (fun hlt => ?_) (fun hge => ?_)
  · obtain ⟨x, hx⟩ : ∃ x, fr[k]? = some x := ⟨_, List.getElem?_eq_getElem (by omega)⟩
    obtain ⟨p, hp, hc0, hc1⟩ := (h.ext e).get hx
    have hbo := blkOk_out (hok.2.2 k x hx).1
    have hpw := pw_rng (o := x.Order) (by omega)
    have hr := leftF_rng hok k
    refine ⟨l, hb.cell 1, by omega, by omega, p, hp, _, hc1, (c176 hbo.1 (by omega)).mono ?_⟩
    rintro _ w5 ⟨rfl, rfl⟩
    refine ⟨_, rfl, ?_⟩
    rw [w64 (n := (k : Int) + 1) (by omega) (by omega), w64 (by omega) (by omega)]
    exact hJ _ _ _ ⟨k + 1, by omega, by omega, (leftF_step hx).symm, rfl⟩ (by omega)
  · have hk2 : k = fr.length := by omega
    subst hk2
    exact ⟨rfl, e⟩
end Go.Proofs.Ytkgoanjemhbjgaa

/- Frames: one operation, on the reference's side. Conditions: none. -/
set_option linter.unusedVariables false
set_option linter.unusedSimpArgs false
namespace Go.Proofs.Ytkgoanjemhbjgaa
open Go Go.Den
def oneF (b : Bool) : Int := if b then 1 else 0
open Classical in
noncomputable def stepF (T : Int) (fr : List DBlock) (k a n : Int) : List DBlock × Int :=
  if k = 1 then (if n < 0 ∨ 10 < n then (fr, -2) else ((takeF T fr n).2.1, (takeF T fr n).2.2))
  else if k = 2 then (if blkOk T a n = true then ((giveF T fr a n).2.1, oneF (giveF T fr a n).2.2) else (fr, -2))
  else if k = 3 then (if 0 ≤ n ∧ 0 ≤ a ∧ a + n ≤ T then ((holdF T fr a n).2.1, oneF (holdF T fr a n).2.2) else (fr, -2))
  else if k = 4 then (fr, leftF fr fr.length)
  else (fr, -2)
theorem give_T {T a o : Int} {fr : List DBlock} (h : FOk T fr) (hb : blkOk T a o = true) : (giveF T fr a o).1 = T := by
  unfold giveF flipF; rw [if_pos ⟨h, hb⟩]; split <;> rfl
theorem hold_T {T a n : Int} {fr : List DBlock} (h : FOk T fr) (h1 : 0 ≤ n) (h2 : 0 ≤ a) (h3 : a + n ≤ T) : (holdF T fr a n).1 = T := by
  unfold holdF flipF; rw [if_pos ⟨h, h1, h2, h3⟩]; split <;> rfl
theorem take_T {T o : Int} {fr : List DBlock} (h : FOk T fr) (h0 : 0 ≤ o) (h1 : o ≤ 10) : (takeF T fr o).1 = T := by
  have hn : ¬ (¬ FOk T fr ∨ o < 0 ∨ 10 < o) := fun h2 => by rcases h2 with h2 | h2 | h2; exact h2 h; omega; omega
  by_cases hb : bestF fr o fr.length < 0
  · rw [takeF_none hn hb]
  · rcases bestF_ord fr o fr.length with h1 | ⟨x, hx, _⟩
    · omega
    · rw [takeF_some hn (by omega) hx]
/-- Frames that are worked on: can be, and are few. -/
def Fine (T : Int) (fr : List DBlock) : Prop := FOk T fr ∧ fr.length ≤ 1024
theorem fine_list {T : Int} {l : List Bool} (h : l.length = T.toNat) (h0 : 0 ≤ T) (h1 : T ≤ 1024) : Fine T (listF l 0) :=
  ⟨listF_ok (by omega) (by omega), by have := listF_len l 0; omega⟩
theorem flip_fine {T : Int} {fr : List DBlock} {a n : Nat} {b : Bool} (h : Fine T fr) : Fine T (flipF T fr a n b).2.1 := by
  unfold flipF
  split
  · exact fine_list (by rw [setV_len, freeL_len]) h.1.1 h.1.2.1
  · exact h
theorem step_fine {T k a n : Int} {fr : List DBlock} (h : Fine T fr) : Fine T (stepF T fr k a n).1 := by
  unfold stepF
  split
  · split
    · exact h
    · rename_i hn
      have hn2 : ¬ (¬ FOk T fr ∨ n < 0 ∨ 10 < n) := fun h2 => by rcases h2 with h2 | h2; exact h2 h.1; exact hn h2
      show Fine T (takeF T fr n).2.1
      by_cases hb : bestF fr n fr.length < 0
      · rw [takeF_none hn2 hb]; exact h
      · rcases bestF_ord fr n fr.length with h1 | ⟨x, hx, _⟩
        · omega
        · rw [takeF_some hn2 (by omega) hx]; exact fine_list (by rw [setV_len, freeL_len]) h.1.1 h.1.2.1
  · split
    · split
      · rename_i hb
        show Fine T (giveF T fr a n).2.1
        unfold giveF; rw [if_pos ⟨h.1, hb⟩]; exact flip_fine h
      · exact h
    · split
      · split
        · rename_i hb
          show Fine T (holdF T fr a n).2.1
          unfold holdF; rw [if_pos ⟨h.1, hb⟩]; exact flip_fine h
        · exact h
      · split <;> exact h
theorem new_fine {T : Int} (h0 : 0 ≤ T) (h1 : T ≤ 1024) : Fine T (newFr T) := fine_list (newFr_len T) h0 h1
def StV (T : Int) (l : Sl) (fr : List DBlock) (r : List DBlock × Int) (w : World) (v : Value) (w' : World) : Prop :=
  ∃ t : Sl, v = .tuple #[.agg #[.int .i64 T, .slice t.a t.len t.cap], .int .i64 r.2] ∧ ((t = l ∧ r.1 = fr) ∨ OwnS w' w.heap.size t 2 (r.1.flatMap DBlock.cells)) ∧ Ext w w'
theorem c137 {b : Bool} {w : World} : CallW Try.prog 137 #[.bool b] w (fun v w' => v = .int .i64 (oneF b) ∧ w' = w) := by
  refine go137 ?_
  unfold W137
  cases b
  · exact BIf.f rfl ⟨rfl, rfl⟩
  · exact BIf.t rfl ⟨rfl, rfl⟩
theorem c86 {b : Bool} {w : World} : CallW Try.prog 86 #[.bool b] w (fun v w' => v = .int .u64 (oneF b) ∧ w' = w) := by
  refine go86 ?_
  unfold W86
  cases b
  · exact BIf.f rfl ⟨rfl, rfl⟩
  · exact BIf.t rfl ⟨rfl, rfl⟩
theorem c80 {l : Sl} {T k a n : Int} {fr : List DBlock} {w : World} (h : FrAt w l fr) (hf : Fine T fr) : CallW Try.prog 80 #[.agg #[.int .i64 T, .slice l.a l.len l.cap], .agg #[.int .i64 k, .int .i64 a, .int .i64 n]] w (StV T l fr (stepF T fr k a n) w) := by
  refine go80 ?_
  unfold W80
  have hok := hf.1
  have hT0 := hok.1
  have hT1 := hok.2.1
  refine alloc_step (fun w1 e1 hb n1 => ?_)
  refine alloc_step (fun w2 e2 hq n2 => ?_)
  refine alloc_step (fun w3 e3 hz n3 => ?_)
  have hb := hb.ext (Only.trans e2 e3)
  have hq := hq.ext e3
  have e := Only.trans e1 (Only.trans e2 e3)
  refine ⟨_, hq.cell 0, ?_⟩
  refine BIf.of (fun hk => ?_) (fun hk1 => ?_)
  · have hk : k = 1 := by simpa using hk
    refine ⟨_, hb.cell 0, l, hb.cell 1, _, hq.cell 2, (c144 (h.ext e)).mono ?_⟩
    rintro _ w9 ⟨t, rfl, own, e9⟩
    have hb := hb.ext e9
    have hq := hq.ext e9
    have hz := hz.ext e9
    have e := Only.trans e e9
    have z9 := e9.size
    refine ⟨_, t, _, rfl, alloc_step (fun w13 e13 hy n13 => put_step hy rfl rfl (fun w14 o14 hy n14 => ?_))⟩
    have e14 := Ext.own e13 o14 (fun j hj => by omega)
    have hb := hb.ext e14
    have hq := hq.ext e14
    have hz := hz.ext e14
    have own := own.ext e14
    have e := Only.trans e e14
    refine ⟨_, hq.cell 2, ?_⟩
    refine JoinW.cut1 (fun (c : Bool) w' => (c = true ↔ n < 0 ∨ 10 < n) ∧ w' = w14) ?_ ?_
    · refine BIf.dec (fun h1 => ⟨⟨fun _ => .inl h1, fun _ => rfl⟩, rfl⟩) (fun h1 => ⟨_, hq.cell 2, ⟨⟨fun hh => .inr (by simpa using hh), fun hh => decide_eq_true (by omega)⟩, rfl⟩⟩)
    rintro (c : Bool) w14 ⟨hc, rfl⟩
    refine BIf.of (fun hbad => ?_) (fun hgood => ?_)
    · have hr : stepF T fr k a n = (fr, -2) := by unfold stepF; rw [if_pos hk, if_pos (hc.1 hbad)]
      rw [hr]
      refine ⟨_, hb.cell 0, l, hb.cell 1, put_step hz rfl rfl (fun w21 o21 hz n21 => ?_)⟩
      exact ⟨_, hz.cell 0, l, hz.cell 1, l, rfl, .inl ⟨rfl, rfl⟩, Ext.own e o21 (fun k hk => by omega)⟩
    · have hg : ¬ (n < 0 ∨ 10 < n) := fun hh => by rw [hc.2 hh] at hgood; cases hgood
      have hr : stepF T fr k a n = ((takeF T fr n).2.1, (takeF T fr n).2.2) := by unfold stepF; rw [if_pos hk, if_neg hg]
      rw [hr]
      refine ⟨_, hy.cell 0, t, hy.cell 1, put_step hz rfl rfl (fun w26 o26 hz n26 => ?_)⟩
      have own := own.only o26 (fun b _ hb0 _ hbb => by omega)
      refine ⟨_, hz.cell 0, t, hz.cell 1, t, ?_, .inr (own.mono (by omega)), Ext.own e o26 (fun k hk => by omega)⟩
      rw [take_T hok (by omega) (by omega)]
  have hk1 : k ≠ 1 := by simpa using hk1
  refine ⟨_, hq.cell 0, ?_⟩
  refine BIf.of (fun hk => ?_) (fun hk2 => ?_)
  · have hk : k = 2 := by simpa using hk
    refine ⟨_, hb.cell 0, _, hq.cell 1, _, hq.cell 2, (c145 (by omega)).mono ?_⟩
    rintro _ w35 ⟨rfl, e35⟩
    have hb := hb.ext e35
    have hq := hq.ext e35
    have hz := hz.ext e35
    have e := Only.trans e e35
    have z35 := e35.size
    refine ⟨_, rfl, ?_⟩
    refine BIf.of (fun hbad => ?_) (fun hgood => ?_)
    · have hbk : blkOk T a n = false := by simpa using hbad
      have hr : stepF T fr k a n = (fr, -2) := by unfold stepF; rw [if_neg hk1, if_pos hk, if_neg (by rw [hbk]; decide)]
      rw [hr]
      refine ⟨_, hb.cell 0, l, hb.cell 1, put_step hz rfl rfl (fun w21 o21 hz n21 => ?_)⟩
      exact ⟨_, hz.cell 0, l, hz.cell 1, l, rfl, .inl ⟨rfl, rfl⟩, Ext.own e o21 (fun k hk => by omega)⟩
    · have hbk : blkOk T a n = true := by simpa using hgood
      have hr : stepF T fr k a n = ((giveF T fr a n).2.1, oneF (giveF T fr a n).2.2) := by unfold stepF; rw [if_neg hk1, if_pos hk, if_pos hbk]
      rw [hr]
      refine ⟨_, hb.cell 0, l, hb.cell 1, _, hq.cell 1, _, hq.cell 2, (c146 (h.ext e)).mono ?_⟩
      rintro _ w47 ⟨t, rfl, own, e47⟩
      have hz := hz.ext e47
      have e := Only.trans e e47
      have z47 := e47.size
      refine ⟨_, t, _, rfl, alloc_step (fun w51 e51 hy n51 => put_step hy rfl rfl (fun w52 o52 hy n52 => ?_))⟩
      have e52 := Only.trans (Ext.own e51 o52 (fun j hj => by omega)) (ext_drew w52)
      have hz := hz.ext e52
      have hy := hy.ext (ext_drew w52)
      have own := own.ext e52
      have e := Only.trans e e52
      have zd : w52.drew.heap.size = w52.heap.size := rfl
      generalize w52.drew = w53 at *
      refine ⟨_, hy.cell 0, t, hy.cell 1, c137.mono ?_⟩
      rintro _ w53 ⟨rfl, rfl⟩
      refine ⟨_, rfl, ⟨_, hy.cell 0, t, hy.cell 1, rfl⟩, put_step hz rfl rfl (fun w60 o60 hz n60 => ?_)⟩
      have own := own.only o60 (fun b _ hb0 _ hbb => by omega)
      refine ⟨_, hz.cell 0, t, hz.cell 1, t, ?_, .inr (own.mono (by omega)), Ext.own e o60 (fun k hk => by omega)⟩
      rw [give_T hok hbk]
  have hk2 : k ≠ 2 := by simpa using hk2
  refine ⟨_, hq.cell 0, ?_⟩
  refine BIf.of (fun hk => ?_) (fun hk3 => ?_)
  · have hk : k = 3 := by simpa using hk
    refine ⟨_, hq.cell 2, ?_⟩
    refine JoinW.cut1 (fun (c : Bool) w' => (c = false ↔ 0 ≤ n ∧ n ≤ T) ∧ w' = w3) ?_ ?_
    · refine BIf.dec (fun h1 => ⟨⟨(fun hh => by cases hh), (fun hh => by omega)⟩, rfl⟩) (fun h1 => ⟨_, hq.cell 2, _, hb.cell 0, ⟨⟨(fun hh => ⟨by omega, by simpa using hh⟩), (fun hh => by simpa using hh.2)⟩, rfl⟩⟩)
    rintro (c : Bool) w3 ⟨hc, rfl⟩
    refine JoinW.cut1 (fun (c : Bool) w' => (c = false ↔ 0 ≤ n ∧ n ≤ T ∧ 0 ≤ a) ∧ w' = w3) ?_ ?_
    · refine BIf.of (fun h1 => ⟨⟨(fun hh => by cases hh), (fun hh => by rw [hc.2 ⟨hh.1, hh.2.1⟩] at h1; cases h1)⟩, rfl⟩) (fun h1 => ⟨_, hq.cell 1, ⟨⟨(fun hh => ⟨(hc.1 h1).1, (hc.1 h1).2, by simpa using hh⟩), (fun hh => by simpa using hh.2.2)⟩, rfl⟩⟩)
    clear hc
    rintro (c : Bool) w3 ⟨hc, rfl⟩
    refine JoinW.cut1 (fun (c : Bool) w' => (c = false ↔ 0 ≤ n ∧ 0 ≤ a ∧ a + n ≤ T) ∧ w' = w3) ?_ ?_
    · refine BIf.of (fun h1 => ⟨⟨(fun hh => by cases hh), (fun hh => by rw [hc.2 ⟨hh.1, by omega, hh.2.1⟩] at h1; cases h1)⟩, rfl⟩) (fun h1 => ?_)
      obtain ⟨g1, g2, g3⟩ := hc.1 h1
      refine ⟨_, hq.cell 1, _, hb.cell 0, _, hq.cell 2, ?_⟩
      rw [w64 (by omega) (by omega)]
      refine ⟨⟨(fun hh => ?_), (fun hh => ?_)⟩, rfl⟩
      · have : ¬ a > T - n := by simpa using hh
        omega
      · exact decide_eq_false (by omega)
    clear hc
    rintro (c : Bool) w3 ⟨hc, rfl⟩
    refine BIf.of (fun hbad => ?_) (fun hgood => ?_)
    · have hr : stepF T fr k a n = (fr, -2) := by unfold stepF; rw [if_neg hk1, if_neg hk2, if_pos hk, if_neg (fun hh => by rw [hc.2 hh] at hbad; cases hbad)]
      rw [hr]
      refine ⟨_, hb.cell 0, l, hb.cell 1, put_step hz rfl rfl (fun w21 o21 hz n21 => ?_)⟩
      exact ⟨_, hz.cell 0, l, hz.cell 1, l, rfl, .inl ⟨rfl, rfl⟩, Ext.own e o21 (fun k hk => by omega)⟩
    · have hg := hc.1 hgood
      have hr : stepF T fr k a n = ((holdF T fr a n).2.1, oneF (holdF T fr a n).2.2) := by unfold stepF; rw [if_neg hk1, if_neg hk2, if_pos hk, if_pos hg]
      rw [hr]
      refine ⟨_, hb.cell 0, l, hb.cell 1, _, hq.cell 1, _, hq.cell 2, (c147 (h.ext e)).mono ?_⟩
      rintro _ w47 ⟨t, rfl, own, e47⟩
      have hz := hz.ext e47
      have e := Only.trans e e47
      have z47 := e47.size
      refine ⟨_, t, _, rfl, alloc_step (fun w51 e51 hy n51 => put_step hy rfl rfl (fun w52 o52 hy n52 => ?_))⟩
      have e52 := Only.trans (Ext.own e51 o52 (fun j hj => by omega)) (ext_drew w52)
      have hz := hz.ext e52
      have hy := hy.ext (ext_drew w52)
      have own := own.ext e52
      have e := Only.trans e e52
      have zd : w52.drew.heap.size = w52.heap.size := rfl
      generalize w52.drew = w53 at *
      refine ⟨_, hy.cell 0, t, hy.cell 1, c137.mono ?_⟩
      rintro _ w53 ⟨rfl, rfl⟩
      refine ⟨_, rfl, ⟨_, hy.cell 0, t, hy.cell 1, rfl⟩, put_step hz rfl rfl (fun w60 o60 hz n60 => ?_)⟩
      have own := own.only o60 (fun b _ hb0 _ hbb => by omega)
      refine ⟨_, hz.cell 0, t, hz.cell 1, t, ?_, .inr (own.mono (by omega)), Ext.own e o60 (fun k hk => by omega)⟩
      rw [hold_T hok hg.1 hg.2.1 hg.2.2]
  have hk3 : k ≠ 3 := by simpa using hk3
  refine ⟨_, hq.cell 0, ?_⟩
  refine BIf.of (fun hk => ?_) (fun hk4 => ?_)
  · have hk : k = 4 := by simpa using hk
    have hr : stepF T fr k a n = (fr, leftF fr fr.length) := by unfold stepF; rw [if_neg hk1, if_neg hk2, if_neg hk3, if_pos hk]
    rw [hr]
    have hb := hb.ext (ext_drew w3)
    have hz := hz.ext (ext_drew w3)
    have e := Only.trans e (ext_drew w3)
    have zd : w3.drew.heap.size = w3.heap.size := rfl
    generalize w3.drew = w4 at *
    refine ⟨_, hb.cell 0, l, hb.cell 1, _, hb.cell 0, l, hb.cell 1, (c128 (h.ext e) hok).mono ?_⟩
    rintro _ w112 ⟨rfl, e112⟩
    have hb := hb.ext e112
    have hz := hz.ext e112
    have e := Only.trans e e112
    have z112 := e112.size
    refine ⟨_, rfl, ⟨_, hb.cell 0, l, hb.cell 1, rfl⟩, put_step hz rfl rfl (fun w21 o21 hz n21 => ?_)⟩
    exact ⟨_, hz.cell 0, l, hz.cell 1, l, rfl, .inl ⟨rfl, rfl⟩, Ext.own e o21 (fun k hk => by omega)⟩
  · have hk4 : k ≠ 4 := by simpa using hk4
    have hr : stepF T fr k a n = (fr, -2) := by unfold stepF; rw [if_neg hk1, if_neg hk2, if_neg hk3, if_neg hk4]
    rw [hr]
    refine ⟨_, hb.cell 0, l, hb.cell 1, put_step hz rfl rfl (fun w21 o21 hz n21 => ?_)⟩
    exact ⟨_, hz.cell 0, l, hz.cell 1, l, rfl, .inl ⟨rfl, rfl⟩, Ext.own e o21 (fun k hk => by omega)⟩
end Go.Proofs.Ytkgoanjemhbjgaa

/- The law's own functions over trees: copies, sizes, comparisons, marks; printed by a program. Conditions: none. -/
set_option linter.unusedVariables false
set_option linter.unusedSimpArgs false
set_option maxRecDepth 4000
namespace Go.Proofs.Ytkgoanjemhbjgaa
open Go Go.Den


/- markByteS -/
theorem c104 {l : List Dat} {a0 : Sl} {bs : List Nat} {k0 : Int} {w : World} (ht : ∀ e, e ∈ l → Has (.int .u8) e) (h : OwnD w (.sl 1 l) bs [.slice a0.a a0.len a0.cap]) (hn : bs.Nodup) (h0 : 1 ≤ k0) (hk : k0 + Dat.cnts l ≤ 1099511627776) : CallW Try.prog 104 #[.slice a0.a a0.len a0.cap, .int .i64 k0] w (fun v w' => v = .int .i64 (k0 + Dat.cnts l) ∧ ∃ l', l'.length = l.length ∧ Dat.cnts l' = Dat.cnts l ∧ (∀ e, e ∈ l' → Has (.int .u8) e) ∧ MarkedF TXT l' k0 ∧ OwnD w' (.sl 1 l') bs [.slice a0.a a0.len a0.cap] ∧ Only (fun k => k ∈ bs) w w') := by
  refine go104 ?_
  unfold W104
  obtain ⟨hlen, hmax⟩ := ownD_len h
  have hmx : maxLen = 9223372036854775807 := rfl
  rw [hlen]
  refine LoopW.m2 (fun (x i : Int) w' => ∃ (k : Nat) (l' : List Dat), i = k ∧ k ≤ l.length ∧ l'.length = k ∧ x = k0 + Dat.cnts l' ∧ Dat.cnts l' = Dat.cnts (l.take k) ∧ (∀ e, e ∈ l' → Has (.int .u8) e) ∧ MarkedF TXT l' k0 ∧ OwnD w' (.sl 1 (l' ++ l.drop k)) bs [.slice a0.a a0.len a0.cap] ∧ Only (fun k => k ∈ bs) w w') (fun _ (i : Int) _ => (l.length - i).toNat) ⟨0, [], rfl, by omega, rfl, by simp [Dat.cnts], by simp [Dat.cnts], fun e he => (by cases he), markedF_nil, by simpa using h, Only.refl _ _⟩ ?_
  rintro (kx : Int) (i : Int) w4 ⟨k, l', rfl, hkl, hl', hx, hcn, hty, hmk, ho, o4⟩ J hJ
  refine BIf.dec (fun hlt => ?_) (fun hge => ?_)
  · obtain ⟨d, hd⟩ : ∃ d, l[k]? = some d := ⟨_, List.getElem?_eq_getElem (by omega)⟩
    have hcg := cnts_get hd
    have hct := cnts_take hd
    have ht0 := ht d (mem_get hd)
    obtain ⟨x, rfl⟩ := has_int ht0
    simp only [Dat.cnt, Dat.cnts] at hcg hct
    obtain ⟨b, bp, b1, bq, vp, v1, vq, ha, hbs, hvp, hod, hm, hvl, hlc, _⟩ := ownD_at ho (get_app hl' hd)
    rw [(take_app hl').1, (take_app hl').2] at hm
    have hv0 := hm.len
    have hbs0 := hbs
    rw [Int.toNat_natCast, ← hvp]
    simp (disch := omega) only [w64]
    refine ⟨by omega, by omega, _, ha, ?_⟩
    obtain ⟨hmay, hm2, o5⟩ := hm.set (fun c hc he => by rw [hbs] at hn; simp only [List.nodup_cons, List.mem_append, not_or] at hn; subst he; rcases hc with hc | hc; exact hn.1.1 hc; exact hn.1.2.2 hc) (j := 0) (by omega) (.int .u8 (IntKind.wrap .u8 (kx)))
    refine ⟨hmay, LetW_iff.2 ?_⟩
    have o4 := Only.trans o4 (o5.mono (fun c _ hc => by subst hc; rw [hbs]; simp))
    have hrow := row_close (bs := bs) (a0 := a0) (d' := .int .u8 (IntKind.wrap .u8 (kx))) hm2 (bd := b1) (by obtain ⟨hb1, hc1⟩ := sc_int _ _ hod; subst hb1; obtain ⟨y, rfl⟩ : ∃ y, v1 = [y] := by { match v1, hc1 with | [y], _ => exact ⟨y, rfl⟩ }; exact own_int wf_u8w) hvp hl' (by omega) ha (by rw [hlen]) hbs (by have : (l' ++ l.drop k).length = l.length := (by simp; omega); omega) hmax hv0 hvl
    refine hJ _ _ _ ⟨k + 1, l' ++ [_], by omega, by omega, by simp; omega, ?_, ?_, has_snoc hty mk_int, markedF_snoc hmk (marked_int rfl) hx, hrow, o4⟩ (by omega)
    · rw [cnts_snoc]; simp only [Dat.cnt, Dat.cnts]; omega
    · rw [cnts_snoc, hct]; simp only [Dat.cnt, Dat.cnts]; omega
  · have hkl2 : k = l.length := by omega
    subst hkl2
    rw [List.take_length] at hcn
    rw [List.drop_length, List.append_nil, hlen] at ho
    exact ⟨by rw [hx, hcn], l', hl', hcn, hty, hmk, ho, o4⟩

/- markBlockS -/
theorem c164 {l : List Dat} {a0 : Sl} {bs : List Nat} {k0 : Int} {w : World} (ht : ∀ e, e ∈ l → Has TyBlock e) (h : OwnD w (.sl 2 l) bs [.slice a0.a a0.len a0.cap]) (hn : bs.Nodup) (h0 : 1 ≤ k0) (hk : k0 + Dat.cnts l ≤ 1099511627776) : CallW Try.prog 164 #[.slice a0.a a0.len a0.cap, .int .i64 k0] w (fun v w' => v = .int .i64 (k0 + Dat.cnts l) ∧ ∃ l', l'.length = l.length ∧ Dat.cnts l' = Dat.cnts l ∧ (∀ e, e ∈ l' → Has TyBlock e) ∧ MarkedF TXT l' k0 ∧ OwnD w' (.sl 2 l') bs [.slice a0.a a0.len a0.cap] ∧ Only (fun k => k ∈ bs) w w') := by
  refine go164 ?_
  unfold W164
  obtain ⟨hlen, hmax⟩ := ownD_len h
  have hmx : maxLen = 9223372036854775807 := rfl
  rw [hlen]
  refine LoopW.m2 (fun (x i : Int) w' => ∃ (k : Nat) (l' : List Dat), i = k ∧ k ≤ l.length ∧ l'.length = k ∧ x = k0 + Dat.cnts l' ∧ Dat.cnts l' = Dat.cnts (l.take k) ∧ (∀ e, e ∈ l' → Has TyBlock e) ∧ MarkedF TXT l' k0 ∧ OwnD w' (.sl 2 (l' ++ l.drop k)) bs [.slice a0.a a0.len a0.cap] ∧ Only (fun k => k ∈ bs) w w') (fun _ (i : Int) _ => (l.length - i).toNat) ⟨0, [], rfl, by omega, rfl, by simp [Dat.cnts], by simp [Dat.cnts], fun e he => (by cases he), markedF_nil, by simpa using h, Only.refl _ _⟩ ?_
  rintro (kx : Int) (i : Int) w4 ⟨k, l', rfl, hkl, hl', hx, hcn, hty, hmk, ho, o4⟩ J hJ
  refine BIf.dec (fun hlt => ?_) (fun hge => ?_)
  · obtain ⟨d, hd⟩ : ∃ d, l[k]? = some d := ⟨_, List.getElem?_eq_getElem (by omega)⟩
    have hcg := cnts_get hd
    have hct := cnts_take hd
    have ht0 := ht d (mem_get hd)
    obtain ⟨x_0, x_1, rfl⟩ := has_Block ht0
    simp only [Dat.cnt, Dat.cnts] at hcg hct
    obtain ⟨b, bp, b1, bq, vp, v1, vq, ha, hbs, hvp, hod, hm, hvl, hlc, _⟩ := ownD_at ho (get_app hl' hd)
    rw [(take_app hl').1, (take_app hl').2] at hm
    have hv0 := hm.len
    have hbs0 := hbs
    rw [Int.toNat_natCast, ← hvp]
    simp (disch := omega) only [w64]
    have hbs : bs = b :: (bp ++ (([] ++ b1) ++ bq)) := hbs
    have me : ME w4 b 2 l' (l.drop (k + 1)) bp bq vp vq [] _ [] b1 [] v1 := ⟨hm, by unfold OwnF; exact ⟨rfl, rfl⟩, ownD_st hod, by rw [← hbs]; exact hn⟩
    refine ⟨by omega, by omega, _, ha, ?_⟩
    refine me.sc (d' := .int .i64 (kx)) sc_int (fun w => own_int (wf_i64 (by omega) (by omega))) rfl (fun w5 cr5 o5 me => ?_)
    have o4 := Only.trans o4 (o5.mono (fun c _ hc => by subst hc; rw [hbs]; simp))
    refine ⟨by omega, by omega, _, ha, ?_⟩
    refine me.sc (d' := .int .i64 (kx + 1)) sc_int (fun w => own_int (wf_i64 (by omega) (by omega))) rfl (fun w6 cr6 o6 me => ?_)
    have o4 := Only.trans o4 (o6.mono (fun c _ hc => by subst hc; rw [hbs]; simp))
    obtain ⟨hm2, hod2, hbr⟩ := me.fin
    subst hbr
    have hrow := row_close (bs := bs) (a0 := a0) hm2 hod2 hvp hl' (by omega) ha (by rw [hlen]) (by rw [hbs, List.append_nil]) (by have : (l' ++ l.drop k).length = l.length := (by simp; omega); omega) hmax hv0 hvl
    have hmkd : Marked TXT (.st [.int .i64 (kx), .int .i64 (kx + 1)]) kx := marked_st (markedF_cons (k := kx) (k' := kx + 1) (marked_int (by rw [w64 (by omega) (by omega)])) (markedF_cons (k := kx + 1) (k' := kx + 1 + 1) (marked_int (by rw [w64 (by omega) (by omega)])) (markedF_nil (k := kx + 1 + 1)) (by simp only [Dat.cnt]; omega)) (by simp only [Dat.cnt]; omega))
    have hhas : Has TyBlock (.st [.int .i64 (kx), .int .i64 (kx + 1)]) := mk_st (mkF_cons mk_int (mkF_cons mk_int (mkF_nil)))
    refine hJ _ _ _ ⟨k + 1, l' ++ [_], by omega, by omega, by simp; omega, ?_, ?_, has_snoc hty hhas, markedF_snoc hmk hmkd hx, hrow, o4⟩ (by omega)
    · rw [cnts_snoc]; simp only [Dat.cnt, Dat.cnts]; omega
    · rw [cnts_snoc, hct]; simp only [Dat.cnt, Dat.cnts]; omega
  · have hkl2 : k = l.length := by omega
    subst hkl2
    rw [List.take_length] at hcn
    rw [List.drop_length, List.append_nil, hlen] at ho
    exact ⟨by rw [hx, hcn], l', hl', hcn, hty, hmk, ho, o4⟩

/- markFrames -/
theorem c105 {d : Dat} {cs : List Value} {bs : List Nat} {k0 : Int} {w : World} (ht : Has TyFrames d) (h : OwnD w d bs cs) (hn : bs.Nodup) (h0 : 1 ≤ k0) (hk : k0 + d.cntT ≤ 1099511627776) : CallW Try.prog 105 #[.agg ⟨cs⟩, .int .i64 k0] w (fun v w' => v = .int .i64 (k0 + d.cntT) ∧ ∃ d', d'.cntT = d.cntT ∧ Has TyFrames d' ∧ MarkedT TXT d' k0 ∧ OwnD w' d' bs cs ∧ Only (fun k => k ∈ bs) w w') := by
 obtain ⟨x_0, l_1, rfl, t_1⟩ := has_Frames ht
 simp only [Dat.cntT, Dat.cntTs] at hk
 have f_ := ownD_st h
 obtain ⟨b_0, r_0, c_0, u_0, rfl, rfl, h_0, f_0⟩ := ownF_cons f_
 obtain ⟨b_1, r_1, c_1, u_1, rfl, rfl, h_1, f_1⟩ := ownF_cons f_0
 obtain ⟨rfl, rfl⟩ := ownF_nil f_1
 obtain ⟨rfl, rfl, wo_0⟩ := ownD_i h_0
 obtain ⟨s_1, rfl⟩ := ownD_sl_s h_1
 have nd0 := (List.nodup_append.1 hn).1
 have dj0 := (List.nodup_append.1 hn).2.2
 have hn0 := (List.nodup_append.1 hn).2.1
 have nd1 := (List.nodup_append.1 hn0).1
 have dj1 := (List.nodup_append.1 hn0).2.2
 have hn1 := (List.nodup_append.1 hn0).2.1
 have lt1 := OwnD.lt _ _ _ h_1
 show CallW Try.prog 105 #[.agg #[.int .i64 x_0, .slice s_1.a s_1.len s_1.cap], .int .i64 k0] w _
 refine go105 ?_
 unfold W105
 refine alloc_step (fun w1 e1 hb n1 => ?_)
 have o_1 := OwnD.only e1 _ _ _ (fun _ _ x => x) h_1
 have ot : Only (fun k => k ∈ b_1) w w1 := Ext.any e1
 refine ⟨s_1, hb.cell 1, (c164 t_1 o_1 nd1 (by omega) (by omega)).mono ?_⟩
 rintro _ w3 ⟨rfl, m_1, _, cn_1, hs_1, mk_1, ow_1, oo⟩
 refine ⟨_, rfl, ?_⟩
 have hb := hb.only oo (fun hk => by have := lt1 _ hk; omega)
 have ot := Only.trans ot (oo.mono (fun c _ hc => by (try simp only [List.mem_append, List.not_mem_nil, or_false, false_or] at hc); (try simp only [List.mem_append, List.not_mem_nil, or_false, false_or]); first | (simp [hc]; done) | (rcases hc with hc | hc <;> simp [hc]; done) | (rcases hc with hc | hc | hc <;> simp [hc])))
 refine ⟨by congr 1; simp only [Dat.cntT, Dat.cntTs]; omega, .st [.int .i64 x_0, .sl 2 m_1], by simp only [Dat.cntT, Dat.cntTs]; omega, mk_st (mkF_cons mk_int (mkF_cons (mk_sl hs_1) (mkF_nil))), markedT_st (markedTF_cons (k' := k0) markedT_int (markedTF_cons (k' := k0 + (Dat.cnts l_1 : Nat)) (marked_slT mk_1) (markedTF_nil) (by simp only [Dat.cntT, Dat.cntTs] at *; omega)) (by simp only [Dat.cntT]; omega)), ownD_mkSt (ownF_mk (own_int wo_0) (ownF_mk ow_1 (ownF_mk0))), ot.mono (fun c _ hc => by (try simp only [List.mem_append, List.not_mem_nil, or_false, false_or] at hc); (try simp only [List.mem_append, List.not_mem_nil, or_false, false_or]); first | (simp [hc]; done) | (rcases hc with hc | hc <;> simp [hc]; done) | (rcases hc with hc | hc | hc <;> simp [hc]))⟩

/- markPool -/
theorem c39 {d : Dat} {cs : List Value} {bs : List Nat} {k0 : Int} {w : World} (ht : Has TyPool d) (h : OwnD w d bs cs) (hn : bs.Nodup) (h0 : 1 ≤ k0) (hk : k0 + d.cntT ≤ 1099511627776) : CallW Try.prog 39 #[.agg ⟨cs⟩, .int .i64 k0] w (fun v w' => v = .int .i64 (k0 + d.cntT) ∧ ∃ d', d'.cntT = d.cntT ∧ Has TyPool d' ∧ MarkedT TXT d' k0 ∧ OwnD w' d' bs cs ∧ Only (fun k => k ∈ bs) w w') := by
 obtain ⟨l_0, x_1_0, l_1_1, rfl, t_0, h_1k, t_1_1⟩ := has_Pool ht
 simp only [Dat.cntT, Dat.cntTs] at hk
 have f_ := ownD_st h
 obtain ⟨b_0, r_0, c_0, u_0, rfl, rfl, h_0, f_0⟩ := ownF_cons f_
 obtain ⟨b_1, r_1, c_1, u_1, rfl, rfl, h_1, f_1⟩ := ownF_cons f_0
 obtain ⟨rfl, rfl⟩ := ownF_nil f_1
 obtain ⟨s_0, rfl⟩ := ownD_sl_s h_0
 have f_1 := ownD_st h_1
 obtain ⟨b_1_0, r_1_0, c_1_0, u_1_0, rfl, rfl, h_1_0, f_1_0⟩ := ownF_cons f_1
 obtain ⟨b_1_1, r_1_1, c_1_1, u_1_1, rfl, rfl, h_1_1, f_1_1⟩ := ownF_cons f_1_0
 obtain ⟨rfl, rfl⟩ := ownF_nil f_1_1
 obtain ⟨rfl, rfl, wo_1_0⟩ := ownD_i h_1_0
 obtain ⟨s_1_1, rfl⟩ := ownD_sl_s h_1_1
 have nd0 := (List.nodup_append.1 hn).1
 have dj0 := (List.nodup_append.1 hn).2.2
 have hn0 := (List.nodup_append.1 hn).2.1
 have nd1 := (List.nodup_append.1 hn0).1
 have dj1 := (List.nodup_append.1 hn0).2.2
 have hn1 := (List.nodup_append.1 hn0).2.1
 have lt0 := OwnD.lt _ _ _ h_0
 have lt1 := OwnD.lt _ _ _ h_1
 show CallW Try.prog 39 #[.agg #[.slice s_0.a s_0.len s_0.cap, .int .i64 x_1_0, .slice s_1_1.a s_1_1.len s_1_1.cap], .int .i64 k0] w _
 refine go39 ?_
 unfold W39
 refine alloc_step (fun w1 e1 hb n1 => ?_)
 have o_0 := OwnD.only e1 _ _ _ (fun _ _ x => x) h_0
 have o_1 := OwnD.only e1 _ _ _ (fun _ _ x => x) h_1
 have ot : Only (fun k => k ∈ b_0 ∨ k ∈ ([] ++ (b_1_1 ++ []))) w w1 := Ext.any e1
 refine ⟨s_0, hb.cell 0, (c104 t_0 o_0 nd0 (by omega) (by omega)).mono ?_⟩
 rintro _ w2 ⟨rfl, m_0, _, cn_0, hs_0, mk_0, ow_0, oo⟩
 refine ⟨_, rfl, ?_⟩
 have hb := hb.only oo (fun hk => by have := lt0 _ hk; omega)
 have ot := Only.trans ot (oo.mono (fun c _ hc => by (try simp only [List.mem_append, List.not_mem_nil, or_false, false_or] at hc); (try simp only [List.mem_append, List.not_mem_nil, or_false, false_or]); first | (simp [hc]; done) | (rcases hc with hc | hc <;> simp [hc]; done) | (rcases hc with hc | hc | hc <;> simp [hc])))
 have o_1 := OwnD.only oo _ _ _ (fun c hc hd => dj0 c hd c (by (try simp only [List.mem_append, List.not_mem_nil, or_false, false_or] at hc); (try simp only [List.mem_append, List.not_mem_nil, or_false, false_or]); first | (simp [hc]; done) | (rcases hc with hc | hc <;> simp [hc]; done) | (rcases hc with hc | hc | hc <;> simp [hc])) rfl) o_1
 refine ⟨_, hb.cell 1, s_1_1, hb.cell 2, (c105 (d := .st [.int .i64 x_1_0, .sl 2 l_1_1]) h_1k o_1 nd1 (by omega) (by simp only [Dat.cntT, Dat.cntTs]; omega)).mono ?_⟩
 rintro _ w3 ⟨rfl, m_1, cn_1, hs_1, mk_1, ow_1, oo⟩
 simp only [Dat.cntT, Dat.cntTs] at cn_1
 refine ⟨_, rfl, ?_⟩
 have hb := hb.only oo (fun hk => by have := lt1 _ hk; omega)
 have ot := Only.trans ot (oo.mono (fun c _ hc => by (try simp only [List.mem_append, List.not_mem_nil, or_false, false_or] at hc); (try simp only [List.mem_append, List.not_mem_nil, or_false, false_or]); first | (simp [hc]; done) | (rcases hc with hc | hc <;> simp [hc]; done) | (rcases hc with hc | hc | hc <;> simp [hc])))
 have ow_0 := OwnD.only oo _ _ _ (fun c hc hd => dj0 c hc c (by (try simp only [List.mem_append, List.not_mem_nil, or_false, false_or] at hd); (try simp only [List.mem_append, List.not_mem_nil, or_false, false_or]); first | (simp [hd]; done) | (rcases hd with hd | hd <;> simp [hd]; done) | (rcases hd with hd | hd | hd <;> simp [hd])) rfl) ow_0
 refine ⟨by congr 1; simp only [Dat.cntT, Dat.cntTs]; omega, .st [.sl 1 m_0, m_1], by simp only [Dat.cntT, Dat.cntTs]; omega, mk_st (mkF_cons (mk_sl hs_0) (mkF_cons hs_1 (mkF_nil))), markedT_st (markedTF_cons (k' := k0 + (Dat.cnts l_0 : Nat)) (marked_slT mk_0) (markedTF_cons (k' := k0 + (Dat.cnts l_0 : Nat) + ((Dat.st [.int .i64 x_1_0, .sl 2 l_1_1]).cntT : Nat)) (mk_1) (markedTF_nil) (by simp only [Dat.cntT, Dat.cntTs] at *; omega)) (by simp only [Dat.cntT, Dat.cntTs] at *; omega)), ownD_mkSt (ownF_mk ow_0 (ownF_mk ow_1 (ownF_mk0))), ot.mono (fun c _ hc => by (try simp only [List.mem_append, List.not_mem_nil, or_false, false_or] at hc); (try simp only [List.mem_append, List.not_mem_nil, or_false, false_or]); first | (simp [hc]; done) | (rcases hc with hc | hc <;> simp [hc]; done) | (rcases hc with hc | hc | hc <;> simp [hc]))⟩

/- heldByteS -/
theorem c106 {l : List Dat} {a0 : Sl} {k0 : Int} {w : World} (ht : ∀ e, e ∈ l → Has (.int .u8) e) (h : IsD w (.sl 1 l) [.slice a0.a a0.len a0.cap]) (hm : MarkedF TXT l k0) (h0 : 1 ≤ k0) (hk : k0 + Dat.cnts l ≤ 1099511627776) : CallW Try.prog 106 #[.slice a0.a a0.len a0.cap, .int .i64 k0] w (fun v w' => v = .int .i64 (k0 + Dat.cnts l) ∧ Ext w w') := by
  refine go106 ?_
  unfold W106
  obtain ⟨hlen, hmax, _⟩ := isD_sl h
  have hmx : maxLen = 9223372036854775807 := rfl
  rw [hlen]
  refine LoopW.m2 (fun (x i : Int) w' => ∃ k : Nat, i = k ∧ k ≤ l.length ∧ x = k0 + Dat.cnts (l.take k) ∧ Ext w w') (fun _ (i : Int) _ => (l.length - i).toNat) ⟨0, rfl, by omega, by simp [Dat.cnts], Only.refl _ _⟩ ?_
  rintro (kx : Int) (i : Int) w4 ⟨k, rfl, hkl, hx, e4⟩ J hJ
  refine BIf.dec (fun hlt => ?_) (fun hge => ?_)
  · obtain ⟨d, hd⟩ : ∃ d, l[k]? = some d := ⟨_, List.getElem?_eq_getElem (by omega)⟩
    have hcg := cnts_get hd
    have hct := cnts_take hd
    have hmd := markedF_get hm hd
    rw [← hx] at hmd
    have ht0 := ht d (mem_get hd)
    obtain ⟨p, es, hp, he, hc, his⟩ := isD_at (IsD.ext e4 _ _ h) hd
    obtain ⟨x, rfl⟩ := has_int ht0
    obtain ⟨rfl, ws⟩ := isD_int his
    simp only [Dat.cnt, Dat.cnts] at hcg hct
    simp only [Marked, MarkedF, Dat.cnt, Dat.cnts] at hmd
    have m := hmd
    try simp (disch := omega) only [w64]
    refine ⟨by omega, by omega, p, hp, _, hc 0 _ rfl, BIf.f (by rw [m]; first | (simp; done) | (simp; congr 1; omega)) ?_⟩
    exact hJ _ _ _ ⟨k + 1, by omega, by omega, by rw [hct]; omega, e4⟩ (by omega)
  · rw [List.take_of_length_le (by omega)] at hx
    exact ⟨by rw [hx], e4⟩

/- heldBlockS -/
theorem c165 {l : List Dat} {a0 : Sl} {k0 : Int} {w : World} (ht : ∀ e, e ∈ l → Has TyBlock e) (h : IsD w (.sl 2 l) [.slice a0.a a0.len a0.cap]) (hm : MarkedF TXT l k0) (h0 : 1 ≤ k0) (hk : k0 + Dat.cnts l ≤ 1099511627776) : CallW Try.prog 165 #[.slice a0.a a0.len a0.cap, .int .i64 k0] w (fun v w' => v = .int .i64 (k0 + Dat.cnts l) ∧ Ext w w') := by
  refine go165 ?_
  unfold W165
  obtain ⟨hlen, hmax, _⟩ := isD_sl h
  have hmx : maxLen = 9223372036854775807 := rfl
  rw [hlen]
  refine LoopW.m2 (fun (x i : Int) w' => ∃ k : Nat, i = k ∧ k ≤ l.length ∧ x = k0 + Dat.cnts (l.take k) ∧ Ext w w') (fun _ (i : Int) _ => (l.length - i).toNat) ⟨0, rfl, by omega, by simp [Dat.cnts], Only.refl _ _⟩ ?_
  rintro (kx : Int) (i : Int) w4 ⟨k, rfl, hkl, hx, e4⟩ J hJ
  refine BIf.dec (fun hlt => ?_) (fun hge => ?_)
  · obtain ⟨d, hd⟩ : ∃ d, l[k]? = some d := ⟨_, List.getElem?_eq_getElem (by omega)⟩
    have hcg := cnts_get hd
    have hct := cnts_take hd
    have hmd := markedF_get hm hd
    rw [← hx] at hmd
    have ht0 := ht d (mem_get hd)
    obtain ⟨p, es, hp, he, hc, his⟩ := isD_at (IsD.ext e4 _ _ h) hd
    obtain ⟨x_0, x_1, rfl⟩ := has_Block ht0
    obtain ⟨rfl, ws_0, ws_1⟩ := cells_Block his
    simp only [Dat.cnt, Dat.cnts] at hcg hct
    simp only [Marked, MarkedF, Dat.cnt, Dat.cnts] at hmd
    obtain ⟨m_0, m_1, _⟩ := hmd
    try simp (disch := omega) only [w64]
    refine ⟨by omega, by omega, p, hp, _, hc 0 _ rfl, BIf.f (by rw [m_0, w64 (by omega) (by omega)]; first | (simp; done) | (simp; omega)) ?_⟩
    refine ⟨by omega, by omega, p, hp, _, hc 1 _ rfl, BIf.f (by rw [m_1, w64 (by omega) (by omega)]; first | (simp; done) | (simp; omega)) ?_⟩
    exact hJ _ _ _ ⟨k + 1, by omega, by omega, by rw [hct]; omega, e4⟩ (by omega)
  · rw [List.take_of_length_le (by omega)] at hx
    exact ⟨by rw [hx], e4⟩

/- heldFrames -/
theorem c107 {d : Dat} {cs : List Value} {k0 : Int} {w : World} (ht : Has TyFrames d) (h : IsD w d cs) (hm : MarkedT TXT d k0) (h0 : 1 ≤ k0) (hk : k0 + d.cntT ≤ 1099511627776) : CallW Try.prog 107 #[.agg ⟨cs⟩, .int .i64 k0] w (fun v w' => v = .int .i64 (k0 + d.cntT) ∧ Ext w w') := by
 obtain ⟨x_0, l_1, rfl, t_1⟩ := has_Frames ht
 obtain ⟨s_1, rfl, ws_0, is_1⟩ := cells_Frames h
 simp only [Dat.cntT, Dat.cntTs] at hk
 simp only [MarkedT, MarkedTF, Dat.cntT, Dat.cntTs] at hm
 obtain ⟨_, m_1, _⟩ := hm
 refine go107 ?_
 unfold W107
 refine alloc_step (fun w1 e hb n1 => ?_)
 refine ⟨s_1, hb.cell 1, (c165 (k0 := k0) t_1 (IsD.ext e _ _ is_1) (markedF_at m_1 (by omega)) (by omega) (by omega)).mono ?_⟩
 rintro _ w3 ⟨rfl, e3⟩
 have hb := hb.ext e3
 have e := Only.trans e e3
 refine ⟨_, rfl, BIf.f (decide_eq_false (by omega)) ?_⟩
 exact ⟨by congr 1; simp only [Dat.cntT, Dat.cntTs]; omega, e⟩

/- heldPool -/
theorem c40 {d : Dat} {cs : List Value} {k0 : Int} {w : World} (ht : Has TyPool d) (h : IsD w d cs) (hm : MarkedT TXT d k0) (h0 : 1 ≤ k0) (hk : k0 + d.cntT ≤ 1099511627776) : CallW Try.prog 40 #[.agg ⟨cs⟩, .int .i64 k0] w (fun v w' => v = .int .i64 (k0 + d.cntT) ∧ Ext w w') := by
 obtain ⟨l_0, x_1_0, l_1_1, rfl, t_0, h_1k, t_1_1⟩ := has_Pool ht
 obtain ⟨s_0, s_1_1, rfl, is_0, is_1, ws_1_0, is_1_1⟩ := cells_Pool h
 simp only [Dat.cntT, Dat.cntTs] at hk
 simp only [MarkedT, MarkedTF, Dat.cntT, Dat.cntTs] at hm
 obtain ⟨m_0, m_1, _⟩ := hm
 refine go40 ?_
 unfold W40
 refine alloc_step (fun w1 e hb n1 => ?_)
 refine ⟨s_0, hb.cell 0, (c106 (k0 := k0) t_0 (IsD.ext e _ _ is_0) (markedF_at m_0 (by omega)) (by omega) (by omega)).mono ?_⟩
 rintro _ w2 ⟨rfl, e2⟩
 have hb := hb.ext e2
 have e := Only.trans e e2
 refine ⟨_, rfl, BIf.f (decide_eq_false (by omega)) ?_⟩
 refine ⟨_, hb.cell 1, s_1_1, hb.cell 2, (c107 (d := .st [.int .i64 x_1_0, .sl 2 l_1_1]) (k0 := k0 + (Dat.cnts l_0 : Nat)) h_1k (IsD.ext e _ _ is_1) (markedT_at (by simp only [MarkedT, MarkedTF, Dat.cntT, Dat.cntTs]; exact m_1) (by omega)) (by omega) (by simp only [Dat.cntT, Dat.cntTs]; omega)).mono ?_⟩
 rintro _ w3 ⟨rfl, e3⟩
 have hb := hb.ext e3
 have e := Only.trans e e3
 refine ⟨_, rfl, BIf.f (decide_eq_false (by omega)) ?_⟩
 exact ⟨by congr 1; simp only [Dat.cntT, Dat.cntTs]; omega, e⟩

end Go.Proofs.Ytkgoanjemhbjgaa

/- Pools as memory in parts: copies, frames cleared and given back, both sides. Conditions: none. -/
set_option linter.unusedVariables false
set_option linter.unusedSimpArgs false
namespace Go.Proofs.Ytkgoanjemhbjgaa
open Go Go.Den
abbrev rowM (s : Sl) (m : List Int) : Asr := aRow s 1 (nums .u8 m)
abbrev rowF (s : Sl) (fr : List DBlock) : Asr := aRow s 2 (recs DBlock.cells fr)
def pc (sm : Sl) (T : Int) (sf : Sl) : List Value := [.slice sm.a sm.len sm.cap, .int .i64 T, .slice sf.a sf.len sf.cap]
theorem recs_flat (fr : List DBlock) : (fr.map DBlock.cells).flatten = fr.flatMap DBlock.cells := (List.flatMap_def ..).symm
/-- Two rows of one's own, apart from one another. -/
theorem SH.ofOwn2H {w0 w : World} {b0 : Nat} {sm sf : Sl} {m : List Int} {fr : List DBlock} (e : Ext w0 w) (h1 : OwnS w b0 sm 1 (m.map (Value.int .u8))) (h2 : OwnS w b0 sf 2 (fr.flatMap DBlock.cells)) (hb : w0.heap.size ≤ b0) (hmf : ∀ q, 0 < sm.cap → sm.a = some ⟨q, 0, none⟩ → Apart sf q) :
    ∃ H, All [rowM sm m, rowF sf fr] H ∧ Sat w0 w H ∧ ∀ x, x ∈ H → (0 < sm.cap ∧ sm.a = some ⟨x.1, 0, none⟩) ∨ (0 < sf.cap ∧ sf.a = some ⟨x.1, 0, none⟩) := by
  have hl1 := h1.len
  have hl2 := h2.len
  rw [List.length_map, Nat.mul_one] at hl1
  rw [flatMap_length DBlock.cells 2 (fun _ => rfl)] at hl2
  have hl2' : fr.length = sf.len := by omega
  have hM : ∃ H1 : HL, rowM sm m H1 ∧ ((H1 = []) ∨ ∃ b cs, sm.a = some ⟨b, 0, none⟩ ∧ 0 < sm.cap ∧ b0 ≤ b ∧ H1 = [(b, .c cs)] ∧ Blk w b cs) := by
    rcases Nat.eq_zero_or_pos sm.cap with h0 | h0
    · have hle : sm.len ≤ sm.cap := OwnS.capLe h1
      exact ⟨[], ⟨by rw [nums_len]; omega, by omega, .inl ⟨h0, rfl⟩⟩, .inl rfl⟩
    · obtain ⟨_, ⟨h3, h4⟩ | ⟨b, cs, ha, h3, h4, h5, h6, h7⟩⟩ := h1
      · omega
      · refine ⟨[(b, .c cs)], ⟨by rw [nums_len]; omega, h6, .inr ⟨b, cs, [], ha, rfl, h5, ?_⟩⟩, .inr ⟨b, cs, ha, h0, h3, rfl, h4⟩⟩
        have := TE.raw (z := 1) (m.map (fun x => [Value.int .u8 x])) (fun y hy => by obtain ⟨x, _, rfl⟩ := List.mem_map.1 hy; rfl) (cs.drop (sm.len * 1))
        rw [show (m.map (fun x => [Value.int .u8 x])).flatten = m.map (Value.int .u8) by rw [show m.map (fun x => [Value.int .u8 x]) = (m.map (Value.int .u8)).map (fun x => [x]) by rw [List.map_map]; rfl, flat_one], ← h7, List.take_append_drop] at this
        rw [nums_raw]; exact this
  have hF : ∃ H2 : HL, rowF sf fr H2 ∧ ((H2 = []) ∨ ∃ b cs, sf.a = some ⟨b, 0, none⟩ ∧ 0 < sf.cap ∧ b0 ≤ b ∧ H2 = [(b, .c cs)] ∧ Blk w b cs) := by
    rcases Nat.eq_zero_or_pos sf.cap with h0 | h0
    · have hle : sf.len ≤ sf.cap := OwnS.capLe h2
      exact ⟨[], ⟨by rw [recs_len]; omega, by omega, .inl ⟨h0, rfl⟩⟩, .inl rfl⟩
    · obtain ⟨_, ⟨h3, h4⟩ | ⟨b, cs, ha, h3, h4, h5, h6, h7⟩⟩ := h2
      · omega
      · refine ⟨[(b, .c cs)], ⟨by rw [recs_len]; omega, h6, .inr ⟨b, cs, [], ha, rfl, h5, ?_⟩⟩, .inr ⟨b, cs, ha, h0, h3, rfl, h4⟩⟩
        have := TE.raw (z := 2) (fr.map DBlock.cells) (fun y hy => by obtain ⟨x, _, rfl⟩ := List.mem_map.1 hy; rfl) (cs.drop (sf.len * 2))
        rw [recs_flat, ← h7, List.take_append_drop] at this
        rw [recs_raw]; exact this
  obtain ⟨H1, hA, hH1⟩ := hM
  obtain ⟨H2, hB, hH2⟩ := hF
  refine ⟨H1 ++ (H2 ++ []), ⟨H1, _, rfl, hA, H2, [], rfl, hB, rfl⟩, ⟨e, fun x hx => ?_, ?_, fun x hx => ?_⟩, fun x hx => ?_⟩
  · simp only [List.append_nil, List.mem_append] at hx
    rcases hx with hx | hx
    · rcases hH1 with rfl | ⟨b, cs, _, _, _, rfl, hbl⟩
      · cases hx
      · rw [List.mem_singleton.1 hx]; exact hbl
    · rcases hH2 with rfl | ⟨b, cs, _, _, _, rfl, hbl⟩
      · cases hx
      · rw [List.mem_singleton.1 hx]; exact hbl
  · rcases hH1 with rfl | ⟨b, cs, ha, hc, _, rfl, _⟩ <;> rcases hH2 with rfl | ⟨b', cs', ha', hc', _, rfl, _⟩
    · simp
    · simp
    · simp
    · have := hmf b hc ha hc'
      have hne : b ≠ b' := fun hh => this (by rw [ha', hh])
      simp [hne]
  · simp only [List.append_nil, List.mem_append] at hx
    rcases hx with hx | hx
    · rcases hH1 with rfl | ⟨b, cs, _, _, hb0, rfl, _⟩
      · cases hx
      · rw [List.mem_singleton.1 hx]; show _ ≤ b; omega
    · rcases hH2 with rfl | ⟨b, cs, _, _, hb0, rfl, _⟩
      · cases hx
      · rw [List.mem_singleton.1 hx]; show _ ≤ b; omega
  · simp only [List.append_nil, List.mem_append] at hx
    rcases hx with hx | hx
    · rcases hH1 with rfl | ⟨b, cs, ha, hc, hb0, rfl, _⟩
      · cases hx
      · rw [List.mem_singleton.1 hx]; exact .inl ⟨hc, ha⟩
    · rcases hH2 with rfl | ⟨b, cs, ha, hc, hb0, rfl, _⟩
      · cases hx
      · rw [List.mem_singleton.1 hx]; exact .inr ⟨hc, ha⟩
theorem SH.ofOwn2 {w0 w : World} {b0 : Nat} {sm sf : Sl} {m : List Int} {fr : List DBlock} (e : Ext w0 w) (h1 : OwnS w b0 sm 1 (m.map (Value.int .u8))) (h2 : OwnS w b0 sf 2 (fr.flatMap DBlock.cells)) (hb : w0.heap.size ≤ b0) (hmf : ∀ q, 0 < sm.cap → sm.a = some ⟨q, 0, none⟩ → Apart sf q) : SH w0 w [rowM sm m, rowF sf fr] := by
  obtain ⟨H, h3, h4, _⟩ := SH.ofOwn2H e h1 h2 hb hmf
  exact ⟨H, h3, h4⟩
theorem SH.ofOwnF {w0 w : World} {b0 : Nat} {sf : Sl} {fr : List DBlock} (e : Ext w0 w) (h : OwnS w b0 sf 2 (fr.flatMap DBlock.cells)) (hb : w0.heap.size ≤ b0) : SH w0 w [rowF sf fr] := by
  have hl := h.len
  rw [flatMap_length DBlock.cells 2 (fun _ => rfl)] at hl
  show SH w0 w [aRow sf 2 (recs DBlock.cells fr)]
  rw [recs_raw]
  exact SH.ofOwn e (by rw [recs_flat]; exact h) hb (by simp; omega) (fun y hy => by obtain ⟨x, _, rfl⟩ := List.mem_map.1 hy; rfl)
theorem SH.bytes {w0 w : World} {As : List Asr} (h : SH w0 w As) (n : Nat) {s : Sl} {m : List Int} (hA : As[n]? = some (rowM s m)) (hr : ∀ x, x ∈ m → 0 ≤ x ∧ x ≤ 255) (hs : m.length ≤ 1099511627776) : Bytes w s m :=
  ⟨by rw [h.len n hA, nums_len], h.lenCap n hA, h.rowN n hA, hr, hs⟩
theorem SH.frAt {w0 w : World} {As : List Asr} (h : SH w0 w As) (n : Nat) {s : Sl} {fr : List DBlock} (hA : As[n]? = some (rowF s fr)) (hl : fr.length ≤ 1099511627776) : FrAt w s fr :=
  ⟨by rw [h.len n hA, recs_len], h.rowR n hA, hl⟩
theorem SH.blk {w0 w : World} {As : List Asr} (h : SH w0 w As) (n : Nat) {b : Nat} {vs : List Value} (hA : As[n]? = some (aB b (vs.map Ce.v))) : Blk w b vs := by
  obtain ⟨H1, H2, h1, h2, hs⟩ := (h.front hA).cut
  obtain rfl := aB_raw.1 h1
  exact hs.blk (b, .c vs) (by simp)
/-! ## A pool copied -/
theorem s101 {sm sf : Sl} {m : List Int} {T : Int} {fr : List DBlock} {w : World} (hm : Bytes w sm m) (hf : FrAt w sf fr) : CallW Try.prog 101 #[.agg #[.slice sm.a sm.len sm.cap, .int .i64 T, .slice sf.a sf.len sf.cap]] w
    (fun v w' => ∃ tm tf : Sl, v = .agg #[.slice tm.a tm.len tm.cap, .int .i64 T, .slice tf.a tf.len tf.cap] ∧ SH w w' [rowM tm m, rowF tf fr]) :=
  (c101 hm hf).mono (by rintro _ w' ⟨tm, tf, rfl, hp, e⟩; exact ⟨tm, tf, rfl, SH.ofOwn2 e hp.1 hp.2.1 (Nat.le_refl _) hp.2.2⟩)
theorem s95 {sm sf : Sl} {m : List Int} {T : Int} {fr : List DBlock} {w : World} (hm : Bytes w sm m) (hf : FrAt w sf fr) : CallW Try.prog 95 #[.agg #[.slice sm.a sm.len sm.cap, .int .i64 T, .slice sf.a sf.len sf.cap]] w
    (fun v w' => ∃ (b : Nat) (tm tf : Sl), v = .pointer (some ⟨b, 0, none⟩) ∧ SH w w' [aB b ((pc tm T tf).map Ce.v), rowM tm m, rowF tf fr]) :=
  (c95 hm hf).mono (by
    rintro _ w' ⟨b, tm, tf, rfl, hp, e⟩
    refine ⟨b, tm, tf, rfl, ?_⟩
    obtain ⟨H, h1, h2, h3⟩ := SH.ofOwn2H e hp.mem hp.frs (Nat.le_refl _) hp.mf
    have hnb : b ∉ H.map (·.1) := fun hb => by
      obtain ⟨x, hx, rfl⟩ := List.mem_map.1 hb
      rcases h3 x hx with ⟨hc, ha⟩ | ⟨hc, ha⟩
      · exact hp.mb hc ha
      · exact hp.fb hc ha
    refine SH.mk (H1 := [(b, .c (pc tm T tf))]) (aB_raw.2 rfl) h1 ⟨e, fun x hx => ?_, ?_, fun x hx => ?_⟩
    · rcases List.mem_cons.1 hx with rfl | hx
      · exact hp.blk
      · exact h2.blk x hx
    · simp only [List.cons_append, List.nil_append, List.map_cons, List.nodup_cons]
      exact ⟨hnb, h2.nd⟩
    · rcases List.mem_cons.1 hx with rfl | hx
      · exact hp.hb
      · exact h2.own x hx)
end Go.Proofs.Ytkgoanjemhbjgaa

/- Frames of a pool cleared and given back, in parts, both sides. Conditions: none. -/
set_option linter.unusedVariables false
set_option linter.unusedSimpArgs false
namespace Go.Proofs.Ytkgoanjemhbjgaa
open Go Go.Den
abbrev poolB (b : Nat) (sm : Sl) (T : Int) (sf : Sl) : Asr := aB b ((pc sm T sf).map Ce.v)
theorem nums_set {k : IntKind} {m : List Int} {i : Nat} {x : Int} {a : Int} (h : m[i]? = some a) : (nums k m).set i ([Ce.v (.int k a)].set 0 (.v (.int k x))) = nums k (m.set i x) := by unfold nums; rw [List.map_set]; rfl
set_option maxRecDepth 8000 in
theorem s163 {w0 w : World} {b : Nat} {sm sf : Sl} {m : List Int} {T : Int} {F : List Asr} {f n : Nat} (h : SH w0 w (poolB b sm T sf :: rowM sm m :: F)) (hn256 : n = 256) (hf : f * 256 + n ≤ m.length) (hs : m.length ≤ 1048576) :
    CallW Try.prog 163 #[.pointer (some ⟨b, 0, none⟩), .int .i64 (f : Int)] w (fun v w' => v = .tuple #[] ∧ SH w0 w' (poolB b sm T sf :: rowM sm (zer m (f * 256) n) :: F)) := by
  refine go163 ?_
  unfold W163
  have hl : sm.len = m.length := by rw [h.len 1 rfl, nums_len]
  have hc := h.lenCap 1 rfl
  obtain ⟨bm, ha, _, _⟩ := h.addr 1 rfl (by omega)
  refine LoopW.m1 (fun (i : Int) w' => ∃ k : Nat, i = k ∧ k ≤ n ∧ SH w0 w' (poolB b sm T sf :: rowM sm (zer m (f * 256) k) :: F)) (fun (i : Int) _ => (256 - i).toNat) ⟨0, rfl, by omega, h⟩ ?_
  rintro (i : Int) w4 ⟨k, rfl, hk, h4⟩ J hJ
  refine BIf.dec (fun hlt => ?_) (fun hge => ?_)
  · refine ⟨_, rfl, sm, h4.cell 0 rfl rfl, ?_⟩
    have hidx : IntKind.i64.wrap (IntKind.i64.wrap ((f : Int) * 256) + (k : Int)) = ((f * 256 + k : Nat) : Int) := by rw [w64 (n := (f : Int) * 256) (by omega) (by omega), w64 (by omega) (by omega)]; omega
    rw [hidx, Int.toNat_natCast]
    have hz : (zer m (f * 256) k)[f * 256 + k]? = some _ := List.getElem?_eq_getElem (by rw [zer_len]; omega)
    refine ⟨by omega, by omega, _, ha, h4.setE0 1 rfl ha (nums_get hz) rfl (fun w7 h7 n7 => ?_)⟩
    rw [w64 (by omega) (by omega)]
    rw [nums_set hz] at h7
    exact hJ _ _ ⟨k + 1, by omega, by omega, h7⟩ (by omega)
  · have hk2 : k = n := by omega
    subst hk2
    exact ⟨rfl, h4⟩
set_option maxRecDepth 8000 in
theorem s161 {w0 w : World} {sm sf : Sl} {m : List Int} {T : Int} {F : List Asr} {f n : Nat} (h : SH w0 w (rowM sm m :: F)) (hn256 : n = 256) (hf : f * 256 + n ≤ m.length) (hs : m.length ≤ 1048576) :
    CallW Try.prog 161 #[.agg #[.slice sm.a sm.len sm.cap, .int .i64 T, .slice sf.a sf.len sf.cap], .int .i64 (f : Int)] w (fun v w' => v = .tuple #[] ∧ SH w0 w' (rowM sm (zer m (f * 256) n) :: F)) := by
  refine go161 ?_
  unfold W161
  have hl : sm.len = m.length := by rw [h.len 0 rfl, nums_len]
  have hc := h.lenCap 0 rfl
  obtain ⟨bm, ha, _, _⟩ := h.addr 0 rfl (by omega)
  refine h.alloc (fun w1 h1 e1 n1 => ?_)
  refine LoopW.m1 (fun (i : Int) w' => ∃ k : Nat, i = k ∧ k ≤ n ∧ SH w0 w' (poolB w.heap.size sm T sf :: rowM sm (zer m (f * 256) k) :: F)) (fun (i : Int) _ => (256 - i).toNat) ⟨0, rfl, by omega, h1⟩ ?_
  rintro (i : Int) w4 ⟨k, rfl, hk, h4⟩ J hJ
  refine BIf.dec (fun hlt => ?_) (fun hge => ?_)
  · refine ⟨sm, h4.cell 0 rfl rfl, ?_⟩
    have hidx : IntKind.i64.wrap (IntKind.i64.wrap ((f : Int) * 256) + (k : Int)) = ((f * 256 + k : Nat) : Int) := by rw [w64 (n := (f : Int) * 256) (by omega) (by omega), w64 (by omega) (by omega)]; omega
    rw [hidx, Int.toNat_natCast]
    have hz : (zer m (f * 256) k)[f * 256 + k]? = some _ := List.getElem?_eq_getElem (by rw [zer_len]; omega)
    refine ⟨by omega, by omega, _, ha, h4.setE0 1 rfl ha (nums_get hz) rfl (fun w7 h7 n7 => ?_)⟩
    rw [w64 (by omega) (by omega)]
    rw [nums_set hz] at h7
    exact hJ _ _ ⟨k + 1, by omega, by omega, h7⟩ (by omega)
  · have hk2 : k = n := by omega
    subst hk2
    exact ⟨rfl, h4.drop⟩
theorem s111 {w0 w : World} {sm sf : Sl} {m : List Int} {T : Int} {fr : List DBlock} {F : List Asr} {f : Nat} (h : SH w0 w (rowM sm m :: rowF sf fr :: F)) (hf : f * 256 + fz ≤ m.length) (hs : m.length ≤ 1048576) (hl : fr.length ≤ 1099511627776) :
    CallW Try.prog 111 #[.agg #[.slice sm.a sm.len sm.cap, .int .i64 T, .slice sf.a sf.len sf.cap], .int .i64 (f : Int)] w (fun v w' => ∃ t : Sl, v = .agg #[.slice sm.a sm.len sm.cap, .int .i64 (giveF T fr f 0).1, .slice t.a t.len t.cap] ∧ SH w0 w' (rowM sm (zer m (f * 256) fz) :: rowF t (giveF T fr f 0).2.1 :: F)) := by
  refine go111 ?_
  unfold W111
  refine h.alloc (fun w1 h1 e1 n1 => h1.alloc (fun w2 h2 e2 n2 => ?_))
  refine ⟨sm, h2.cell 1 rfl rfl, _, h2.cell 1 rfl rfl, sf, h2.cell 1 rfl rfl, ?_⟩
  refine (s161 (h2.front (n := 2) rfl) fz_eq hf hs).mono ?_
  rintro _ w7 ⟨rfl, h7⟩
  refine ⟨rfl, _, h7.cell 2 rfl rfl, sf, h7.cell 2 rfl rfl, ?_⟩
  refine (c146 (SH.frAt h7 3 rfl hl)).mono ?_
  rintro _ w11 ⟨t, rfl, hO, e11⟩
  have h11 := h7.seq (SH.ofOwnF e11 hO (Nat.le_refl _))
  refine ⟨_, t, _, rfl, ?_⟩
  refine h11.alloc (fun w15 h15 e15 n15 => ?_)
  refine h15.put 0 rfl rfl rfl (fun w16 h16 n16 => ?_)
  refine ⟨sm, h16.cell 4 rfl rfl, _, h16.cell 0 rfl rfl, t, h16.cell 0 rfl rfl, h16.put 3 rfl rfl rfl (fun w20 h20 n20 => ?_)⟩
  refine ⟨sm, h20.cell 3 rfl rfl, _, h20.cell 3 rfl rfl, t, h20.cell 3 rfl rfl, t, rfl, ?_⟩
  exact (((((h20.front (n := 5) rfl).drop).front (n := 4) rfl).drop).front (n := 3) rfl).drop.drop.p1
theorem s112 {w0 w : World} {b : Nat} {sm sf : Sl} {m : List Int} {T : Int} {fr : List DBlock} {F : List Asr} {f : Nat} (h : SH w0 w (poolB b sm T sf :: rowM sm m :: rowF sf fr :: F)) (hf : f * 256 + fz ≤ m.length) (hs : m.length ≤ 1048576) (hl : fr.length ≤ 1099511627776) :
    CallW Try.prog 112 #[.pointer (some ⟨b, 0, none⟩), .int .i64 (f : Int)] w (fun v w' => v = .tuple #[] ∧ ∃ t : Sl, SH w0 w' (poolB b sm (giveF T fr f 0).1 t :: rowM sm (zer m (f * 256) fz) :: rowF t (giveF T fr f 0).2.1 :: F)) := by
  refine go112 ?_
  unfold W112
  refine ⟨_, rfl, _, h.cell 0 (i := 1) rfl rfl, sf, h.cell 0 (i := 2) rfl rfl, ?_⟩
  refine (c85 (SH.frAt h 2 rfl hl)).mono ?_
  rintro _ w5 ⟨t, rfl, hO, e5⟩
  have h5 := h.seq (SH.ofOwnF e5 hO (Nat.le_refl _))
  refine ⟨_, t, _, rfl, _, rfl, h5.puts 1 (o := 1) rfl rfl (fun j hj => ?_) (fun w10 h10 n10 => ?_)⟩
  · match j, hj with
    | 0, _ => exact ⟨_, rfl⟩
    | 1, _ => exact ⟨_, rfl⟩
  have g : SH w0 w10 (poolB b sm (giveF T fr f 0).1 t :: rowM sm m :: rowF t (giveF T fr f 0).2.1 :: rowF sf fr :: F) := (h10.front (n := 1) rfl).tl (List.Perm.swap _ _ _)
  refine (s163 g fz_eq hf hs).mono ?_
  rintro _ w12 ⟨rfl, h12⟩
  exact ⟨rfl, rfl, t, (h12.front (n := 3) rfl).drop⟩
theorem s103 {w0 w : World} {b : Nat} {sm sf : Sl} {T : Int} {F : List Asr} (h : SH w0 w (poolB b sm T sf :: F)) : CallW Try.prog 103 #[.pointer (some ⟨b, 0, none⟩)] w
    (fun v w' => v = .agg #[.slice sm.a sm.len sm.cap, .int .i64 T, .slice sf.a sf.len sf.cap] ∧ SH w0 w' (poolB b sm T sf :: F)) := by
  refine go103 ?_
  unfold W103
  refine h.alloc (fun w1 h1 e1 n1 => ?_)
  have h2 := h1.drew
  refine ⟨_, rfl, sm, h2.cell 1 rfl rfl, _, rfl, _, h2.cell 1 (i := 1) rfl rfl, sf, h2.cell 1 (i := 2) rfl rfl, h2.put 0 rfl rfl rfl (fun w7 h7 n7 => ?_)⟩
  exact ⟨sm, h7.cell 0 rfl rfl, _, h7.cell 0 rfl rfl, sf, h7.cell 0 rfl rfl, rfl, h7.drop⟩
/-! ## All tables of a space given back -/
noncomputable def gv1 (p : List Int × Int × List DBlock) (f : Int) : List Int × Int × List DBlock := (zer p.1 (f.toNat * 256) fz, (giveF p.2.1 p.2.2 f 0).1, (giveF p.2.1 p.2.2 f 0).2.1)
noncomputable def gvP (p : List Int × Int × List DBlock) (S : List Int) : List Int × Int × List DBlock := S.foldl gv1 p
structure GvOk (n : Nat) (T : Int) (p : List Int × Int × List DBlock) : Prop where
  len : p.1.length = n
  tot : p.2.1 = T
  ok : FOk T p.2.2
  few : p.2.2.length ≤ 1048576
  rng : ∀ x, x ∈ p.1 → 0 ≤ x ∧ x ≤ 255
theorem gv1_ok {n : Nat} {T : Int} {p : List Int × Int × List DBlock} (h : GvOk n T p) {f : Int} (h0 : 0 ≤ f) (h1 : f < T) : GvOk n T (gv1 p f) := by
  obtain ⟨m, T', fr⟩ := p
  obtain ⟨a1, a2, a3, a4, a5⟩ := h
  simp only at a1 a2 a3 a4 a5
  subst a2
  have hb : blkOk T' f 0 = true := decide_eq_true ⟨by omega, by omega, h0, h1, by rw [show pw 0 = 1 from rfl]; omega, by rw [show pw 0 = 1 from rfl]; omega⟩
  refine ⟨by show (zer _ _ _).length = n; rw [zer_len]; exact a1, give_T a3 hb, ?_, ?_, fun x hx => zer_rng a5 _ _ x hx⟩
  · show FOk T' (giveF T' fr f 0).2.1
    unfold giveF flipF; rw [if_pos ⟨a3, hb⟩]
    split
    · exact (fine_list (by rw [setV_len, freeL_len]) a3.1 a3.2.1).1
    · exact a3
  · show (giveF T' fr f 0).2.1.length ≤ 1048576
    unfold giveF flipF; rw [if_pos ⟨a3, hb⟩]
    split
    · have := (fine_list (T := T') (l := setV true (freeL T' fr) f.toNat (2 ^ (0 : Int).toNat)) (by rw [setV_len, freeL_len]) a3.1 a3.2.1).2
      show (listF _ 0).length ≤ 1048576
      omega
    · exact a4
theorem gvP_ok {n : Nat} {T : Int} : ∀ {S : List Int} {p : List Int × Int × List DBlock}, GvOk n T p → (∀ f, f ∈ S → 0 ≤ f ∧ f < T) → GvOk n T (gvP p S)
  | [], p, h, hS => h
  | f :: r, p, h, hS => gvP_ok (S := r) (p := gv1 p f) (gv1_ok h (hS f (by simp)).1 (hS f (by simp)).2) (fun g hg => hS g (by simp [hg]))
theorem gvP_take {p : List Int × Int × List DBlock} {S : List Int} {k : Nat} {f : Int} (h : S[k]? = some f) : gvP p (S.take (k + 1)) = gv1 (gvP p (S.take k)) f := by
  unfold gvP; rw [List.take_add_one, h]; simp
/-- The tables of a space are frames of its pool. -/
theorem scanT_mem {Q : Int → Prop} {x : Int → Int} {lvl : Int} {rec : Int → List Int → Option (List Int)} (hr : ∀ t S S', rec t S = some S' → (∀ y, y ∈ S → Q y) → ∀ y, y ∈ S' → Q y) : ∀ (k : Nat) (S : List Int) (any : Bool) (S' : List Int) (any' : Bool), scanT x lvl rec k S any = some (S', any') → (∀ y, y ∈ S → Q y) → ∀ y, y ∈ S' → Q y
  | 0, S, any, S', any', h, hS => by unfold scanT at h; injection h with h; injection h with h1 h2; subst h1; exact hS
  | k + 1, S, any, S', any', h, hS => by
    unfold scanT at h
    split at h
    · exact scanT_mem hr k S any S' any' h hS
    · split at h
      · cases h
      · exact scanT_mem hr k S true S' any' h hS
      · split at h
        · cases h
        · rename_i S2 h2
          exact scanT_mem hr k S2 true S' any' h (hr _ _ _ h2 hS)
theorem tblStep_mem {m : List Int} {free : List Bool} {lvl : Nat} {rec : Int → List Int → Option (List Int)} (hr : ∀ t S S', rec t S = some S' → (∀ y, y ∈ S → 0 ≤ y ∧ y < (free.length : Int)) → ∀ y, y ∈ S' → 0 ≤ y ∧ y < (free.length : Int)) {t : Int} {S S' : List Int} (h : tblStep m free lvl rec t S = some S') (hS : ∀ y, y ∈ S → 0 ≤ y ∧ y < (free.length : Int)) : ∀ y, y ∈ S' → 0 ≤ y ∧ y < (free.length : Int) := by
  unfold tblStep at h
  split at h
  · cases h
  · rename_i hn
    split at h
    · rename_i S2 h2
      injection h with h; subst h
      refine scanT_mem hr 32 _ _ _ _ h2 (fun y hy => ?_)
      rcases List.mem_append.1 hy with hy | hy
      · exact hS y hy
      · rw [List.mem_singleton.1 hy]
        exact ⟨by by_cases hh : t < 0; exact absurd (.inl hh) hn; omega, by by_cases hh : (free.length : Int) ≤ t; exact absurd (.inr (.inl hh)) hn; omega⟩
    · cases h
theorem tblF_mem {m : List Int} {free : List Bool} : ∀ (lvl : Nat) {t : Int} {S S' : List Int}, tblF m free lvl t S = some S' → (∀ y, y ∈ S → 0 ≤ y ∧ y < (free.length : Int)) → ∀ y, y ∈ S' → 0 ≤ y ∧ y < (free.length : Int)
  | 0, t, S, S', h, hS => tblStep_mem (fun t S S' h => by cases h) h hS
  | n + 1, t, S, S', h, hS => tblStep_mem (fun t S S' h2 => tblF_mem n h2) h hS
theorem spaceT_mem {m : List Int} {T : Int} {fr : List DBlock} {root : Int} {S : List Int} (h : spaceT m T fr root = some S) : POk m T fr ∧ S.length ≤ 1057 ∧ ∀ y, y ∈ S → 0 ≤ y ∧ y < T := by
  by_cases hok : POk m T fr
  · rw [spaceT_pos hok] at h
    have hfree : ((freeL T fr).length : Int) = T := by rw [freeL_len]; have := hok.2.2.1.1; omega
    refine ⟨hok, ?_, fun y hy => by have := tblF_mem 2 h (fun y hy => by cases hy) y hy; omega⟩
    obtain ⟨a, h1, h2⟩ := tblF_adds.2.2 _ _ _ h
    rw [h1]; simpa using h2
  · rw [spaceT_neg hok] at h; cases h
end Go.Proofs.Ytkgoanjemhbjgaa

/- SpaceDrop, both sides. Conditions: none. -/
set_option linter.unusedVariables false
set_option linter.unusedSimpArgs false
namespace Go.Proofs.Ytkgoanjemhbjgaa
open Go Go.Den
/-! ## Results that are pools -/
def OutP (p : List Int × Int × List DBlock) (w : World) (v : Value) (w' : World) : Prop := ∃ tm tf : Sl, v = .agg #[.slice tm.a tm.len tm.cap, .int .i64 p.2.1, .slice tf.a tf.len tf.cap] ∧ SH w w' [rowM tm p.1, rowF tf p.2.2]
theorem blks_ceE (l : List DBlock) : Dat.ceE (l.map DBlock.dat) = recs DBlock.cells l := by
  rw [ceE_map]; unfold recs; congr 1
theorem poolD_ce (m : List Int) (T : Int) (fr : List DBlock) : (⟨m, ⟨T, fr⟩⟩ : DPool).dat.ce = [.sl 1 (nums .u8 m), .v (.int .i64 T), .sl 2 (recs DBlock.cells fr)] := by
  simp only [DPool.dat, DFrames.dat, Dat.ce, Dat.ces, ceE_nums, blks_ceE, List.cons_append, List.nil_append]
theorem poolD_fit {m : List Int} {T : Int} {fr : List DBlock} (h : POut m T fr) : (⟨m, ⟨T, fr⟩⟩ : DPool).dat.fit := by
  have hmx : maxLen = 9223372036854775807 := rfl
  obtain ⟨h1, h2, h3, h4, h5⟩ := h
  simp only [DPool.dat, DFrames.dat, Dat.fit, Dat.fits, List.length_map, fits_iff, List.mem_map]
  refine ⟨⟨by omega, ?_⟩, ⟨h4, ⟨by omega, ?_⟩, True.intro⟩, True.intro⟩
  · rintro d ⟨x, hx, rfl⟩
    exact wf_u8 (h1 x hx).1 (h1 x hx).2
  · rintro d ⟨x, hx, rfl⟩
    simp only [DBlock.dat, Dat.fit, Dat.fits]
    exact ⟨(h5 x hx).1, (h5 x hx).2, True.intro⟩
theorem SH.poolFr {w0 w : World} {tm tf : Sl} {m : List Int} {T : Int} {fr : List DBlock} {F : List Asr} (h : SH w0 w (rowM tm m :: rowF tf fr :: F)) (ho : POut m T fr) : Fr w0.heap.size w.heap.size w (⟨m, ⟨T, fr⟩⟩ : DPool).dat [.slice tm.a tm.len tm.cap, .int .i64 T, .slice tf.a tf.len tf.cap] := by
  have g1 := SH.v0 (SH.p1 h)
  have g2 := SH.vr (SH.p1 g1)
  have g3 := SH.vx (.int .i64 T) g2
  have g4 := SH.vr (SH.p1 g3)
  exact SH.fr (F := F) (by rw [poolD_ce]; exact g4) (poolD_fit ho)
theorem sh_zero {w0 w : World} {F : List Asr} (h : SH w0 w F) : SH w0 w [rowM ⟨none, 0, 0⟩ [], rowF ⟨none, 0, 0⟩ []] :=
  (SH.nil (SH.nil (SH.take h 0) none 2) none 1)
/-! ## SpaceDrop -/
noncomputable def dropF (m : List Int) (T : Int) (fr : List DBlock) (root : Int) : (List Int × Int × List DBlock) × Int :=
  match spaceT m T fr root with | none => (([], 0, []), -1) | some S => (gvP (m, T, fr) S, S.length)
theorem dropF_none {m : List Int} {T : Int} {fr : List DBlock} {root : Int} (h : spaceT m T fr root = none) : dropF m T fr root = (([], 0, []), -1) := by unfold dropF; rw [h]
theorem dropF_some {m : List Int} {T : Int} {fr : List DBlock} {root : Int} {S : List Int} (h : spaceT m T fr root = some S) : dropF m T fr root = (gvP (m, T, fr) S, (S.length : Int)) := by unfold dropF; rw [h]
theorem gvOk0 {m : List Int} {T : Int} {fr : List DBlock} (hok : POk m T fr) (hr : ∀ x, x ∈ m → 0 ≤ x ∧ x ≤ 255) (hf : fr.length ≤ 1048576) : GvOk m.length T (m, T, fr) := ⟨rfl, rfl, hok.2.2.1, hf, hr⟩
theorem POk.room {m : List Int} {T : Int} {fr : List DBlock} (hok : POk m T fr) {f : Int} (h0 : 0 ≤ f) (h1 : f < T) : f.toNat * 256 + 256 ≤ m.length ∧ m.length ≤ 1048576 := by
  have := hok.1; have := hok.2.1; have := hok.2.2.2
  omega
def DropV (r : (List Int × Int × List DBlock) × Int) (w : World) (v : Value) (w' : World) : Prop := ∃ tm tf : Sl, v = .tuple #[.agg #[.slice tm.a tm.len tm.cap, .int .i64 r.1.2.1, .slice tf.a tf.len tf.cap], .int .i64 r.2] ∧ SH w w' [rowM tm r.1.1, rowF tf r.1.2.2]
theorem s46 {sm sf : Sl} {m : List Int} {T root : Int} {fr : List DBlock} {w : World} (hm : Bytes w sm m) (hf : FrAt w sf fr) (hfew : fr.length ≤ 1048576) :
    CallW Try.prog 46 #[.agg #[.slice sm.a sm.len sm.cap, .int .i64 T, .slice sf.a sf.len sf.cap], .int .i64 root] w (DropV (dropF m T fr root) w) := by
  refine go46 ?_
  unfold W46
  have h := SH.start w
  refine h.alloc (fun w1 h1 e1 n1 => h1.alloc (fun w2 h2 e2 n2 => ?_))
  have hm2 := hm.ext h2.ext
  have hf2 := hf.ext h2.ext
  refine ⟨sm, h2.cell 1 rfl rfl, _, h2.cell 1 rfl rfl, sf, h2.cell 1 rfl rfl, (c91 hm2 hf2).mono ?_⟩
  rintro _ w7 ⟨l, rfl, e7, hS⟩
  have h7 := h2.to e7
  refine ⟨l, _, rfl, ?_⟩
  rcases hsp : spaceT m T fr root with _ | S
  · refine BIf.of (fun _ => ?_) (fun hh => by cases hh)
    refine h7.put 0 rfl rfl rfl (fun w10 h10 n10 => ?_)
    refine ⟨⟨none, 0, 0⟩, h10.cell 0 rfl rfl, _, h10.cell 0 rfl rfl, ⟨none, 0, 0⟩, h10.cell 0 rfl rfl, ?_⟩
    rw [dropF_none hsp]
    exact ⟨⟨none, 0, 0⟩, ⟨none, 0, 0⟩, rfl, sh_zero h10⟩
  · refine BIf.of (fun hh => by cases hh) (fun _ => ?_)
    obtain ⟨hok, hlen, hmem⟩ := spaceT_mem hsp
    have hO := SH.ofOwnN e7 (hS S hsp) (Nat.le_refl _)
    have h7 := h2.seq hO
    have hm7 := hm.ext h7.ext
    have hf7 := hf.ext h7.ext
    have hll : l.len = S.length := by rw [h7.len 0 rfl, nums_len]
    refine ⟨sm, h7.cell 2 rfl rfl, _, h7.cell 2 rfl rfl, sf, h7.cell 2 rfl rfl, (s101 hm7 hf7).mono ?_⟩
    rintro _ w18 ⟨tm, tf, rfl, g18⟩
    have h18 := h7.seq g18
    refine ⟨tm, _, tf, rfl, h18.alloc (fun w22 h22 e22 n22 => h22.put 0 rfl rfl rfl (fun w23 h23 n23 => ?_))⟩
    -- aB w18 :: rowM tm :: rowF tf :: l :: aB w1 :: aB w
    have hgo := gvOk0 hok hm.rng hfew
    refine LoopW.m1 (fun (i : Int) w' => ∃ (k : Nat) (t : Sl), i = k ∧ k ≤ S.length ∧ SH w w' [rowM tm (gvP (m, T, fr) (S.take k)).1, rowF t (gvP (m, T, fr) (S.take k)).2.2, poolB w18.heap.size tm (gvP (m, T, fr) (S.take k)).2.1 t, aRow l 1 (nums .i64 S), aB w1.heap.size ([Value.slice none 0 0, .int .i64 0, .slice none 0 0].map Ce.v)]) (fun (i : Int) _ => ((S.length : Int) - i).toNat) ⟨0, tf, rfl, by omega, ?_⟩ ?_
    · exact ((((h23.front (n := 5) rfl).drop).p1).tl (List.Perm.swap _ _ _))
    rintro (i : Int) w26 ⟨k, t, rfl, hk, h26⟩ J hJ
    refine BIf.dec (fun hlt => ?_) (fun hge => ?_)
    · have hkl : k < S.length := by omega
      have hx : S[k]? = some (S[k]'hkl) := List.getElem?_eq_getElem hkl
      generalize S[k]'hkl = f at hx
      have hfm := hmem f (List.mem_of_getElem? hx)
      have hg := gvP_ok (S := S.take k) hgo (fun y hy => hmem y (List.mem_of_mem_take hy))
      have h27 := h26.drew
      obtain ⟨q, hq, hqc⟩ := h27.elem0 3 rfl (nums_get hx) rfl
      have hroom := hok.room hfm.1 hfm.2
      refine ⟨tm, h27.cell 2 rfl rfl, _, h27.cell 2 rfl rfl, t, h27.cell 2 rfl rfl, by omega, by omega, q, hq, f, hqc, ?_⟩
      have hfn : f = ((f.toNat : Nat) : Int) := by omega
      rw [hfn]
      refine (s111 h27 (by rw [fz_eq, hg.len]; exact hroom.1) (by rw [hg.len]; exact hroom.2) (by have := hg.few; omega)).mono ?_
      rintro _ w33 ⟨t2, rfl, h33⟩
      refine ⟨tm, _, t2, rfl, h33.put 2 rfl rfl rfl (fun w37 h37 n37 => ?_)⟩
      rw [w64 (by omega) (by omega)]
      refine hJ _ _ ⟨k + 1, t2, by omega, by omega, ?_⟩ (by omega)
      rw [gvP_take hx]
      rw [← hfn] at h37
      exact h37
    · have hk2 : k = S.length := by omega
      subst hk2
      rw [List.take_length] at h26
      refine ⟨tm, h26.cell 2 rfl rfl, _, h26.cell 2 rfl rfl, t, h26.cell 2 rfl rfl, h26.put 4 rfl rfl rfl (fun w41 h41 n41 => ?_)⟩
      refine ⟨tm, h41.cell 4 rfl rfl, _, h41.cell 4 rfl rfl, t, h41.cell 4 rfl rfl, ?_⟩
      rw [dropF_some hsp, hll]
      exact ⟨tm, t, rfl, h41.two⟩
theorem s47 {sm sf : Sl} {m : List Int} {T root : Int} {fr : List DBlock} {w : World} (hm : Bytes w sm m) (hf : FrAt w sf fr) (hfew : fr.length ≤ 1048576) :
    CallW Try.prog 47 #[.agg #[.slice sm.a sm.len sm.cap, .int .i64 T, .slice sf.a sf.len sf.cap], .int .i64 root] w (DropV (dropF m T fr root) w) := by
  refine go47 ?_
  unfold W47
  have h := SH.start w
  refine h.alloc (fun w1 h1 e1 n1 => h1.alloc (fun w2 h2 e2 n2 => ?_))
  have hm2 := hm.ext h2.ext
  have hf2 := hf.ext h2.ext
  refine ⟨sm, h2.cell 1 rfl rfl, _, h2.cell 1 rfl rfl, sf, h2.cell 1 rfl rfl, (c94 hm2 hf2).mono ?_⟩
  rintro _ w7 ⟨b, rfl, hb, e7⟩
  have h7 := h2.to e7
  have hm7 := hm.ext h7.ext
  have hf7 := hf.ext h7.ext
  refine ⟨b, rfl, ?_⟩
  have hnone : ∀ (w9 : World), spaceT m T fr root = none → SH w w9 [aB w1.heap.size ([Value.slice none 0 0, .int .i64 0, .slice none 0 0].map Ce.v)] → MayN w9 ⟨w1.heap.size, 0, none⟩ 3 ∧ LetW (Den.puts w9 ⟨w1.heap.size, 0, none⟩ 0 [.slice none 0 0, .int .i64 0, .slice none 0 0]) fun w10 => ∃ l : Sl, w10.cell? ⟨w1.heap.size, 0, none⟩ = some (.slice l.a l.len l.cap) ∧ ∃ n : Int, w10.cell? ⟨w1.heap.size, 1, none⟩ = some (.int .i64 n) ∧ ∃ l2 : Sl, w10.cell? ⟨w1.heap.size, 2, none⟩ = some (.slice l2.a l2.len l2.cap) ∧ DropV (dropF m T fr root) w (.tuple #[.agg #[.slice l.a l.len l.cap, .int .i64 n, .slice l2.a l2.len l2.cap], .int .i64 (-1)]) w10 := by
    intro w9 hsp h9
    refine h9.put 0 rfl rfl rfl (fun w10 h10 n10 => ?_)
    refine ⟨⟨none, 0, 0⟩, h10.cell 0 rfl rfl, _, h10.cell 0 rfl rfl, ⟨none, 0, 0⟩, h10.cell 0 rfl rfl, ?_⟩
    rw [dropF_none hsp]
    exact ⟨⟨none, 0, 0⟩, ⟨none, 0, 0⟩, rfl, sh_zero h10⟩
  by_cases hok : POk m T fr
  · rw [hb.2 hok]
    refine BIf.of (fun hh => by cases hh) (fun _ => ?_)
    refine ⟨sm, h7.cell 1 rfl rfl, _, h7.cell 1 rfl rfl, sf, h7.cell 1 rfl rfl, (s95 hm7 hf7).mono ?_⟩
    rintro _ w17 ⟨bp, tm, tf, rfl, g17⟩
    have h17 := h7.seq g17
    refine ⟨_, rfl, ?_⟩
    have hmb : Bytes w17 tm m := SH.bytes h17 1 rfl hm.rng (by have := hok.2.1; omega)
    have hfb : FrAt w17 tf fr := SH.frAt h17 2 rfl (by omega)
    refine (c96 (SH.blk h17 0 rfl) hmb hfb hok).mono ?_
    rintro _ w20 ⟨l, rfl, e20, hI1, hI2⟩
    refine ⟨l, rfl, ?_⟩
    rcases hsp : spaceT m T fr root with _ | S
    · have hres : tblF m (freeL T fr) 2 root [] = none := by rw [← spaceT_pos hok]; exact hsp
      rw [hI1 hres]
      refine BIf.of (fun _ => ?_) (fun hh => by cases hh)
      rw [hsp] at hnone
      exact hnone w20 rfl ((h17.to e20).front (n := 3) rfl).one
    · have hres : tblF m (freeL T fr) 2 root [] = some S := by rw [← spaceT_pos hok]; exact hsp
      obtain ⟨hla, hOl⟩ := hI2 S hres
      obtain ⟨hok, hlen, hmem⟩ := spaceT_mem hsp
      obtain ⟨al, hal⟩ := Option.isSome_iff_exists.1 hla
      refine BIf.of (fun hh => by rw [hal] at hh; cases hh) (fun _ => ?_)
      have h20 := h17.seq (SH.ofOwnN e20 hOl (Nat.le_refl _))
      have hll : l.len = S.length := by rw [h20.len 0 rfl, nums_len]
      have hgo := gvOk0 hok hm.rng hfew
      refine LoopW.m1 (fun (i : Int) w' => ∃ (k : Nat) (t : Sl), i = k ∧ k ≤ S.length ∧ SH w w' [poolB bp tm (gvP (m, T, fr) (S.take k)).2.1 t, rowM tm (gvP (m, T, fr) (S.take k)).1, rowF t (gvP (m, T, fr) (S.take k)).2.2, aRow l 1 (nums .i64 S), aB w1.heap.size ([Value.slice none 0 0, .int .i64 0, .slice none 0 0].map Ce.v)]) (fun (i : Int) _ => ((S.length : Int) - i).toNat) ⟨0, tf, rfl, by omega, ?_⟩ ?_
      · exact (((h20.front (n := 5) rfl).drop).p3.p3.p3)
      rintro (i : Int) w26 ⟨k, t, rfl, hk, h26⟩ J hJ
      refine BIf.dec (fun hlt => ?_) (fun hge => ?_)
      · have hkl : k < S.length := by omega
        have hx : S[k]? = some (S[k]'hkl) := List.getElem?_eq_getElem hkl
        generalize S[k]'hkl = f at hx
        have hfm := hmem f (List.mem_of_getElem? hx)
        have hg := gvP_ok (S := S.take k) hgo (fun y hy => hmem y (List.mem_of_mem_take hy))
        obtain ⟨q, hq, hqc⟩ := h26.elem0 3 rfl (nums_get hx) rfl
        have hroom := hok.room hfm.1 hfm.2
        refine ⟨by omega, by omega, q, hq, f, hqc, ?_⟩
        have hfn : f = ((f.toNat : Nat) : Int) := by omega
        rw [hfn]
        refine (s112 h26 (by rw [fz_eq, hg.len]; exact hroom.1) (by rw [hg.len]; exact hroom.2) (by have := hg.few; omega)).mono ?_
        rintro _ w33 ⟨rfl, t2, h33⟩
        refine ⟨rfl, ?_⟩
        rw [w64 (by omega) (by omega)]
        refine hJ _ _ ⟨k + 1, t2, by omega, by omega, ?_⟩ (by omega)
        rw [gvP_take hx]
        rw [← hfn] at h33
        exact h33
      · have hk2 : k = S.length := by omega
        subst hk2
        rw [List.take_length] at h26
        refine (s103 h26).mono ?_
        rintro _ w34 ⟨rfl, h34⟩
        refine ⟨tm, _, t, rfl, h34.put 4 rfl rfl rfl (fun w38 h38 n38 => ?_)⟩
        refine ⟨tm, h38.cell 4 rfl rfl, _, h38.cell 4 rfl rfl, t, h38.cell 4 rfl rfl, ?_⟩
        rw [dropF_some hsp, hll]
        exact ⟨tm, t, rfl, h38.drop.two⟩
  · have hbf : b = false := by cases b; rfl; exact absurd (hb.1 rfl) hok
    subst hbf
    refine BIf.of (fun _ => ?_) (fun hh => by cases hh)
    exact hnone w7 (spaceT_neg hok) h7.one
/-! ## As the law asks it -/
noncomputable def dropP (x : DPool) (root : Int) : DPool := ⟨(dropF x.Mem x.Free.Total x.Free.Free root).1.1, ⟨(dropF x.Mem x.Free.Total x.Free.Free root).1.2.1, (dropF x.Mem x.Free.Total x.Free.Free root).1.2.2⟩⟩
noncomputable def dropN (x : DPool) (root : Int) : Int := (dropF x.Mem x.Free.Total x.Free.Free root).2
theorem GvOk.out {n : Nat} {T : Int} {p : List Int × Int × List DBlock} (h : GvOk n T p) (hn : n ≤ 2097152) : POut p.1 p.2.1 p.2.2 := by
  have hT := h.ok.1; have hT2 := h.ok.2.1
  exact ⟨h.rng, by rw [h.len]; exact hn, by have := h.few; omega, by rw [h.tot]; exact wf_i64 (by omega) (by omega), fun x hx => wf_blk (fok_mem h.ok x hx)⟩
theorem drop_out {m : List Int} {T root : Int} {fr : List DBlock} (hm : ∀ x, x ∈ m → 0 ≤ x ∧ x ≤ 255) (hl : m.length ≤ 1048576) (hf : fr.length ≤ 1048576) : POut (dropF m T fr root).1.1 (dropF m T fr root).1.2.1 (dropF m T fr root).1.2.2 ∧ -1 ≤ (dropF m T fr root).2 ∧ (dropF m T fr root).2 ≤ 2000 := by
  rcases hsp : spaceT m T fr root with _ | S
  · rw [dropF_none hsp]
    exact ⟨⟨fun x hx => absurd hx List.not_mem_nil, Nat.zero_le _, Nat.zero_le _, by decide, fun x hx => absurd hx List.not_mem_nil⟩, by show (-1 : Int) ≤ -1; omega, by show (-1 : Int) ≤ 2000; omega⟩
  · obtain ⟨hok, hlen, hmem⟩ := spaceT_mem hsp
    rw [dropF_some hsp]
    exact ⟨(gvP_ok (gvOk0 hok hm hf) hmem).out (by omega), by show (-1 : Int) ≤ (S.length : Int); omega, by show (S.length : Int) ≤ 2000; omega⟩
theorem dropP_cnt {x : DPool} {root : Int} {w : World} {cs : List Value} (h : IsD w x.dat cs) (hs : x.dat.sz ≤ 1048576) : (dropP x root).dat.cntT ≤ 8388608 := by
  obtain ⟨sm, sf, rfl, hm, hf⟩ := pool_of h hs
  have hx := pool_few hs
  have := (drop_out (T := x.Free.Total) (root := root) hm.rng hx.1 hx.2).1
  have h1 := this.2.1
  have h2 := this.2.2.1
  rw [cnt_pool]
  show (dropF x.Mem x.Free.Total x.Free.Free root).1.1.length + 2 * (dropF x.Mem x.Free.Total x.Free.Free root).1.2.2.length ≤ _
  omega
theorem drop_post {x : DPool} {root : Int} {w w' : World} {v : Value} (hm : ∀ y, y ∈ x.Mem → 0 ≤ y ∧ y ≤ 255) (hs : x.dat.sz ≤ 1048576) (h : DropV (dropF x.Mem x.Free.Total x.Free.Free root) w v w') : ∃ y, v = .tuple #[.agg ⟨y⟩, .int .i64 (dropN x root)] ∧ Fr w.heap.size w'.heap.size w' (dropP x root).dat y ∧ Ext w w' := by
  obtain ⟨tm, tf, rfl, hp⟩ := h
  have hx := pool_few hs
  exact ⟨_, rfl, SH.poolFr hp (drop_out hm hx.1 hx.2).1, hp.ext⟩
theorem specSpaceDrop {x : DPool} {root : Int} {w : World} {cs : List Value} (h : IsD w x.dat cs) (hs : x.dat.sz ≤ 1048576) : CallW Try.prog 46 #[.agg ⟨cs⟩, .int .i64 root] w (fun v w' => ∃ y, v = .tuple #[.agg ⟨y⟩, .int .i64 (dropN x root)] ∧ Fr w.heap.size w'.heap.size w' (dropP x root).dat y ∧ Ext w w') := by
  obtain ⟨sm, sf, rfl, hm, hf⟩ := pool_of h hs
  exact (s46 hm hf (pool_few hs).2).mono (fun v w' hv => drop_post hm.rng hs hv)
theorem implSpaceDrop {x : DPool} {root : Int} {w : World} {cs : List Value} (h : IsD w x.dat cs) (hs : x.dat.sz ≤ 1048576) : CallW Try.prog 47 #[.agg ⟨cs⟩, .int .i64 root] w (fun v w' => ∃ y, v = .tuple #[.agg ⟨y⟩, .int .i64 (dropN x root)] ∧ Fr w.heap.size w'.heap.size w' (dropP x root).dat y ∧ Ext w w') := by
  obtain ⟨sm, sf, rfl, hm, hf⟩ := pool_of h hs
  exact (s47 hm hf (pool_few hs).2).mono (fun v w' hv => drop_post hm.rng hs hv)
end Go.Proofs.Ytkgoanjemhbjgaa
