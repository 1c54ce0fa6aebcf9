/- Part 5 of 5: plain readings of code, rules for them, and a proof over them, joined by a program. Conditions: none. -/
import Derived.Test.YtkgoanjemhbjgaaSpUn4
import Derived.Test.YtkgoanjemhbjgaaProg
import Derived.Test.YtkgoanjemhbjgaaRows
import Derived.WalkKit
import Derived.ProofKit
import Derived.OpenShut
import Derived.ShutString
import Derived.ChangeOld
import Derived.Below
import Derived.Carry
import Derived.SizedLaws
/- The law's own functions over trees: copies, sizes, comparisons, marks; printed by a program. Conditions: none. -/
set_option linter.unusedVariables false
set_option linter.unusedSimpArgs false
set_option maxRecDepth 4000
namespace Go.Proofs.Ytkgoanjemhbjgaa
open Go Go.Den


/- markByteS -/
theorem c104 {l : List Dat} {a0 : Sl} {bs : List Nat} {k0 : Int} {w : World} (ht : ∀ e, e ∈ l → Has (.int .u8) e) (h : OwnD w (.sl 1 l) bs [.slice a0.a a0.len a0.cap]) (hn : bs.Nodup) (h0 : 1 ≤ k0) (hk : k0 + Dat.cnts l ≤ 1099511627776) : CallW Try.prog 104 #[.slice a0.a a0.len a0.cap, .int .i64 k0] w (fun v w' => v = .int .i64 (k0 + Dat.cnts l) ∧ ∃ l', l'.length = l.length ∧ Dat.cnts l' = Dat.cnts l ∧ (∀ e, e ∈ l' → Has (.int .u8) e) ∧ MarkedF TXT l' k0 ∧ OwnD w' (.sl 1 l') bs [.slice a0.a a0.len a0.cap] ∧ Only (fun k => k ∈ bs) w w') := by
  refine go104 ?_
  unfold W104
  obtain ⟨hlen, hmax⟩ := ownD_len h
  have hmx : maxLen = 9223372036854775807 := rfl
  rw [hlen]
  refine LoopW.m2 (fun (x i : Int) w' => ∃ (k : Nat) (l' : List Dat), i = k ∧ k ≤ l.length ∧ l'.length = k ∧ x = k0 + Dat.cnts l' ∧ Dat.cnts l' = Dat.cnts (l.take k) ∧ (∀ e, e ∈ l' → Has (.int .u8) e) ∧ MarkedF TXT l' k0 ∧ OwnD w' (.sl 1 (l' ++ l.drop k)) bs [.slice a0.a a0.len a0.cap] ∧ Only (fun k => k ∈ bs) w w') (fun _ (i : Int) _ => (l.length - i).toNat) ⟨0, [], rfl, by omega, rfl, by simp [Dat.cnts], by simp [Dat.cnts], fun e he => (by cases he), markedF_nil, by simpa using h, Only.refl _ _⟩ ?_
  rintro (kx : Int) (i : Int) w4 ⟨k, l', rfl, hkl, hl', hx, hcn, hty, hmk, ho, o4⟩ J hJ
  refine BIf.dec (fun hlt => ?_) (fun hge => ?_)
  · obtain ⟨d, hd⟩ : ∃ d, l[k]? = some d := ⟨_, List.getElem?_eq_getElem (by omega)⟩
    have hcg := cnts_get hd
    have hct := cnts_take hd
    have ht0 := ht d (mem_get hd)
    obtain ⟨x, rfl⟩ := has_int ht0
    simp only [Dat.cnt, Dat.cnts] at hcg hct
    obtain ⟨b, bp, b1, bq, vp, v1, vq, ha, hbs, hvp, hod, hm, hvl, hlc, _⟩ := ownD_at ho (get_app hl' hd)
    rw [(take_app hl').1, (take_app hl').2] at hm
    have hv0 := hm.len
    have hbs0 := hbs
    rw [Int.toNat_natCast, ← hvp]
    simp (disch := omega) only [w64]
    refine ⟨by omega, by omega, _, ha, ?_⟩
    obtain ⟨hmay, hm2, o5⟩ := hm.set (fun c hc he => by rw [hbs] at hn; simp only [List.nodup_cons, List.mem_append, not_or] at hn; subst he; rcases hc with hc | hc; exact hn.1.1 hc; exact hn.1.2.2 hc) (j := 0) (by omega) (.int .u8 (IntKind.wrap .u8 (kx)))
    refine ⟨hmay, LetW_iff.2 ?_⟩
    have o4 := Only.trans o4 (o5.mono (fun c _ hc => by subst hc; rw [hbs]; simp))
    have hrow := row_close (bs := bs) (a0 := a0) (d' := .int .u8 (IntKind.wrap .u8 (kx))) hm2 (bd := b1) (by obtain ⟨hb1, hc1⟩ := sc_int _ _ hod; subst hb1; obtain ⟨y, rfl⟩ : ∃ y, v1 = [y] := by { match v1, hc1 with | [y], _ => exact ⟨y, rfl⟩ }; exact own_int wf_u8w) hvp hl' (by omega) ha (by rw [hlen]) hbs (by have : (l' ++ l.drop k).length = l.length := (by simp; omega); omega) hmax hv0 hvl
    refine hJ _ _ _ ⟨k + 1, l' ++ [_], by omega, by omega, by simp; omega, ?_, ?_, has_snoc hty mk_int, markedF_snoc hmk (marked_int rfl) hx, hrow, o4⟩ (by omega)
    · rw [cnts_snoc]; simp only [Dat.cnt, Dat.cnts]; omega
    · rw [cnts_snoc, hct]; simp only [Dat.cnt, Dat.cnts]; omega
  · have hkl2 : k = l.length := by omega
    subst hkl2
    rw [List.take_length] at hcn
    rw [List.drop_length, List.append_nil, hlen] at ho
    exact ⟨by rw [hx, hcn], l', hl', hcn, hty, hmk, ho, o4⟩

/- markBlockS -/
theorem c164 {l : List Dat} {a0 : Sl} {bs : List Nat} {k0 : Int} {w : World} (ht : ∀ e, e ∈ l → Has TyBlock e) (h : OwnD w (.sl 2 l) bs [.slice a0.a a0.len a0.cap]) (hn : bs.Nodup) (h0 : 1 ≤ k0) (hk : k0 + Dat.cnts l ≤ 1099511627776) : CallW Try.prog 164 #[.slice a0.a a0.len a0.cap, .int .i64 k0] w (fun v w' => v = .int .i64 (k0 + Dat.cnts l) ∧ ∃ l', l'.length = l.length ∧ Dat.cnts l' = Dat.cnts l ∧ (∀ e, e ∈ l' → Has TyBlock e) ∧ MarkedF TXT l' k0 ∧ OwnD w' (.sl 2 l') bs [.slice a0.a a0.len a0.cap] ∧ Only (fun k => k ∈ bs) w w') := by
  refine go164 ?_
  unfold W164
  obtain ⟨hlen, hmax⟩ := ownD_len h
  have hmx : maxLen = 9223372036854775807 := rfl
  rw [hlen]
  refine LoopW.m2 (fun (x i : Int) w' => ∃ (k : Nat) (l' : List Dat), i = k ∧ k ≤ l.length ∧ l'.length = k ∧ x = k0 + Dat.cnts l' ∧ Dat.cnts l' = Dat.cnts (l.take k) ∧ (∀ e, e ∈ l' → Has TyBlock e) ∧ MarkedF TXT l' k0 ∧ OwnD w' (.sl 2 (l' ++ l.drop k)) bs [.slice a0.a a0.len a0.cap] ∧ Only (fun k => k ∈ bs) w w') (fun _ (i : Int) _ => (l.length - i).toNat) ⟨0, [], rfl, by omega, rfl, by simp [Dat.cnts], by simp [Dat.cnts], fun e he => (by cases he), markedF_nil, by simpa using h, Only.refl _ _⟩ ?_
  rintro (kx : Int) (i : Int) w4 ⟨k, l', rfl, hkl, hl', hx, hcn, hty, hmk, ho, o4⟩ J hJ
  refine BIf.dec (fun hlt => ?_) (fun hge => ?_)
  · obtain ⟨d, hd⟩ : ∃ d, l[k]? = some d := ⟨_, List.getElem?_eq_getElem (by omega)⟩
    have hcg := cnts_get hd
    have hct := cnts_take hd
    have ht0 := ht d (mem_get hd)
    obtain ⟨x_0, x_1, rfl⟩ := has_Block ht0
    simp only [Dat.cnt, Dat.cnts] at hcg hct
    obtain ⟨b, bp, b1, bq, vp, v1, vq, ha, hbs, hvp, hod, hm, hvl, hlc, _⟩ := ownD_at ho (get_app hl' hd)
    rw [(take_app hl').1, (take_app hl').2] at hm
    have hv0 := hm.len
    have hbs0 := hbs
    rw [Int.toNat_natCast, ← hvp]
    simp (disch := omega) only [w64]
    have hbs : bs = b :: (bp ++ (([] ++ b1) ++ bq)) := hbs
    have me : ME w4 b 2 l' (l.drop (k + 1)) bp bq vp vq [] _ [] b1 [] v1 := ⟨hm, by unfold OwnF; exact ⟨rfl, rfl⟩, ownD_st hod, by rw [← hbs]; exact hn⟩
    refine ⟨by omega, by omega, _, ha, ?_⟩
    refine me.sc (d' := .int .i64 (kx)) sc_int (fun w => own_int (wf_i64 (by omega) (by omega))) rfl (fun w5 cr5 o5 me => ?_)
    have o4 := Only.trans o4 (o5.mono (fun c _ hc => by subst hc; rw [hbs]; simp))
    refine ⟨by omega, by omega, _, ha, ?_⟩
    refine me.sc (d' := .int .i64 (kx + 1)) sc_int (fun w => own_int (wf_i64 (by omega) (by omega))) rfl (fun w6 cr6 o6 me => ?_)
    have o4 := Only.trans o4 (o6.mono (fun c _ hc => by subst hc; rw [hbs]; simp))
    obtain ⟨hm2, hod2, hbr⟩ := me.fin
    subst hbr
    have hrow := row_close (bs := bs) (a0 := a0) hm2 hod2 hvp hl' (by omega) ha (by rw [hlen]) (by rw [hbs, List.append_nil]) (by have : (l' ++ l.drop k).length = l.length := (by simp; omega); omega) hmax hv0 hvl
    have hmkd : Marked TXT (.st [.int .i64 (kx), .int .i64 (kx + 1)]) kx := marked_st (markedF_cons (k := kx) (k' := kx + 1) (marked_int (by rw [w64 (by omega) (by omega)])) (markedF_cons (k := kx + 1) (k' := kx + 1 + 1) (marked_int (by rw [w64 (by omega) (by omega)])) (markedF_nil (k := kx + 1 + 1)) (by simp only [Dat.cnt]; omega)) (by simp only [Dat.cnt]; omega))
    have hhas : Has TyBlock (.st [.int .i64 (kx), .int .i64 (kx + 1)]) := mk_st (mkF_cons mk_int (mkF_cons mk_int (mkF_nil)))
    refine hJ _ _ _ ⟨k + 1, l' ++ [_], by omega, by omega, by simp; omega, ?_, ?_, has_snoc hty hhas, markedF_snoc hmk hmkd hx, hrow, o4⟩ (by omega)
    · rw [cnts_snoc]; simp only [Dat.cnt, Dat.cnts]; omega
    · rw [cnts_snoc, hct]; simp only [Dat.cnt, Dat.cnts]; omega
  · have hkl2 : k = l.length := by omega
    subst hkl2
    rw [List.take_length] at hcn
    rw [List.drop_length, List.append_nil, hlen] at ho
    exact ⟨by rw [hx, hcn], l', hl', hcn, hty, hmk, ho, o4⟩

/- markFrames -/
theorem c105 {d : Dat} {cs : List Value} {bs : List Nat} {k0 : Int} {w : World} (ht : Has TyFrames d) (h : OwnD w d bs cs) (hn : bs.Nodup) (h0 : 1 ≤ k0) (hk : k0 + d.cntT ≤ 1099511627776) : CallW Try.prog 105 #[.agg ⟨cs⟩, .int .i64 k0] w (fun v w' => v = .int .i64 (k0 + d.cntT) ∧ ∃ d', d'.cntT = d.cntT ∧ Has TyFrames d' ∧ MarkedT TXT d' k0 ∧ OwnD w' d' bs cs ∧ Only (fun k => k ∈ bs) w w') := by
 obtain ⟨x_0, l_1, rfl, t_1⟩ := has_Frames ht
 simp only [Dat.cntT, Dat.cntTs] at hk
 have f_ := ownD_st h
 obtain ⟨b_0, r_0, c_0, u_0, rfl, rfl, h_0, f_0⟩ := ownF_cons f_
 obtain ⟨b_1, r_1, c_1, u_1, rfl, rfl, h_1, f_1⟩ := ownF_cons f_0
 obtain ⟨rfl, rfl⟩ := ownF_nil f_1
 obtain ⟨rfl, rfl, wo_0⟩ := ownD_i h_0
 obtain ⟨s_1, rfl⟩ := ownD_sl_s h_1
 have nd0 := (List.nodup_append.1 hn).1
 have dj0 := (List.nodup_append.1 hn).2.2
 have hn0 := (List.nodup_append.1 hn).2.1
 have nd1 := (List.nodup_append.1 hn0).1
 have dj1 := (List.nodup_append.1 hn0).2.2
 have hn1 := (List.nodup_append.1 hn0).2.1
 have lt1 := OwnD.lt _ _ _ h_1
 show CallW Try.prog 105 #[.agg #[.int .i64 x_0, .slice s_1.a s_1.len s_1.cap], .int .i64 k0] w _
 refine go105 ?_
 unfold W105
 refine alloc_step (fun w1 e1 hb n1 => ?_)
 have o_1 := OwnD.only e1 _ _ _ (fun _ _ x => x) h_1
 have ot : Only (fun k => k ∈ b_1) w w1 := Ext.any e1
 refine ⟨s_1, hb.cell 1, (c164 t_1 o_1 nd1 (by omega) (by omega)).mono ?_⟩
 rintro _ w3 ⟨rfl, m_1, _, cn_1, hs_1, mk_1, ow_1, oo⟩
 refine ⟨_, rfl, ?_⟩
 have hb := hb.only oo (fun hk => by have := lt1 _ hk; omega)
 have ot := Only.trans ot (oo.mono (fun c _ hc => by (try simp only [List.mem_append, List.not_mem_nil, or_false, false_or] at hc); (try simp only [List.mem_append, List.not_mem_nil, or_false, false_or]); first | (simp [hc]; done) | (rcases hc with hc | hc <;> simp [hc]; done) | (rcases hc with hc | hc | hc <;> simp [hc])))
 refine ⟨by congr 1; simp only [Dat.cntT, Dat.cntTs]; omega, .st [.int .i64 x_0, .sl 2 m_1], by simp only [Dat.cntT, Dat.cntTs]; omega, mk_st (mkF_cons mk_int (mkF_cons (mk_sl hs_1) (mkF_nil))), markedT_st (markedTF_cons (k' := k0) markedT_int (markedTF_cons (k' := k0 + (Dat.cnts l_1 : Nat)) (marked_slT mk_1) (markedTF_nil) (by simp only [Dat.cntT, Dat.cntTs] at *; omega)) (by simp only [Dat.cntT]; omega)), ownD_mkSt (ownF_mk (own_int wo_0) (ownF_mk ow_1 (ownF_mk0))), ot.mono (fun c _ hc => by (try simp only [List.mem_append, List.not_mem_nil, or_false, false_or] at hc); (try simp only [List.mem_append, List.not_mem_nil, or_false, false_or]); first | (simp [hc]; done) | (rcases hc with hc | hc <;> simp [hc]; done) | (rcases hc with hc | hc | hc <;> simp [hc]))⟩

/- markPool -/
theorem c39 {d : Dat} {cs : List Value} {bs : List Nat} {k0 : Int} {w : World} (ht : Has TyPool d) (h : OwnD w d bs cs) (hn : bs.Nodup) (h0 : 1 ≤ k0) (hk : k0 + d.cntT ≤ 1099511627776) : CallW Try.prog 39 #[.agg ⟨cs⟩, .int .i64 k0] w (fun v w' => v = .int .i64 (k0 + d.cntT) ∧ ∃ d', d'.cntT = d.cntT ∧ Has TyPool d' ∧ MarkedT TXT d' k0 ∧ OwnD w' d' bs cs ∧ Only (fun k => k ∈ bs) w w') := by
 obtain ⟨l_0, x_1_0, l_1_1, rfl, t_0, h_1k, t_1_1⟩ := has_Pool ht
 simp only [Dat.cntT, Dat.cntTs] at hk
 have f_ := ownD_st h
 obtain ⟨b_0, r_0, c_0, u_0, rfl, rfl, h_0, f_0⟩ := ownF_cons f_
 obtain ⟨b_1, r_1, c_1, u_1, rfl, rfl, h_1, f_1⟩ := ownF_cons f_0
 obtain ⟨rfl, rfl⟩ := ownF_nil f_1
 obtain ⟨s_0, rfl⟩ := ownD_sl_s h_0
 have f_1 := ownD_st h_1
 obtain ⟨b_1_0, r_1_0, c_1_0, u_1_0, rfl, rfl, h_1_0, f_1_0⟩ := ownF_cons f_1
 obtain ⟨b_1_1, r_1_1, c_1_1, u_1_1, rfl, rfl, h_1_1, f_1_1⟩ := ownF_cons f_1_0
 obtain ⟨rfl, rfl⟩ := ownF_nil f_1_1
 obtain ⟨rfl, rfl, wo_1_0⟩ := ownD_i h_1_0
 obtain ⟨s_1_1, rfl⟩ := ownD_sl_s h_1_1
 have nd0 := (List.nodup_append.1 hn).1
 have dj0 := (List.nodup_append.1 hn).2.2
 have hn0 := (List.nodup_append.1 hn).2.1
 have nd1 := (List.nodup_append.1 hn0).1
 have dj1 := (List.nodup_append.1 hn0).2.2
 have hn1 := (List.nodup_append.1 hn0).2.1
 have lt0 := OwnD.lt _ _ _ h_0
 have lt1 := OwnD.lt _ _ _ h_1
 show CallW Try.prog 39 #[.agg #[.slice s_0.a s_0.len s_0.cap, .int .i64 x_1_0, .slice s_1_1.a s_1_1.len s_1_1.cap], .int .i64 k0] w _
 refine go39 ?_
 unfold W39
 refine alloc_step (fun w1 e1 hb n1 => ?_)
 have o_0 := OwnD.only e1 _ _ _ (fun _ _ x => x) h_0
 have o_1 := OwnD.only e1 _ _ _ (fun _ _ x => x) h_1
 have ot : Only (fun k => k ∈ b_0 ∨ k ∈ ([] ++ (b_1_1 ++ []))) w w1 := Ext.any e1
 refine ⟨s_0, hb.cell 0, (c104 t_0 o_0 nd0 (by omega) (by omega)).mono ?_⟩
 rintro _ w2 ⟨rfl, m_0, _, cn_0, hs_0, mk_0, ow_0, oo⟩
 refine ⟨_, rfl, ?_⟩
 have hb := hb.only oo (fun hk => by have := lt0 _ hk; omega)
 have ot := Only.trans ot (oo.mono (fun c _ hc => by (try simp only [List.mem_append, List.not_mem_nil, or_false, false_or] at hc); (try simp only [List.mem_append, List.not_mem_nil, or_false, false_or]); first | (simp [hc]; done) | (rcases hc with hc | hc <;> simp [hc]; done) | (rcases hc with hc | hc | hc <;> simp [hc])))
 have o_1 := OwnD.only oo _ _ _ (fun c hc hd => dj0 c hd c (by (try simp only [List.mem_append, List.not_mem_nil, or_false, false_or] at hc); (try simp only [List.mem_append, List.not_mem_nil, or_false, false_or]); first | (simp [hc]; done) | (rcases hc with hc | hc <;> simp [hc]; done) | (rcases hc with hc | hc | hc <;> simp [hc])) rfl) o_1
 refine ⟨_, hb.cell 1, s_1_1, hb.cell 2, (c105 (d := .st [.int .i64 x_1_0, .sl 2 l_1_1]) h_1k o_1 nd1 (by omega) (by simp only [Dat.cntT, Dat.cntTs]; omega)).mono ?_⟩
 rintro _ w3 ⟨rfl, m_1, cn_1, hs_1, mk_1, ow_1, oo⟩
 simp only [Dat.cntT, Dat.cntTs] at cn_1
 refine ⟨_, rfl, ?_⟩
 have hb := hb.only oo (fun hk => by have := lt1 _ hk; omega)
 have ot := Only.trans ot (oo.mono (fun c _ hc => by (try simp only [List.mem_append, List.not_mem_nil, or_false, false_or] at hc); (try simp only [List.mem_append, List.not_mem_nil, or_false, false_or]); first | (simp [hc]; done) | (rcases hc with hc | hc <;> simp [hc]; done) | (rcases hc with hc | hc | hc <;> simp [hc])))
 have ow_0 := OwnD.only oo _ _ _ (fun c hc hd => dj0 c hc c (by (try simp only [List.mem_append, List.not_mem_nil, or_false, false_or] at hd); (try simp only [List.mem_append, List.not_mem_nil, or_false, false_or]); first | (simp [hd]; done) | (rcases hd with hd | hd <;> simp [hd]; done) | (rcases hd with hd | hd | hd <;> simp [hd])) rfl) ow_0
 refine ⟨by congr 1; simp only [Dat.cntT, Dat.cntTs]; omega, .st [.sl 1 m_0, m_1], by simp only [Dat.cntT, Dat.cntTs]; omega, mk_st (mkF_cons (mk_sl hs_0) (mkF_cons hs_1 (mkF_nil))), markedT_st (markedTF_cons (k' := k0 + (Dat.cnts l_0 : Nat)) (marked_slT mk_0) (markedTF_cons (k' := k0 + (Dat.cnts l_0 : Nat) + ((Dat.st [.int .i64 x_1_0, .sl 2 l_1_1]).cntT : Nat)) (mk_1) (markedTF_nil) (by simp only [Dat.cntT, Dat.cntTs] at *; omega)) (by simp only [Dat.cntT, Dat.cntTs] at *; omega)), ownD_mkSt (ownF_mk ow_0 (ownF_mk ow_1 (ownF_mk0))), ot.mono (fun c _ hc => by (try simp only [List.mem_append, List.not_mem_nil, or_false, false_or] at hc); (try simp only [List.mem_append, List.not_mem_nil, or_false, false_or]); first | (simp [hc]; done) | (rcases hc with hc | hc <;> simp [hc]; done) | (rcases hc with hc | hc | hc <;> simp [hc]))⟩

/- heldByteS -/
theorem c106 {l : List Dat} {a0 : Sl} {k0 : Int} {w : World} (ht : ∀ e, e ∈ l → Has (.int .u8) e) (h : IsD w (.sl 1 l) [.slice a0.a a0.len a0.cap]) (hm : MarkedF TXT l k0) (h0 : 1 ≤ k0) (hk : k0 + Dat.cnts l ≤ 1099511627776) : CallW Try.prog 106 #[.slice a0.a a0.len a0.cap, .int .i64 k0] w (fun v w' => v = .int .i64 (k0 + Dat.cnts l) ∧ Ext w w') := by
  refine go106 ?_
  unfold W106
  obtain ⟨hlen, hmax, _⟩ := isD_sl h
  have hmx : maxLen = 9223372036854775807 := rfl
  rw [hlen]
  refine LoopW.m2 (fun (x i : Int) w' => ∃ k : Nat, i = k ∧ k ≤ l.length ∧ x = k0 + Dat.cnts (l.take k) ∧ Ext w w') (fun _ (i : Int) _ => (l.length - i).toNat) ⟨0, rfl, by omega, by simp [Dat.cnts], Only.refl _ _⟩ ?_
  rintro (kx : Int) (i : Int) w4 ⟨k, rfl, hkl, hx, e4⟩ J hJ
  refine BIf.dec (fun hlt => ?_) (fun hge => ?_)
  · obtain ⟨d, hd⟩ : ∃ d, l[k]? = some d := ⟨_, List.getElem?_eq_getElem (by omega)⟩
    have hcg := cnts_get hd
    have hct := cnts_take hd
    have hmd := markedF_get hm hd
    rw [← hx] at hmd
    have ht0 := ht d (mem_get hd)
    obtain ⟨p, es, hp, he, hc, his⟩ := isD_at (IsD.ext e4 _ _ h) hd
    obtain ⟨x, rfl⟩ := has_int ht0
    obtain ⟨rfl, ws⟩ := isD_int his
    simp only [Dat.cnt, Dat.cnts] at hcg hct
    simp only [Marked, MarkedF, Dat.cnt, Dat.cnts] at hmd
    have m := hmd
    try simp (disch := omega) only [w64]
    refine ⟨by omega, by omega, p, hp, _, hc 0 _ rfl, BIf.f (by rw [m]; first | (simp; done) | (simp; congr 1; omega)) ?_⟩
    exact hJ _ _ _ ⟨k + 1, by omega, by omega, by rw [hct]; omega, e4⟩ (by omega)
  · rw [List.take_of_length_le (by omega)] at hx
    exact ⟨by rw [hx], e4⟩

/- heldBlockS -/
theorem c165 {l : List Dat} {a0 : Sl} {k0 : Int} {w : World} (ht : ∀ e, e ∈ l → Has TyBlock e) (h : IsD w (.sl 2 l) [.slice a0.a a0.len a0.cap]) (hm : MarkedF TXT l k0) (h0 : 1 ≤ k0) (hk : k0 + Dat.cnts l ≤ 1099511627776) : CallW Try.prog 165 #[.slice a0.a a0.len a0.cap, .int .i64 k0] w (fun v w' => v = .int .i64 (k0 + Dat.cnts l) ∧ Ext w w') := by
  refine go165 ?_
  unfold W165
  obtain ⟨hlen, hmax, _⟩ := isD_sl h
  have hmx : maxLen = 9223372036854775807 := rfl
  rw [hlen]
  refine LoopW.m2 (fun (x i : Int) w' => ∃ k : Nat, i = k ∧ k ≤ l.length ∧ x = k0 + Dat.cnts (l.take k) ∧ Ext w w') (fun _ (i : Int) _ => (l.length - i).toNat) ⟨0, rfl, by omega, by simp [Dat.cnts], Only.refl _ _⟩ ?_
  rintro (kx : Int) (i : Int) w4 ⟨k, rfl, hkl, hx, e4⟩ J hJ
  refine BIf.dec (fun hlt => ?_) (fun hge => ?_)
  · obtain ⟨d, hd⟩ : ∃ d, l[k]? = some d := ⟨_, List.getElem?_eq_getElem (by omega)⟩
    have hcg := cnts_get hd
    have hct := cnts_take hd
    have hmd := markedF_get hm hd
    rw [← hx] at hmd
    have ht0 := ht d (mem_get hd)
    obtain ⟨p, es, hp, he, hc, his⟩ := isD_at (IsD.ext e4 _ _ h) hd
    obtain ⟨x_0, x_1, rfl⟩ := has_Block ht0
    obtain ⟨rfl, ws_0, ws_1⟩ := cells_Block his
    simp only [Dat.cnt, Dat.cnts] at hcg hct
    simp only [Marked, MarkedF, Dat.cnt, Dat.cnts] at hmd
    obtain ⟨m_0, m_1, _⟩ := hmd
    try simp (disch := omega) only [w64]
    refine ⟨by omega, by omega, p, hp, _, hc 0 _ rfl, BIf.f (by rw [m_0, w64 (by omega) (by omega)]; first | (simp; done) | (simp; omega)) ?_⟩
    refine ⟨by omega, by omega, p, hp, _, hc 1 _ rfl, BIf.f (by rw [m_1, w64 (by omega) (by omega)]; first | (simp; done) | (simp; omega)) ?_⟩
    exact hJ _ _ _ ⟨k + 1, by omega, by omega, by rw [hct]; omega, e4⟩ (by omega)
  · rw [List.take_of_length_le (by omega)] at hx
    exact ⟨by rw [hx], e4⟩

/- heldFrames -/
theorem c107 {d : Dat} {cs : List Value} {k0 : Int} {w : World} (ht : Has TyFrames d) (h : IsD w d cs) (hm : MarkedT TXT d k0) (h0 : 1 ≤ k0) (hk : k0 + d.cntT ≤ 1099511627776) : CallW Try.prog 107 #[.agg ⟨cs⟩, .int .i64 k0] w (fun v w' => v = .int .i64 (k0 + d.cntT) ∧ Ext w w') := by
 obtain ⟨x_0, l_1, rfl, t_1⟩ := has_Frames ht
 obtain ⟨s_1, rfl, ws_0, is_1⟩ := cells_Frames h
 simp only [Dat.cntT, Dat.cntTs] at hk
 simp only [MarkedT, MarkedTF, Dat.cntT, Dat.cntTs] at hm
 obtain ⟨_, m_1, _⟩ := hm
 refine go107 ?_
 unfold W107
 refine alloc_step (fun w1 e hb n1 => ?_)
 refine ⟨s_1, hb.cell 1, (c165 (k0 := k0) t_1 (IsD.ext e _ _ is_1) (markedF_at m_1 (by omega)) (by omega) (by omega)).mono ?_⟩
 rintro _ w3 ⟨rfl, e3⟩
 have hb := hb.ext e3
 have e := Only.trans e e3
 refine ⟨_, rfl, BIf.f (decide_eq_false (by omega)) ?_⟩
 exact ⟨by congr 1; simp only [Dat.cntT, Dat.cntTs]; omega, e⟩

/- heldPool -/
theorem c40 {d : Dat} {cs : List Value} {k0 : Int} {w : World} (ht : Has TyPool d) (h : IsD w d cs) (hm : MarkedT TXT d k0) (h0 : 1 ≤ k0) (hk : k0 + d.cntT ≤ 1099511627776) : CallW Try.prog 40 #[.agg ⟨cs⟩, .int .i64 k0] w (fun v w' => v = .int .i64 (k0 + d.cntT) ∧ Ext w w') := by
 obtain ⟨l_0, x_1_0, l_1_1, rfl, t_0, h_1k, t_1_1⟩ := has_Pool ht
 obtain ⟨s_0, s_1_1, rfl, is_0, is_1, ws_1_0, is_1_1⟩ := cells_Pool h
 simp only [Dat.cntT, Dat.cntTs] at hk
 simp only [MarkedT, MarkedTF, Dat.cntT, Dat.cntTs] at hm
 obtain ⟨m_0, m_1, _⟩ := hm
 refine go40 ?_
 unfold W40
 refine alloc_step (fun w1 e hb n1 => ?_)
 refine ⟨s_0, hb.cell 0, (c106 (k0 := k0) t_0 (IsD.ext e _ _ is_0) (markedF_at m_0 (by omega)) (by omega) (by omega)).mono ?_⟩
 rintro _ w2 ⟨rfl, e2⟩
 have hb := hb.ext e2
 have e := Only.trans e e2
 refine ⟨_, rfl, BIf.f (decide_eq_false (by omega)) ?_⟩
 refine ⟨_, hb.cell 1, s_1_1, hb.cell 2, (c107 (d := .st [.int .i64 x_1_0, .sl 2 l_1_1]) (k0 := k0 + (Dat.cnts l_0 : Nat)) h_1k (IsD.ext e _ _ is_1) (markedT_at (by simp only [MarkedT, MarkedTF, Dat.cntT, Dat.cntTs]; exact m_1) (by omega)) (by omega) (by simp only [Dat.cntT, Dat.cntTs]; omega)).mono ?_⟩
 rintro _ w3 ⟨rfl, e3⟩
 have hb := hb.ext e3
 have e := Only.trans e e3
 refine ⟨_, rfl, BIf.f (decide_eq_false (by omega)) ?_⟩
 exact ⟨by congr 1; simp only [Dat.cntT, Dat.cntTs]; omega, e⟩

end Go.Proofs.Ytkgoanjemhbjgaa

/- Pools as memory in parts: copies, frames cleared and given back, both sides. Conditions: none. -/
set_option linter.unusedVariables false
set_option linter.unusedSimpArgs false
namespace Go.Proofs.Ytkgoanjemhbjgaa
open Go Go.Den
abbrev rowM (s : Sl) (m : List Int) : Asr := aRow s 1 (nums .u8 m)
abbrev rowF (s : Sl) (fr : List DBlock) : Asr := aRow s 2 (recs DBlock.cells fr)
def pc (sm : Sl) (T : Int) (sf : Sl) : List Value := [.slice sm.a sm.len sm.cap, .int .i64 T, .slice sf.a sf.len sf.cap]
theorem recs_flat (fr : List DBlock) : (fr.map DBlock.cells).flatten = fr.flatMap DBlock.cells := (List.flatMap_def ..).symm
/-- Two rows of one's own, apart from one another. -/
theorem SH.ofOwn2H {w0 w : World} {b0 : Nat} {sm sf : Sl} {m : List Int} {fr : List DBlock} (e : Ext w0 w) (h1 : OwnS w b0 sm 1 (m.map (Value.int .u8))) (h2 : OwnS w b0 sf 2 (fr.flatMap DBlock.cells)) (hb : w0.heap.size ≤ b0) (hmf : ∀ q, 0 < sm.cap → sm.a = some ⟨q, 0, none⟩ → Apart sf q) :
    ∃ H, All [rowM sm m, rowF sf fr] H ∧ Sat w0 w H ∧ ∀ x, x ∈ H → (0 < sm.cap ∧ sm.a = some ⟨x.1, 0, none⟩) ∨ (0 < sf.cap ∧ sf.a = some ⟨x.1, 0, none⟩) := by
  have hl1 := h1.len
  have hl2 := h2.len
  rw [List.length_map, Nat.mul_one] at hl1
  rw [flatMap_length DBlock.cells 2 (fun _ => rfl)] at hl2
  have hl2' : fr.length = sf.len := by omega
  have hM : ∃ H1 : HL, rowM sm m H1 ∧ ((H1 = []) ∨ ∃ b cs, sm.a = some ⟨b, 0, none⟩ ∧ 0 < sm.cap ∧ b0 ≤ b ∧ H1 = [(b, .c cs)] ∧ Blk w b cs) := by
    rcases Nat.eq_zero_or_pos sm.cap with h0 | h0
    · have hle : sm.len ≤ sm.cap := OwnS.capLe h1
      exact ⟨[], ⟨by rw [nums_len]; omega, by omega, .inl ⟨h0, rfl⟩⟩, .inl rfl⟩
    · obtain ⟨_, ⟨h3, h4⟩ | ⟨b, cs, ha, h3, h4, h5, h6, h7⟩⟩ := h1
      · omega
      · refine ⟨[(b, .c cs)], ⟨by rw [nums_len]; omega, h6, .inr ⟨b, cs, [], ha, rfl, h5, ?_⟩⟩, .inr ⟨b, cs, ha, h0, h3, rfl, h4⟩⟩
        have := TE.raw (z := 1) (m.map (fun x => [Value.int .u8 x])) (fun y hy => by obtain ⟨x, _, rfl⟩ := List.mem_map.1 hy; rfl) (cs.drop (sm.len * 1))
        rw [show (m.map (fun x => [Value.int .u8 x])).flatten = m.map (Value.int .u8) by rw [show m.map (fun x => [Value.int .u8 x]) = (m.map (Value.int .u8)).map (fun x => [x]) by rw [List.map_map]; rfl, flat_one], ← h7, List.take_append_drop] at this
        rw [nums_raw]; exact this
  have hF : ∃ H2 : HL, rowF sf fr H2 ∧ ((H2 = []) ∨ ∃ b cs, sf.a = some ⟨b, 0, none⟩ ∧ 0 < sf.cap ∧ b0 ≤ b ∧ H2 = [(b, .c cs)] ∧ Blk w b cs) := by
    rcases Nat.eq_zero_or_pos sf.cap with h0 | h0
    · have hle : sf.len ≤ sf.cap := OwnS.capLe h2
      exact ⟨[], ⟨by rw [recs_len]; omega, by omega, .inl ⟨h0, rfl⟩⟩, .inl rfl⟩
    · obtain ⟨_, ⟨h3, h4⟩ | ⟨b, cs, ha, h3, h4, h5, h6, h7⟩⟩ := h2
      · omega
      · refine ⟨[(b, .c cs)], ⟨by rw [recs_len]; omega, h6, .inr ⟨b, cs, [], ha, rfl, h5, ?_⟩⟩, .inr ⟨b, cs, ha, h0, h3, rfl, h4⟩⟩
        have := TE.raw (z := 2) (fr.map DBlock.cells) (fun y hy => by obtain ⟨x, _, rfl⟩ := List.mem_map.1 hy; rfl) (cs.drop (sf.len * 2))
        rw [recs_flat, ← h7, List.take_append_drop] at this
        rw [recs_raw]; exact this
  obtain ⟨H1, hA, hH1⟩ := hM
  obtain ⟨H2, hB, hH2⟩ := hF
  refine ⟨H1 ++ (H2 ++ []), ⟨H1, _, rfl, hA, H2, [], rfl, hB, rfl⟩, ⟨e, fun x hx => ?_, ?_, fun x hx => ?_⟩, fun x hx => ?_⟩
  · simp only [List.append_nil, List.mem_append] at hx
    rcases hx with hx | hx
    · rcases hH1 with rfl | ⟨b, cs, _, _, _, rfl, hbl⟩
      · cases hx
      · rw [List.mem_singleton.1 hx]; exact hbl
    · rcases hH2 with rfl | ⟨b, cs, _, _, _, rfl, hbl⟩
      · cases hx
      · rw [List.mem_singleton.1 hx]; exact hbl
  · rcases hH1 with rfl | ⟨b, cs, ha, hc, _, rfl, _⟩ <;> rcases hH2 with rfl | ⟨b', cs', ha', hc', _, rfl, _⟩
    · simp
    · simp
    · simp
    · have := hmf b hc ha hc'
      have hne : b ≠ b' := fun hh => this (by rw [ha', hh])
      simp [hne]
  · simp only [List.append_nil, List.mem_append] at hx
    rcases hx with hx | hx
    · rcases hH1 with rfl | ⟨b, cs, _, _, hb0, rfl, _⟩
      · cases hx
      · rw [List.mem_singleton.1 hx]; show _ ≤ b; omega
    · rcases hH2 with rfl | ⟨b, cs, _, _, hb0, rfl, _⟩
      · cases hx
      · rw [List.mem_singleton.1 hx]; show _ ≤ b; omega
  · simp only [List.append_nil, List.mem_append] at hx
    rcases hx with hx | hx
    · rcases hH1 with rfl | ⟨b, cs, ha, hc, hb0, rfl, _⟩
      · cases hx
      · rw [List.mem_singleton.1 hx]; exact .inl ⟨hc, ha⟩
    · rcases hH2 with rfl | ⟨b, cs, ha, hc, hb0, rfl, _⟩
      · cases hx
      · rw [List.mem_singleton.1 hx]; exact .inr ⟨hc, ha⟩
theorem SH.ofOwn2 {w0 w : World} {b0 : Nat} {sm sf : Sl} {m : List Int} {fr : List DBlock} (e : Ext w0 w) (h1 : OwnS w b0 sm 1 (m.map (Value.int .u8))) (h2 : OwnS w b0 sf 2 (fr.flatMap DBlock.cells)) (hb : w0.heap.size ≤ b0) (hmf : ∀ q, 0 < sm.cap → sm.a = some ⟨q, 0, none⟩ → Apart sf q) : SH w0 w [rowM sm m, rowF sf fr] := by
  obtain ⟨H, h3, h4, _⟩ := SH.ofOwn2H e h1 h2 hb hmf
  exact ⟨H, h3, h4⟩
theorem SH.ofOwnF {w0 w : World} {b0 : Nat} {sf : Sl} {fr : List DBlock} (e : Ext w0 w) (h : OwnS w b0 sf 2 (fr.flatMap DBlock.cells)) (hb : w0.heap.size ≤ b0) : SH w0 w [rowF sf fr] := by
  have hl := h.len
  rw [flatMap_length DBlock.cells 2 (fun _ => rfl)] at hl
  show SH w0 w [aRow sf 2 (recs DBlock.cells fr)]
  rw [recs_raw]
  exact SH.ofOwn e (by rw [recs_flat]; exact h) hb (by simp; omega) (fun y hy => by obtain ⟨x, _, rfl⟩ := List.mem_map.1 hy; rfl)
theorem SH.bytes {w0 w : World} {As : List Asr} (h : SH w0 w As) (n : Nat) {s : Sl} {m : List Int} (hA : As[n]? = some (rowM s m)) (hr : ∀ x, x ∈ m → 0 ≤ x ∧ x ≤ 255) (hs : m.length ≤ 1099511627776) : Bytes w s m :=
  ⟨by rw [h.len n hA, nums_len], h.lenCap n hA, h.rowN n hA, hr, hs⟩
theorem SH.frAt {w0 w : World} {As : List Asr} (h : SH w0 w As) (n : Nat) {s : Sl} {fr : List DBlock} (hA : As[n]? = some (rowF s fr)) (hl : fr.length ≤ 1099511627776) : FrAt w s fr :=
  ⟨by rw [h.len n hA, recs_len], h.rowR n hA, hl⟩
theorem SH.blk {w0 w : World} {As : List Asr} (h : SH w0 w As) (n : Nat) {b : Nat} {vs : List Value} (hA : As[n]? = some (aB b (vs.map Ce.v))) : Blk w b vs := by
  obtain ⟨H1, H2, h1, h2, hs⟩ := (h.front hA).cut
  obtain rfl := aB_raw.1 h1
  exact hs.blk (b, .c vs) (by simp)
/-! ## A pool copied -/
theorem s101 {sm sf : Sl} {m : List Int} {T : Int} {fr : List DBlock} {w : World} (hm : Bytes w sm m) (hf : FrAt w sf fr) : CallW Try.prog 101 #[.agg #[.slice sm.a sm.len sm.cap, .int .i64 T, .slice sf.a sf.len sf.cap]] w
    (fun v w' => ∃ tm tf : Sl, v = .agg #[.slice tm.a tm.len tm.cap, .int .i64 T, .slice tf.a tf.len tf.cap] ∧ SH w w' [rowM tm m, rowF tf fr]) :=
  (c101 hm hf).mono (by rintro _ w' ⟨tm, tf, rfl, hp, e⟩; exact ⟨tm, tf, rfl, SH.ofOwn2 e hp.1 hp.2.1 (Nat.le_refl _) hp.2.2⟩)
theorem s95 {sm sf : Sl} {m : List Int} {T : Int} {fr : List DBlock} {w : World} (hm : Bytes w sm m) (hf : FrAt w sf fr) : CallW Try.prog 95 #[.agg #[.slice sm.a sm.len sm.cap, .int .i64 T, .slice sf.a sf.len sf.cap]] w
    (fun v w' => ∃ (b : Nat) (tm tf : Sl), v = .pointer (some ⟨b, 0, none⟩) ∧ SH w w' [aB b ((pc tm T tf).map Ce.v), rowM tm m, rowF tf fr]) :=
  (c95 hm hf).mono (by
    rintro _ w' ⟨b, tm, tf, rfl, hp, e⟩
    refine ⟨b, tm, tf, rfl, ?_⟩
    obtain ⟨H, h1, h2, h3⟩ := SH.ofOwn2H e hp.mem hp.frs (Nat.le_refl _) hp.mf
    have hnb : b ∉ H.map (·.1) := fun hb => by
      obtain ⟨x, hx, rfl⟩ := List.mem_map.1 hb
      rcases h3 x hx with ⟨hc, ha⟩ | ⟨hc, ha⟩
      · exact hp.mb hc ha
      · exact hp.fb hc ha
    refine SH.mk (H1 := [(b, .c (pc tm T tf))]) (aB_raw.2 rfl) h1 ⟨e, fun x hx => ?_, ?_, fun x hx => ?_⟩
    · rcases List.mem_cons.1 hx with rfl | hx
      · exact hp.blk
      · exact h2.blk x hx
    · simp only [List.cons_append, List.nil_append, List.map_cons, List.nodup_cons]
      exact ⟨hnb, h2.nd⟩
    · rcases List.mem_cons.1 hx with rfl | hx
      · exact hp.hb
      · exact h2.own x hx)
end Go.Proofs.Ytkgoanjemhbjgaa

/- Frames of a pool cleared and given back, in parts, both sides. Conditions: none. -/
set_option linter.unusedVariables false
set_option linter.unusedSimpArgs false
namespace Go.Proofs.Ytkgoanjemhbjgaa
open Go Go.Den
abbrev poolB (b : Nat) (sm : Sl) (T : Int) (sf : Sl) : Asr := aB b ((pc sm T sf).map Ce.v)
theorem nums_set {k : IntKind} {m : List Int} {i : Nat} {x : Int} {a : Int} (h : m[i]? = some a) : (nums k m).set i ([Ce.v (.int k a)].set 0 (.v (.int k x))) = nums k (m.set i x) := by unfold nums; rw [List.map_set]; rfl
set_option maxRecDepth 8000 in
theorem s163 {w0 w : World} {b : Nat} {sm sf : Sl} {m : List Int} {T : Int} {F : List Asr} {f n : Nat} (h : SH w0 w (poolB b sm T sf :: rowM sm m :: F)) (hn256 : n = 256) (hf : f * 256 + n ≤ m.length) (hs : m.length ≤ 1048576) :
    CallW Try.prog 163 #[.pointer (some ⟨b, 0, none⟩), .int .i64 (f : Int)] w (fun v w' => v = .tuple #[] ∧ SH w0 w' (poolB b sm T sf :: rowM sm (zer m (f * 256) n) :: F)) := by
  refine go163 ?_
  unfold W163
  have hl : sm.len = m.length := by rw [h.len 1 rfl, nums_len]
  have hc := h.lenCap 1 rfl
  obtain ⟨bm, ha, _, _⟩ := h.addr 1 rfl (by omega)
  refine LoopW.m1 (fun (i : Int) w' => ∃ k : Nat, i = k ∧ k ≤ n ∧ SH w0 w' (poolB b sm T sf :: rowM sm (zer m (f * 256) k) :: F)) (fun (i : Int) _ => (256 - i).toNat) ⟨0, rfl, by omega, h⟩ ?_
  rintro (i : Int) w4 ⟨k, rfl, hk, h4⟩ J hJ
  refine BIf.dec (fun hlt => ?_) (fun hge => ?_)
  · refine ⟨_, rfl, sm, h4.cell 0 rfl rfl, ?_⟩
    have hidx : IntKind.i64.wrap (IntKind.i64.wrap ((f : Int) * 256) + (k : Int)) = ((f * 256 + k : Nat) : Int) := by rw [w64 (n := (f : Int) * 256) (by omega) (by omega), w64 (by omega) (by omega)]; omega
    rw [hidx, Int.toNat_natCast]
    have hz : (zer m (f * 256) k)[f * 256 + k]? = some _ := List.getElem?_eq_getElem (by rw [zer_len]; omega)
    refine ⟨by omega, by omega, _, ha, h4.setE0 1 rfl ha (nums_get hz) rfl (fun w7 h7 n7 => ?_)⟩
    rw [w64 (by omega) (by omega)]
    rw [nums_set hz] at h7
    exact hJ _ _ ⟨k + 1, by omega, by omega, h7⟩ (by omega)
  · have hk2 : k = n := by omega
    subst hk2
    exact ⟨rfl, h4⟩
set_option maxRecDepth 8000 in
theorem s161 {w0 w : World} {sm sf : Sl} {m : List Int} {T : Int} {F : List Asr} {f n : Nat} (h : SH w0 w (rowM sm m :: F)) (hn256 : n = 256) (hf : f * 256 + n ≤ m.length) (hs : m.length ≤ 1048576) :
    CallW Try.prog 161 #[.agg #[.slice sm.a sm.len sm.cap, .int .i64 T, .slice sf.a sf.len sf.cap], .int .i64 (f : Int)] w (fun v w' => v = .tuple #[] ∧ SH w0 w' (rowM sm (zer m (f * 256) n) :: F)) := by
  refine go161 ?_
  unfold W161
  have hl : sm.len = m.length := by rw [h.len 0 rfl, nums_len]
  have hc := h.lenCap 0 rfl
  obtain ⟨bm, ha, _, _⟩ := h.addr 0 rfl (by omega)
  refine h.alloc (fun w1 h1 e1 n1 => ?_)
  refine LoopW.m1 (fun (i : Int) w' => ∃ k : Nat, i = k ∧ k ≤ n ∧ SH w0 w' (poolB w.heap.size sm T sf :: rowM sm (zer m (f * 256) k) :: F)) (fun (i : Int) _ => (256 - i).toNat) ⟨0, rfl, by omega, h1⟩ ?_
  rintro (i : Int) w4 ⟨k, rfl, hk, h4⟩ J hJ
  refine BIf.dec (fun hlt => ?_) (fun hge => ?_)
  · refine ⟨sm, h4.cell 0 rfl rfl, ?_⟩
    have hidx : IntKind.i64.wrap (IntKind.i64.wrap ((f : Int) * 256) + (k : Int)) = ((f * 256 + k : Nat) : Int) := by rw [w64 (n := (f : Int) * 256) (by omega) (by omega), w64 (by omega) (by omega)]; omega
    rw [hidx, Int.toNat_natCast]
    have hz : (zer m (f * 256) k)[f * 256 + k]? = some _ := List.getElem?_eq_getElem (by rw [zer_len]; omega)
    refine ⟨by omega, by omega, _, ha, h4.setE0 1 rfl ha (nums_get hz) rfl (fun w7 h7 n7 => ?_)⟩
    rw [w64 (by omega) (by omega)]
    rw [nums_set hz] at h7
    exact hJ _ _ ⟨k + 1, by omega, by omega, h7⟩ (by omega)
  · have hk2 : k = n := by omega
    subst hk2
    exact ⟨rfl, h4.drop⟩
theorem s111 {w0 w : World} {sm sf : Sl} {m : List Int} {T : Int} {fr : List DBlock} {F : List Asr} {f : Nat} (h : SH w0 w (rowM sm m :: rowF sf fr :: F)) (hf : f * 256 + fz ≤ m.length) (hs : m.length ≤ 1048576) (hl : fr.length ≤ 1099511627776) :
    CallW Try.prog 111 #[.agg #[.slice sm.a sm.len sm.cap, .int .i64 T, .slice sf.a sf.len sf.cap], .int .i64 (f : Int)] w (fun v w' => ∃ t : Sl, v = .agg #[.slice sm.a sm.len sm.cap, .int .i64 (giveF T fr f 0).1, .slice t.a t.len t.cap] ∧ SH w0 w' (rowM sm (zer m (f * 256) fz) :: rowF t (giveF T fr f 0).2.1 :: F)) := by
  refine go111 ?_
  unfold W111
  refine h.alloc (fun w1 h1 e1 n1 => h1.alloc (fun w2 h2 e2 n2 => ?_))
  refine ⟨sm, h2.cell 1 rfl rfl, _, h2.cell 1 rfl rfl, sf, h2.cell 1 rfl rfl, ?_⟩
  refine (s161 (h2.front (n := 2) rfl) fz_eq hf hs).mono ?_
  rintro _ w7 ⟨rfl, h7⟩
  refine ⟨rfl, _, h7.cell 2 rfl rfl, sf, h7.cell 2 rfl rfl, ?_⟩
  refine (c146 (SH.frAt h7 3 rfl hl)).mono ?_
  rintro _ w11 ⟨t, rfl, hO, e11⟩
  have h11 := h7.seq (SH.ofOwnF e11 hO (Nat.le_refl _))
  refine ⟨_, t, _, rfl, ?_⟩
  refine h11.alloc (fun w15 h15 e15 n15 => ?_)
  refine h15.put 0 rfl rfl rfl (fun w16 h16 n16 => ?_)
  refine ⟨sm, h16.cell 4 rfl rfl, _, h16.cell 0 rfl rfl, t, h16.cell 0 rfl rfl, h16.put 3 rfl rfl rfl (fun w20 h20 n20 => ?_)⟩
  refine ⟨sm, h20.cell 3 rfl rfl, _, h20.cell 3 rfl rfl, t, h20.cell 3 rfl rfl, t, rfl, ?_⟩
  exact (((((h20.front (n := 5) rfl).drop).front (n := 4) rfl).drop).front (n := 3) rfl).drop.drop.p1
theorem s112 {w0 w : World} {b : Nat} {sm sf : Sl} {m : List Int} {T : Int} {fr : List DBlock} {F : List Asr} {f : Nat} (h : SH w0 w (poolB b sm T sf :: rowM sm m :: rowF sf fr :: F)) (hf : f * 256 + fz ≤ m.length) (hs : m.length ≤ 1048576) (hl : fr.length ≤ 1099511627776) :
    CallW Try.prog 112 #[.pointer (some ⟨b, 0, none⟩), .int .i64 (f : Int)] w (fun v w' => v = .tuple #[] ∧ ∃ t : Sl, SH w0 w' (poolB b sm (giveF T fr f 0).1 t :: rowM sm (zer m (f * 256) fz) :: rowF t (giveF T fr f 0).2.1 :: F)) := by
  refine go112 ?_
  unfold W112
  refine ⟨_, rfl, _, h.cell 0 (i := 1) rfl rfl, sf, h.cell 0 (i := 2) rfl rfl, ?_⟩
  refine (c85 (SH.frAt h 2 rfl hl)).mono ?_
  rintro _ w5 ⟨t, rfl, hO, e5⟩
  have h5 := h.seq (SH.ofOwnF e5 hO (Nat.le_refl _))
  refine ⟨_, t, _, rfl, _, rfl, h5.puts 1 (o := 1) rfl rfl (fun j hj => ?_) (fun w10 h10 n10 => ?_)⟩
  · match j, hj with
    | 0, _ => exact ⟨_, rfl⟩
    | 1, _ => exact ⟨_, rfl⟩
  have g : SH w0 w10 (poolB b sm (giveF T fr f 0).1 t :: rowM sm m :: rowF t (giveF T fr f 0).2.1 :: rowF sf fr :: F) := (h10.front (n := 1) rfl).tl (List.Perm.swap _ _ _)
  refine (s163 g fz_eq hf hs).mono ?_
  rintro _ w12 ⟨rfl, h12⟩
  exact ⟨rfl, rfl, t, (h12.front (n := 3) rfl).drop⟩
theorem s103 {w0 w : World} {b : Nat} {sm sf : Sl} {T : Int} {F : List Asr} (h : SH w0 w (poolB b sm T sf :: F)) : CallW Try.prog 103 #[.pointer (some ⟨b, 0, none⟩)] w
    (fun v w' => v = .agg #[.slice sm.a sm.len sm.cap, .int .i64 T, .slice sf.a sf.len sf.cap] ∧ SH w0 w' (poolB b sm T sf :: F)) := by
  refine go103 ?_
  unfold W103
  refine h.alloc (fun w1 h1 e1 n1 => ?_)
  have h2 := h1.drew
  refine ⟨_, rfl, sm, h2.cell 1 rfl rfl, _, rfl, _, h2.cell 1 (i := 1) rfl rfl, sf, h2.cell 1 (i := 2) rfl rfl, h2.put 0 rfl rfl rfl (fun w7 h7 n7 => ?_)⟩
  exact ⟨sm, h7.cell 0 rfl rfl, _, h7.cell 0 rfl rfl, sf, h7.cell 0 rfl rfl, rfl, h7.drop⟩
/-! ## All tables of a space given back -/
noncomputable def gv1 (p : List Int × Int × List DBlock) (f : Int) : List Int × Int × List DBlock := (zer p.1 (f.toNat * 256) fz, (giveF p.2.1 p.2.2 f 0).1, (giveF p.2.1 p.2.2 f 0).2.1)
structure GvOk (n : Nat) (T : Int) (p : List Int × Int × List DBlock) : Prop where
  len : p.1.length = n
  tot : p.2.1 = T
  ok : FOk T p.2.2
  few : p.2.2.length ≤ 1048576
  rng : ∀ x, x ∈ p.1 → 0 ≤ x ∧ x ≤ 255
theorem gv1_ok {n : Nat} {T : Int} {p : List Int × Int × List DBlock} (h : GvOk n T p) {f : Int} (h0 : 0 ≤ f) (h1 : f < T) : GvOk n T (gv1 p f) := by
  obtain ⟨m, T', fr⟩ := p
  obtain ⟨a1, a2, a3, a4, a5⟩ := h
  simp only at a1 a2 a3 a4 a5
  subst a2
  have hb : blkOk T' f 0 = true := decide_eq_true ⟨by omega, by omega, h0, h1, by rw [show pw 0 = 1 from rfl]; omega, by rw [show pw 0 = 1 from rfl]; omega⟩
  refine ⟨by show (zer _ _ _).length = n; rw [zer_len]; exact a1, give_T a3 hb, ?_, ?_, fun x hx => zer_rng a5 _ _ x hx⟩
  · show FOk T' (giveF T' fr f 0).2.1
    unfold giveF flipF; rw [if_pos ⟨a3, hb⟩]
    split
    · exact (fine_list (by rw [setV_len, freeL_len]) a3.1 a3.2.1).1
    · exact a3
  · show (giveF T' fr f 0).2.1.length ≤ 1048576
    unfold giveF flipF; rw [if_pos ⟨a3, hb⟩]
    split
    · have := (fine_list (T := T') (l := setV true (freeL T' fr) f.toNat (2 ^ (0 : Int).toNat)) (by rw [setV_len, freeL_len]) a3.1 a3.2.1).2
      show (listF _ 0).length ≤ 1048576
      omega
    · exact a4
/-- The tables of a space are frames of its pool. -/
theorem scanT_mem {Q : Int → Prop} {x : Int → Int} {lvl : Int} {rec : Int → List Int → Option (List Int)} (hr : ∀ t S S', rec t S = some S' → (∀ y, y ∈ S → Q y) → ∀ y, y ∈ S' → Q y) : ∀ (k : Nat) (S : List Int) (any : Bool) (S' : List Int) (any' : Bool), scanT x lvl rec k S any = some (S', any') → (∀ y, y ∈ S → Q y) → ∀ y, y ∈ S' → Q y
  | 0, S, any, S', any', h, hS => by unfold scanT at h; injection h with h; injection h with h1 h2; subst h1; exact hS
  | k + 1, S, any, S', any', h, hS => by
    unfold scanT at h
    split at h
    · exact scanT_mem hr k S any S' any' h hS
    · split at h
      · cases h
      · exact scanT_mem hr k S true S' any' h hS
      · split at h
        · cases h
        · rename_i S2 h2
          exact scanT_mem hr k S2 true S' any' h (hr _ _ _ h2 hS)
theorem tblStep_mem {m : List Int} {free : List Bool} {lvl : Nat} {rec : Int → List Int → Option (List Int)} (hr : ∀ t S S', rec t S = some S' → (∀ y, y ∈ S → 0 ≤ y ∧ y < (free.length : Int)) → ∀ y, y ∈ S' → 0 ≤ y ∧ y < (free.length : Int)) {t : Int} {S S' : List Int} (h : tblStep m free lvl rec t S = some S') (hS : ∀ y, y ∈ S → 0 ≤ y ∧ y < (free.length : Int)) : ∀ y, y ∈ S' → 0 ≤ y ∧ y < (free.length : Int) := by
  unfold tblStep at h
  split at h
  · cases h
  · rename_i hn
    split at h
    · rename_i S2 h2
      injection h with h; subst h
      refine scanT_mem hr 32 _ _ _ _ h2 (fun y hy => ?_)
      rcases List.mem_append.1 hy with hy | hy
      · exact hS y hy
      · rw [List.mem_singleton.1 hy]
        exact ⟨by by_cases hh : t < 0; exact absurd (.inl hh) hn; omega, by by_cases hh : (free.length : Int) ≤ t; exact absurd (.inr (.inl hh)) hn; omega⟩
    · cases h
theorem tblF_mem {m : List Int} {free : List Bool} : ∀ (lvl : Nat) {t : Int} {S S' : List Int}, tblF m free lvl t S = some S' → (∀ y, y ∈ S → 0 ≤ y ∧ y < (free.length : Int)) → ∀ y, y ∈ S' → 0 ≤ y ∧ y < (free.length : Int)
  | 0, t, S, S', h, hS => tblStep_mem (fun t S S' h => by cases h) h hS
  | n + 1, t, S, S', h, hS => tblStep_mem (fun t S S' h2 => tblF_mem n h2) h hS
theorem spaceT_mem {m : List Int} {T : Int} {fr : List DBlock} {root : Int} {S : List Int} (h : spaceT m T fr root = some S) : POk m T fr ∧ S.length ≤ 1057 ∧ ∀ y, y ∈ S → 0 ≤ y ∧ y < T := by
  by_cases hok : POk m T fr
  · rw [spaceT_pos hok] at h
    have hfree : ((freeL T fr).length : Int) = T := by rw [freeL_len]; have := hok.2.2.1.1; omega
    refine ⟨hok, ?_, fun y hy => by have := tblF_mem 2 h (fun y hy => by cases hy) y hy; omega⟩
    obtain ⟨a, h1, h2⟩ := tblF_adds.2.2 _ _ _ h
    rw [h1]; simpa using h2
  · rw [spaceT_neg hok] at h; cases h
end Go.Proofs.Ytkgoanjemhbjgaa

/- SpaceDrop, both sides. Conditions: none. -/
set_option linter.unusedVariables false
set_option linter.unusedSimpArgs false
namespace Go.Proofs.Ytkgoanjemhbjgaa
open Go Go.Den
/-! ## Results that are pools -/
theorem blks_ceE (l : List DBlock) : Dat.ceE (l.map DBlock.dat) = recs DBlock.cells l := by
  rw [ceE_map]; unfold recs; congr 1
theorem poolD_ce (m : List Int) (T : Int) (fr : List DBlock) : (⟨m, ⟨T, fr⟩⟩ : DPool).dat.ce = [.sl 1 (nums .u8 m), .v (.int .i64 T), .sl 2 (recs DBlock.cells fr)] := by
  simp only [DPool.dat, DFrames.dat, Dat.ce, Dat.ces, ceE_nums, blks_ceE, List.cons_append, List.nil_append]
theorem poolD_fit {m : List Int} {T : Int} {fr : List DBlock} (h : POut m T fr) : (⟨m, ⟨T, fr⟩⟩ : DPool).dat.fit := by
  have hmx : maxLen = 9223372036854775807 := rfl
  obtain ⟨h1, h2, h3, h4, h5⟩ := h
  simp only [DPool.dat, DFrames.dat, Dat.fit, Dat.fits, List.length_map, fits_iff, List.mem_map]
  refine ⟨⟨by omega, ?_⟩, ⟨h4, ⟨by omega, ?_⟩, True.intro⟩, True.intro⟩
  · rintro d ⟨x, hx, rfl⟩
    exact wf_u8 (h1 x hx).1 (h1 x hx).2
  · rintro d ⟨x, hx, rfl⟩
    simp only [DBlock.dat, Dat.fit, Dat.fits]
    exact ⟨(h5 x hx).1, (h5 x hx).2, True.intro⟩
theorem SH.poolFr {w0 w : World} {tm tf : Sl} {m : List Int} {T : Int} {fr : List DBlock} {F : List Asr} (h : SH w0 w (rowM tm m :: rowF tf fr :: F)) (ho : POut m T fr) : Fr w0.heap.size w.heap.size w (⟨m, ⟨T, fr⟩⟩ : DPool).dat [.slice tm.a tm.len tm.cap, .int .i64 T, .slice tf.a tf.len tf.cap] := by
  have g1 := SH.v0 (SH.p1 h)
  have g2 := SH.vr (SH.p1 g1)
  have g3 := SH.vx (.int .i64 T) g2
  have g4 := SH.vr (SH.p1 g3)
  exact SH.fr (F := F) (by rw [poolD_ce]; exact g4) (poolD_fit ho)
theorem sh_zero {w0 w : World} {F : List Asr} (h : SH w0 w F) : SH w0 w [rowM ⟨none, 0, 0⟩ [], rowF ⟨none, 0, 0⟩ []] :=
  (SH.nil (SH.nil (SH.take h 0) none 2) none 1)
/-! ## SpaceDrop -/
theorem gvOk0 {m : List Int} {T : Int} {fr : List DBlock} (hok : POk m T fr) (hr : ∀ x, x ∈ m → 0 ≤ x ∧ x ≤ 255) (hf : fr.length ≤ 1048576) : GvOk m.length T (m, T, fr) := ⟨rfl, rfl, hok.2.2.1, hf, hr⟩
/-! ## As the law asks it -/
theorem GvOk.out {n : Nat} {T : Int} {p : List Int × Int × List DBlock} (h : GvOk n T p) (hn : n ≤ 2097152) : POut p.1 p.2.1 p.2.2 := by
  have hT := h.ok.1; have hT2 := h.ok.2.1
  exact ⟨h.rng, by rw [h.len]; exact hn, by have := h.few; omega, by rw [h.tot]; exact wf_i64 (by omega) (by omega), fun x hx => wf_blk (fok_mem h.ok x hx)⟩
end Go.Proofs.Ytkgoanjemhbjgaa

/- The way through a space's tables. Conditions: none. -/
set_option linter.unusedVariables false
set_option linter.unusedSimpArgs false
namespace Go.Proofs.Ytkgoanjemhbjgaa
open Go Go.Den
/-! ## Tables that can be -/
theorem scanT_at {x : Int → Int} {lvl : Int} {rec : Int → List Int → Option (List Int)} (hr : ∀ t S S', rec t S = some S' → ∀ y, y ∈ S → y ∈ S') : ∀ (k : Nat) (S : List Int) (any : Bool) (S' : List Int) (any' : Bool), scanT x lvl rec k S any = some (S', any') → ∀ j : Nat, j < k → x (31 - (j : Int)) ≠ 0 →
    cls (x (31 - (j : Int))) lvl = some true ∨ (cls (x (31 - (j : Int))) lvl = some false ∧ ∃ S1 S2, rec (efr (x (31 - (j : Int)))) S1 = some S2 ∧ ∀ y, y ∈ S → y ∈ S1)
  | 0, S, any, S', any', h, j, hj, hx => by omega
  | k + 1, S, any, S', any', h, j, hj, hx => by
    unfold scanT at h
    by_cases hk : j = k
    · subst hk
      rw [if_neg hx] at h
      split at h
      · cases h
      · rename_i hc; exact .inl hc
      · rename_i hc
        split at h
        · cases h
        · rename_i S2 h2
          exact .inr ⟨hc, S, S2, h2, fun y hy => hy⟩
    · split at h
      · exact scanT_at hr k S any S' any' h j (by omega) hx
      · split at h
        · cases h
        · exact scanT_at hr k S true S' any' h j (by omega) hx
        · split at h
          · cases h
          · rename_i S2 h2
            rcases scanT_at hr k S2 true S' any' h j (by omega) hx with h3 | ⟨h3, S3, S4, h4, h5⟩
            · exact .inl h3
            · exact .inr ⟨h3, S3, S4, h4, fun y hy => h5 y (hr _ _ _ h2 y hy)⟩
theorem scanT_sub {x : Int → Int} {lvl : Int} {rec : Int → List Int → Option (List Int)} (hr : ∀ t S S', rec t S = some S' → ∀ y, y ∈ S → y ∈ S') : ∀ (k : Nat) (S : List Int) (any : Bool) (S' : List Int) (any' : Bool), scanT x lvl rec k S any = some (S', any') → ∀ y, y ∈ S → y ∈ S'
  | 0, S, any, S', any', h, y, hy => by unfold scanT at h; injection h with h; injection h with h1 h2; subst h1; exact hy
  | k + 1, S, any, S', any', h, y, hy => by
    unfold scanT at h
    split at h
    · exact scanT_sub hr k S any S' any' h y hy
    · split at h
      · cases h
      · exact scanT_sub hr k S true S' any' h y hy
      · split at h
        · cases h
        · rename_i S2 h2
          exact scanT_sub hr k S2 true S' any' h y (hr _ _ _ h2 y hy)
theorem tblStep_sub {m : List Int} {free : List Bool} {lvl : Nat} {rec : Int → List Int → Option (List Int)} (hr : ∀ t S S', rec t S = some S' → ∀ y, y ∈ S → y ∈ S') {t : Int} {S S' : List Int} (h : tblStep m free lvl rec t S = some S') : (∀ y, y ∈ S → y ∈ S') ∧ t ∈ S' := by
  unfold tblStep at h
  split at h
  · cases h
  · split at h
    · rename_i S2 h2
      injection h with h; subst h
      have := scanT_sub hr 32 _ _ _ _ h2
      exact ⟨fun y hy => this y (by simp [hy]), this t (by simp)⟩
    · cases h
theorem tblF_sub {m : List Int} {free : List Bool} : ∀ (lvl : Nat) {t : Int} {S S' : List Int}, tblF m free lvl t S = some S' → ∀ y, y ∈ S → y ∈ S'
  | 0, t, S, S', h => (tblStep_sub (fun t S S' h => by cases h) h).1
  | n + 1, t, S, S', h => (tblStep_sub (fun t S S' h2 => tblF_sub n h2) h).1
/-- A table that can be, behind those of S. -/
def Tab (m : List Int) (free : List Bool) (n : Nat) (t : Int) (S : List Int) : Prop := ∃ S', tblF m free n t S = some S'
theorem cls_true {x lvl : Int} (h : cls x lvl = some true) : x < 1048576 ∧ ¬ 0 < lvl := by
  unfold cls at h
  split at h
  · cases h
  · rename_i hn
    split at h
    · cases h
    · have hk : kindS x lvl = 1 := by
        rcases kindS_cases x lvl with hh | hh | hh | hh | hh <;> first | (exfalso; exact hn (.inl (by omega))) | (exfalso; omega) | exact hh
      exact ⟨kindS_small (.inr hk), fun hl => hn (.inr ⟨hk, hl⟩)⟩
theorem cls_false {x lvl : Int} (h : cls x lvl = some false) : x < 1048576 ∧ kindS x lvl = 0 := by
  unfold cls at h
  split at h
  · cases h
  · split at h
    · rename_i hk; exact ⟨kindS_small (.inl hk), hk⟩
    · cases h
theorem Tab.rng {m : List Int} {free : List Bool} {n : Nat} {t : Int} {S : List Int} (h : Tab m free n t S) : 0 ≤ t ∧ t < (free.length : Int) ∧ t ∉ S := by
  obtain ⟨S', h⟩ := h
  have hstep : ∃ rec, tblStep m free n rec t S = some S' := by cases n <;> exact ⟨_, h⟩
  obtain ⟨rec, h⟩ := hstep
  unfold tblStep at h
  split at h
  · cases h
  · rename_i hn
    exact ⟨by by_cases hh : t < 0; exact absurd (.inl hh) hn; omega, by by_cases hh : (free.length : Int) ≤ t; exact absurd (.inr (.inl hh)) hn; omega, fun hh => hn (.inr (.inr (.inr hh)))⟩
theorem tblStep_at {m : List Int} {free : List Bool} {lvl : Nat} {rec : Int → List Int → Option (List Int)} (hr : ∀ t S S', rec t S = some S' → ∀ y, y ∈ S → y ∈ S') {t : Int} {S S' : List Int} (h : tblStep m free lvl rec t S = some S') {i : Int} (h0 : 0 ≤ i) (h1 : i < 32) (hx : entAt m t i ≠ 0) :
    cls (entAt m t i) lvl = some true ∨ (cls (entAt m t i) lvl = some false ∧ ∃ S1 S2, rec (efr (entAt m t i)) S1 = some S2 ∧ ∀ y, y ∈ S ++ [t] → y ∈ S1) := by
  unfold tblStep at h
  split at h
  · cases h
  · split at h
    · rename_i S2 h2
      have := scanT_at hr 32 _ _ _ _ h2 (31 - i).toNat (by omega)
      rw [show (31 - (((31 - i).toNat : Nat) : Int)) = i by omega] at this
      exact this hx
    · cases h
theorem Tab.ent {m : List Int} {free : List Bool} {n : Nat} {t : Int} {S : List Int} (h : Tab m free n t S) {i : Int} (h0 : 0 ≤ i) (h1 : i < 32) (hx : entAt m t i ≠ 0) : entAt m t i < 1048576 := by
  obtain ⟨S', h⟩ := h
  have hstep : ∃ rec, (∀ t S S', rec t S = some S' → ∀ y, y ∈ S → y ∈ S') ∧ tblStep m free n rec t S = some S' := by
    cases n with
    | zero => exact ⟨_, (fun t S S' h => by cases h), h⟩
    | succ k => exact ⟨_, (fun t S S' h => tblF_sub k h), h⟩
  obtain ⟨rec, hr, h⟩ := hstep
  rcases tblStep_at hr h h0 h1 hx with h2 | ⟨h2, _⟩
  · exact (cls_true h2).1
  · exact (cls_false h2).1
theorem Tab.sub {m : List Int} {free : List Bool} {n : Nat} {t : Int} {S : List Int} (h : Tab m free (n + 1) t S) {i : Int} (h0 : 0 ≤ i) (h1 : i < 32) (hx : entAt m t i ≠ 0) : kindS (entAt m t i) ((n + 1 : Nat) : Int) = 0 ∧ ∃ S1, Tab m free n (efr (entAt m t i)) S1 ∧ ∀ y, y ∈ S ++ [t] → y ∈ S1 := by
  obtain ⟨S', h⟩ := h
  rcases tblStep_at (fun t S S' h => tblF_sub n h) h h0 h1 hx with h2 | ⟨h2, S1, S2, h3, h4⟩
  · have := (cls_true h2).2; omega
  · exact ⟨(cls_false h2).2, S1, ⟨S2, h3⟩, h4⟩
theorem tab_root {m : List Int} {T : Int} {fr : List DBlock} {root : Int} {S : List Int} (h : spaceT m T fr root = some S) : Tab m (freeL T fr) 2 root [] := by
  have hok := (spaceT_mem h).1
  rw [spaceT_pos hok] at h
  exact ⟨S, h⟩
/-! ## The way to a page -/
def ixV (va l : Int) : Int := va / (256 * pgs l) % 32
theorem ixV_rng (va l : Int) : 0 ≤ ixV va l ∧ ixV va l < 32 := by unfold ixV; omega
def wayF (m : List Int) (va : Int) : Nat → Int → List Int
  | 0, t => [t]
  | n + 1, t => t :: (if entAt m t (ixV va ((n + 1 : Nat) : Int)) = 0 then [] else wayF m va n (efr (entAt m t (ixV va ((n + 1 : Nat) : Int)))))
/-- An entry's place in its table. -/
def slotA (va : Int) (l : Nat) (t : Int) : Int := t * 256 + 8 * ixV va (l : Int)
def slotW (va : Int) : Nat → List Int → List Int
  | _, [] => []
  | 0, t :: r => slotA va 0 t :: slotW va 0 r
  | n + 1, t :: r => slotA va (n + 1) t :: slotW va n r
theorem slotW_len (va : Int) : ∀ (l : List Int) (n : Nat), (slotW va n l).length = l.length
  | [], n => by cases n <;> rfl
  | t :: r, 0 => by simp [slotW, slotW_len va r 0]
  | t :: r, n + 1 => by simp [slotW, slotW_len va r n]
theorem c122 {va : Int} {l : Nat} {w : World} (h0 : 0 ≤ va) (h1 : va < 8388608) (hl : l ≤ 2) : CallW Try.prog 122 #[.int .i64 va, .int .i64 (l : Int)] w (fun v w' => v = .int .i64 (ixV va (l : Int)) ∧ w' = w) := by
  refine go122 ?_
  unfold W122
  have hand : ∀ y : Int, 0 ≤ y → y < 8388608 → andI .i64 y 31 = y % 32 := by
    intro y hy0 hy1
    have h31 : (31 : Int) = ((2 ^ 5 - 1 : Nat) : Int) := rfl
    rw [h31]
    unfold andI
    show IntKind.i64.wrap (((BitVec.ofInt 64 y &&& BitVec.ofInt 64 ((2 ^ 5 - 1 : Nat) : Int)).toNat : Nat) : Int) = _
    rw [BitVec.toNat_and, bv_nat hy0 (by omega), bv_nat (by omega) (by omega), Int.toNat_natCast, Nat.and_two_pow_sub_one_eq_mod]
    obtain ⟨n, rfl⟩ := Int.eq_ofNat_of_zero_le hy0
    rw [Int.toNat_natCast, w64 (by omega) (by omega)]
    omega
  have hsh : ∀ n : Nat, n ≤ 20 → shrI .i64 va (n : Int) = va / ((2 ^ n : Nat) : Int) := by
    intro n hn
    unfold shrI
    rw [Int.toNat_natCast, show min n (IntKind.i64.bits) = n from Nat.min_eq_left (by show n ≤ 64; omega), Int.fdiv_eq_ediv_of_nonneg _ (by exact_mod_cast Nat.zero_le _)]
    norm_cast
  rw [w64 (n := 5 * (l : Int)) (by omega) (by omega), w64 (by omega) (by omega)]
  refine ⟨by omega, ?_, rfl⟩
  have hpg : (8 + 5 * (l : Int)) = ((8 + 5 * l : Nat) : Int) ∧ ((2 ^ (8 + 5 * l) : Nat) : Int) = 256 * pgs (l : Int) := by
    refine ⟨by omega, ?_⟩
    have : l = 0 ∨ l = 1 ∨ l = 2 := by omega
    rcases this with rfl | rfl | rfl <;> rfl
  have hp := pgs_pos (n := (l : Int)) (by omega)
  rw [hpg.1, hsh _ (by omega), hpg.2, hand _ (Int.ediv_nonneg h0 (by omega)) (by have := Int.ediv_le_self (256 * pgs (l : Int)) h0; omega)]
  rfl
theorem c129 {t va : Int} {l : Nat} {w : World} (ht : 0 ≤ t) (ht1 : t < 4096) (h0 : 0 ≤ va) (h1 : va < 8388608) (hl : l ≤ 2) : CallW Try.prog 129 #[.int .i64 t, .int .i64 (l : Int), .int .i64 va] w (fun v w' => v = .int .i64 (slotA va l t) ∧ w' = w) := by
  refine go129 ?_
  unfold W129
  refine (c177 (by omega) (by omega)).mono ?_
  rintro _ w ⟨rfl, rfl⟩
  have hp := pgs_pos (n := (l : Int)) (by omega)
  have hp2 : pgs (l : Int) ≤ 1024 := by unfold pgs; split <;> (try split) <;> omega
  have hx := ixV_rng va (l : Int)
  refine ⟨_, rfl, ?_⟩
  rw [w64 (n := 256 * pgs (l : Int)) (by omega) (by omega)]
  have hd0 : 0 ≤ va / (256 * pgs (l : Int)) := Int.ediv_nonneg h0 (by omega)
  have hd1 := Int.ediv_le_self (256 * pgs (l : Int)) h0
  refine ⟨by omega, by omega, ?_, rfl⟩
  rw [Int.tdiv_eq_ediv_of_nonneg h0, w64 (n := va / (256 * pgs (l : Int))) (by omega) (by omega), Int.tmod_eq_emod_of_nonneg hd0, w64 (n := t * 256) (by omega) (by omega)]
  show Value.int .i64 (IntKind.i64.wrap (t * 256 + IntKind.i64.wrap (8 * ixV va (l : Int)))) = _
  rw [w64 (n := 8 * ixV va (l : Int)) (by omega) (by omega), w64 (by omega) (by omega)]
  rfl
end Go.Proofs.Ytkgoanjemhbjgaa

/- The way through a space's tables, in memory; words written. Conditions: none. -/
set_option linter.unusedVariables false
set_option linter.unusedSimpArgs false
namespace Go.Proofs.Ytkgoanjemhbjgaa
open Go Go.Den
abbrev rowN (s : Sl) (l : List Int) : Asr := aRow s 1 (nums .i64 l)
/-! ## A word written -/
def pk (m : List Int) (a : Nat) (x : Int) : Nat → List Int
  | 0 => m
  | k + 1 => (pk m a x k).set (a + k) (x / ((256 ^ k : Nat) : Int) % 256)
theorem pk_len (m : List Int) (a : Nat) (x : Int) : ∀ k, (pk m a x k).length = m.length
  | 0 => rfl
  | k + 1 => by unfold pk; rw [List.length_set, pk_len m a x k]
theorem pk_rng {m : List Int} (h : ∀ y, y ∈ m → 0 ≤ y ∧ y ≤ 255) (a : Nat) (x : Int) : ∀ k y, y ∈ pk m a x k → 0 ≤ y ∧ y ≤ 255
  | 0, y, hy => h y hy
  | k + 1, y, hy => by
    unfold pk at hy
    rcases List.mem_or_eq_of_mem_set hy with hy | hy
    · exact pk_rng h a x k y hy
    · omega
theorem pk_out (m : List Int) (a : Nat) (x : Int) : ∀ (k j : Nat), (j < a ∨ a + k ≤ j) → (pk m a x k).getD j 0 = m.getD j 0
  | 0, j, h => rfl
  | k + 1, j, h => by
    unfold pk
    rw [List.getD_eq_getElem?_getD, List.getElem?_set_ne (by omega), ← List.getD_eq_getElem?_getD]
    exact pk_out m a x k j (by omega)
theorem pow256 : ∀ k : Nat, 2 ^ (8 * k) = 256 ^ k
  | 0 => rfl
  | k + 1 => by rw [Nat.mul_succ, Nat.pow_add, pow256 k]; exact (Nat.pow_succ ..).symm
theorem s172 {w0 w : World} {sm : Sl} {m : List Int} {F : List Asr} {a : Nat} {x : Int} (h : SH w0 w (rowM sm m :: F)) (h0 : 0 ≤ x) (h1 : x < 18446744073709551616) (ha : a + 8 ≤ m.length) (hs : m.length ≤ 1048576) :
    CallW Try.prog 172 #[.slice sm.a sm.len sm.cap, .int .i64 (a : Int), .int .i64 8, .int .u64 x] w (fun v w' => v = .tuple #[] ∧ SH w0 w' (rowM sm (pk m a x 8) :: F)) := by
  refine go172 ?_
  unfold W172
  have hl : sm.len = m.length := by rw [h.len 0 rfl, nums_len]
  have hc := h.lenCap 0 rfl
  obtain ⟨bm, hba, _, _⟩ := h.addr 0 rfl (by omega)
  refine LoopW.m1 (fun (i : Int) w' => ∃ k : Nat, i = k ∧ k ≤ 8 ∧ SH w0 w' (rowM sm (pk m a x k) :: F)) (fun (i : Int) _ => (8 - i).toNat) ⟨0, rfl, by omega, h⟩ ?_
  rintro (i : Int) w4 ⟨k, rfl, hk, h4⟩ J hJ
  refine BIf.dec (fun hlt => ?_) (fun hge => ?_)
  · have hidx : IntKind.i64.wrap ((a : Int) + (k : Int)) = ((a + k : Nat) : Int) := by rw [w64 (by omega) (by omega)]; omega
    have h8 : IntKind.i64.wrap (8 * (k : Int)) = ((8 * k : Nat) : Int) := by rw [w64 (by omega) (by omega)]; omega
    rw [hidx, Int.toNat_natCast, h8, shrI_u64 (by omega), pow256]
    have hm : IntKind.u8.wrap (x / ((256 ^ k : Nat) : Int)) = x / ((256 ^ k : Nat) : Int) % 256 := by rw [IntKind.wrap_u8]
    rw [hm]
    have hz : (pk m a x k)[a + k]? = some _ := List.getElem?_eq_getElem (by rw [pk_len]; omega)
    refine ⟨by omega, by omega, by omega, _, hba, h4.setE0 0 rfl hba (nums_get hz) rfl (fun w7 h7 n7 => ?_)⟩
    rw [w64 (by omega) (by omega)]
    rw [nums_set hz] at h7
    exact hJ _ _ ⟨k + 1, by omega, by omega, h7⟩ (by omega)
  · have hk2 : k = 8 := by omega
    subst hk2
    exact ⟨rfl, h4⟩
theorem s117 {w0 w : World} {sm : Sl} {m : List Int} {F : List Asr} {a : Nat} {x : Int} (h : SH w0 w (rowM sm m :: F)) (h0 : 0 ≤ x) (h1 : x < 18446744073709551616) (ha : a + 8 ≤ m.length) (hs : m.length ≤ 1048576) :
    CallW Try.prog 117 #[.slice sm.a sm.len sm.cap, .int .i64 (a : Int), .int .u64 x] w (fun v w' => v = .tuple #[] ∧ SH w0 w' (rowM sm (pk m a x 8) :: F)) := by
  refine go117 ?_
  unfold W117
  have hl : sm.len = m.length := by rw [h.len 0 rfl, nums_len]
  have hc := h.lenCap 0 rfl
  obtain ⟨bm, hba, _, _⟩ := h.addr 0 rfl (by omega)
  refine LoopW.m2 (fun (y : Int) (i : Int) w' => ∃ k : Nat, i = k ∧ k ≤ 8 ∧ y = x / ((256 ^ k : Nat) : Int) ∧ SH w0 w' (rowM sm (pk m a x k) :: F)) (fun _ (i : Int) _ => (8 - i).toNat) ⟨0, rfl, by omega, by simp, h⟩ ?_
  rintro (y : Int) (i : Int) w4 ⟨k, rfl, hk, rfl, h4⟩ J hJ
  have hp : 1 ≤ 256 ^ k := Nat.one_le_pow _ _ (by omega)
  have hy0 : 0 ≤ x / ((256 ^ k : Nat) : Int) := Int.ediv_nonneg h0 (by omega)
  have hy1 : x / ((256 ^ k : Nat) : Int) ≤ x := Int.ediv_le_self _ h0
  refine BIf.dec (fun hlt => ?_) (fun hge => ?_)
  · have hidx : IntKind.i64.wrap ((a : Int) + (k : Int)) = ((a + k : Nat) : Int) := by rw [w64 (by omega) (by omega)]; omega
    rw [hidx, Int.toNat_natCast, Int.tmod_eq_emod_of_nonneg hy0, Int.tdiv_eq_ediv_of_nonneg hy0]
    have hm : IntKind.u8.wrap (x / ((256 ^ k : Nat) : Int) % 256) = x / ((256 ^ k : Nat) : Int) % 256 := by rw [IntKind.wrap_u8]; omega
    rw [hm]
    have hz : (pk m a x k)[a + k]? = some _ := List.getElem?_eq_getElem (by rw [pk_len]; omega)
    refine ⟨by omega, by omega, by omega, _, hba, h4.setE0 0 rfl hba (nums_get hz) rfl (fun w7 h7 n7 => ?_)⟩
    refine ⟨by omega, ?_⟩
    rw [w64 (by omega) (by omega), wu64 (by omega) (by omega)]
    rw [nums_set hz] at h7
    refine hJ _ _ _ ⟨k + 1, by omega, by omega, ?_, h7⟩ (by omega)
    rw [Nat.pow_succ, Int.natCast_mul, ← Int.ediv_ediv_of_nonneg (by omega)]; rfl
  · have hk2 : k = 8 := by omega
    subst hk2
    exact ⟨rfl, h4⟩
theorem s121 {w0 w : World} {b : Nat} {sm sf : Sl} {m : List Int} {T : Int} {F : List Asr} {t i x : Int} (h : SH w0 w (poolB b sm T sf :: rowM sm m :: F)) (ht : 0 ≤ t) (hi0 : 0 ≤ i) (hi : i < 32) (h0 : 0 ≤ x) (h1 : x < 18446744073709551616) (ha : t * 256 + 256 ≤ m.length) (hs : m.length ≤ 1048576) :
    CallW Try.prog 121 #[.pointer (some ⟨b, 0, none⟩), .int .i64 t, .int .i64 i, .int .u64 x] w (fun v w' => v = .tuple #[] ∧ SH w0 w' (poolB b sm T sf :: rowM sm (pk m (t * 256 + 8 * i).toNat x 8) :: F)) := by
  refine go121 ?_
  unfold W121
  refine ⟨_, rfl, sm, h.cell 0 rfl rfl, ?_⟩
  rw [w64 (n := t * 256) (by omega) (by omega), w64 (n := 8 * i) (by omega) (by omega), w64 (by omega) (by omega)]
  have hn : t * 256 + 8 * i = (((t * 256 + 8 * i).toNat : Nat) : Int) := by omega
  rw [hn]
  refine (s172 h.p1 h0 h1 (by omega) hs).mono ?_
  rintro _ w4 ⟨rfl, h4⟩
  rw [Int.toNat_natCast]
  exact ⟨rfl, rfl, h4.p1⟩
/-! ## The way -/
theorem tab_room {m : List Int} {free : List Bool} {n : Nat} {t : Int} {S : List Int} (h : Tab m free n t S) (hm : m.length = 256 * free.length) : 0 ≤ t ∧ t * 256 + 256 ≤ m.length := by
  have := h.rng; omega
theorem efr_rng (x : Int) : 0 ≤ efr x ∧ efr x < 4096 := by unfold efr; omega
theorem s171 {w0 w : World} {b : Nat} {sm sf : Sl} {m : List Int} {free : List Bool} {T root va : Int} {F : List Asr} {S0 : List Int} (h : SH w0 w (poolB b sm T sf :: rowM sm m :: F)) (hT : Tab m free 2 root S0) (hm : m.length = 256 * free.length) (hr : ∀ x, x ∈ m → 0 ≤ x ∧ x ≤ 255) (hs : m.length ≤ 1048576) (hv0 : 0 ≤ va) (hv1 : va < 8388608) :
    CallW Try.prog 171 #[.pointer (some ⟨b, 0, none⟩), .int .i64 root, .int .i64 va] w (fun v w' => ∃ l : Sl, v = .slice l.a l.len l.cap ∧ SH w0 w' (rowN l (wayF m va 2 root) :: poolB b sm T sf :: rowM sm m :: F)) := by
  refine go171 ?_
  unfold W171
  refine h.alloc (fun w1 h1 e1 n1 => ?_)
  have h1 : SH w0 w1 (rowN ⟨some ⟨w.heap.size, 0, none⟩, 1, 1⟩ ([] ++ [root]) :: poolB b sm T sf :: rowM sm m :: F) := h1.toRow (ys := [[.int .i64 root]]) (n := 1) (z := 1) rfl rfl (fun u hu => by rw [List.mem_singleton.1 hu]; rfl)
  refine LoopW.m2 (fun (l : Sl) (i : Int) w' => ∃ (n : Nat) (t : Int) (S pref : List Int), i = n ∧ n ≤ 2 ∧ pref.length + n = 2 ∧ pref ++ wayF m va n t = wayF m va 2 root ∧ Tab m free n t S ∧ SH w0 w' (rowN l (pref ++ [t]) :: poolB b sm T sf :: rowM sm m :: F)) (fun (l : Sl) (i : Int) _ => i.toNat) ⟨2, root, S0, [], rfl, by omega, rfl, rfl, hT, h1⟩ ?_
  rintro (l : Sl) (i : Int) w5 ⟨n, t, S, pref, rfl, hn, hpn, hW, hTt, h5⟩ J hJ
  refine BIf.dec (fun hlt => ?_) (fun hge => ?_)
  · have hll : l.len = pref.length + 1 := by rw [h5.len 0 rfl, nums_len]; simp
    have hix : IntKind.i64.wrap (((l.len : Nat) : Int) - 1) = (pref.length : Int) := by rw [w64 (by omega) (by omega)]; omega
    rw [hix, Int.toNat_natCast]
    have h6 := h5.drew
    have hx : (pref ++ [t])[pref.length]? = some t := by simp
    obtain ⟨q, hq, hqc⟩ := h6.elem0 0 rfl (nums_get hx) rfl
    refine ⟨by omega, by omega, q, hq, t, hqc, ?_⟩
    obtain ⟨k, rfl⟩ : ∃ k, n = k + 1 := ⟨n - 1, by omega⟩
    refine (c122 hv0 hv1 hn).mono ?_
    rintro _ w9 ⟨rfl, rfl⟩
    refine ⟨_, rfl, ⟨t, hqc, rfl⟩, rfl, ?_⟩
    have hix2 := ixV_rng va ((k + 1 : Nat) : Int)
    have hroom := tab_room hTt hm
    refine (c126 (SH.blk h6 1 rfl) (SH.bytes h6 2 rfl hr (by omega)) hroom.1 hix2.1 hix2.2 hroom.2).mono ?_
    rintro _ w ⟨rfl, rfl⟩
    refine ⟨_, rfl, BIf.eq (fun h0 => ?_) (fun hne => ?_)⟩
    · refine ⟨l, rfl, ?_⟩
      have h0 : entAt m t (ixV va ((k + 1 : Nat) : Int)) = 0 := h0
      have hw : wayF m va (k + 1) t = [t] := by unfold wayF; rw [if_pos h0]
      rw [← hW, hw]; exact h6
    · have hne : entAt m t (ixV va ((k + 1 : Nat) : Int)) ≠ 0 := hne
      have hw := word_rng hr (t * 256 + 8 * ixV va ((k + 1 : Nat) : Int))
      refine (c127 hw.1 hw.2).mono ?_
      rintro _ w16 ⟨rfl, e16⟩
      have h16 := h6.to e16
      refine ⟨_, _, _, _, _, _, _, _, _, rfl, LetW_iff.2 (SH.appendN1 h16 rfl rfl (by decide) (by simp; show (pref.length + 1 + 1) * 8 ≤ _; omega) (fun s' w28 h28 g1 g2 => ?_))⟩
      rw [w64 (by omega) (by omega)]
      obtain ⟨_, S1, hT1, _⟩ := hTt.sub hix2.1 hix2.2 hne
      refine hJ _ _ _ ⟨k, efr (entAt m t (ixV va ((k + 1 : Nat) : Int))), S1, pref ++ [t], by omega, by omega, by simp; omega, ?_, hT1, h28⟩ (by omega)
      rw [← hW]
      have : wayF m va (k + 1) t = t :: wayF m va k (efr (entAt m t (ixV va ((k + 1 : Nat) : Int)))) := by rw [wayF, if_neg hne]
      rw [this]; simp
  · obtain rfl : n = 0 := by omega
    refine ⟨l, rfl, ?_⟩
    rw [← hW]; exact h5
end Go.Proofs.Ytkgoanjemhbjgaa

/- The way through a space's tables, the reference's; a page's entry. Conditions: none. -/
set_option linter.unusedVariables false
set_option linter.unusedSimpArgs false
namespace Go.Proofs.Ytkgoanjemhbjgaa
open Go Go.Den
theorem wayF_z {m : List Int} {va : Int} {n : Nat} {t : Int} (h : entAt m t (ixV va ((n + 1 : Nat) : Int)) = 0) : wayF m va (n + 1) t = [t] := by unfold wayF; rw [if_pos h]
theorem wayF_s {m : List Int} {va : Int} {n : Nat} {t : Int} (h : entAt m t (ixV va ((n + 1 : Nat) : Int)) ≠ 0) : wayF m va (n + 1) t = t :: wayF m va n (efr (entAt m t (ixV va ((n + 1 : Nat) : Int)))) := by rw [wayF, if_neg h]
set_option maxHeartbeats 1000000 in
theorem s169 {w : World} {sm sf : Sl} {m : List Int} {free : List Bool} {T root va : Int} {S0 : List Int} (hbm : Bytes w sm m) (hT : Tab m free 2 root S0) (hm : m.length = 256 * free.length) (hs : m.length ≤ 262144) (hv0 : 0 ≤ va) (hv1 : va < 8388608) :
    CallW Try.prog 169 #[.agg #[.slice sm.a sm.len sm.cap, .int .i64 T, .slice sf.a sf.len sf.cap], .int .i64 root, .int .i64 va] w (fun v w' => ∃ l : Sl, v = .slice l.a l.len l.cap ∧ SH w w' [rowN l (slotW va 2 (wayF m va 2 root))]) := by
  refine go169 ?_
  unfold W169
  have h := SH.start w
  refine h.alloc (fun w1 h1 e1 n1 => h1.alloc (fun w2 h2 e2 n2 => ?_))
  have h2 := h2.drop
  have hr := hbm.rng
  refine LoopW.m3 (fun (l : Sl) (t : Int) (i : Int) w' => (∃ (n : Nat) (S pref : List Int), i = n ∧ n ≤ 2 ∧ pref.length + n = 2 ∧ pref ++ slotW va n (wayF m va n t) = slotW va 2 (wayF m va 2 root) ∧ Tab m free n t S ∧ SH w w' [rowN l pref, poolB w.heap.size sm T sf]) ∨ (i = -1 ∧ SH w w' [rowN l (slotW va 2 (wayF m va 2 root)), poolB w.heap.size sm T sf])) (fun (l : Sl) (t : Int) (i : Int) _ => (i + 1).toNat) (.inl ⟨2, S0, [], rfl, by omega, rfl, rfl, hT, h2.nil _ 1⟩) ?_
  rintro (l : Sl) (t : Int) (i : Int) w7 hinv J hJ
  rcases hinv with ⟨n, S, pref, rfl, hn, hpn, hW, hTt, h7⟩ | ⟨rfl, h7⟩
  · refine BIf.dec (fun hlt => ?_) (fun hge => by omega)
    have hroom := tab_room hTt hm
    refine (c129 hroom.1 (by omega) hv0 hv1 hn).mono ?_
    rintro _ w9 ⟨rfl, rfl⟩
    refine ⟨_, rfl, LetW_iff.2 (SH.appendN1 h7 rfl rfl (by decide) (by show (_ + 1) * 8 ≤ _; omega) (fun l12 w13 h13 g1 g2 => ?_))⟩
    have hix := ixV_rng va (n : Int)
    refine ⟨sm, h13.cell 1 rfl rfl, ?_⟩
    refine (c124 (hbm.ext h13.ext) (by show 0 ≤ t * 256 + 8 * ixV va (n : Int); omega) (by show t * 256 + 8 * ixV va (n : Int) + 8 ≤ _; omega)).mono ?_
    rintro _ w16 ⟨rfl, rfl⟩
    refine ⟨_, rfl, BIf.eq (fun h0 => ?_) (fun hne => ?_)⟩
    · have h0 : entAt m t (ixV va (n : Int)) = 0 := h0
      refine ⟨l12, rfl, ?_⟩
      have hw : slotW va n (wayF m va n t) = [slotA va n t] := by
        cases n with
        | zero => rfl
        | succ k => rw [wayF_z h0]; cases k <;> rfl
      rw [hw] at hW
      rw [← hW]; exact h13.one
    · have hne : entAt m t (ixV va (n : Int)) ≠ 0 := hne
      have hw := word_rng hr (t * 256 + 8 * ixV va (n : Int))
      have hsm := hTt.ent hix.1 hix.2 hne
      refine (c123 hw.1 hsm).mono ?_
      rintro _ w19 ⟨rfl, e19⟩
      have h19 := h13.to e19
      refine ⟨_, _, _, _, _, _, _, _, _, _, rfl, h19.alloc (fun w30 h30 e30 n30 => h30.put 0 rfl rfl rfl (fun w31 h31 n31 => ?_))⟩
      refine ⟨_, h31.cell 0 (i := 8) rfl rfl, ?_⟩
      rw [w64 (by omega) (by omega)]
      have hgo : SH w w31 [rowN l12 (pref ++ [slotA va n t]), poolB w.heap.size sm T sf] := h31.drop
      cases n with
      | zero =>
        refine hJ _ _ _ _ (.inr ⟨rfl, ?_⟩) (by show _ < _; omega)
        have hw2 : slotW va 0 (wayF m va 0 t) = [slotA va 0 t] := rfl
        rw [hw2] at hW; rw [← hW]; exact hgo
      | succ k =>
        obtain ⟨_, S1, hT1, _⟩ := hTt.sub hix.1 hix.2 hne
        refine hJ _ _ _ _ (.inl ⟨k, S1, pref ++ [slotA va (k + 1) t], by omega, by omega, by simp; omega, ?_, hT1, hgo⟩) (by omega)
        rw [← hW, wayF_s hne]
        show _ = pref ++ slotA va (k + 1) t :: slotW va k _
        simp; rfl
  · refine BIf.dec (fun hlt => by omega) (fun hge => ?_)
    exact ⟨l, rfl, h7.one⟩
/-! ## A page's entry -/
def pageX (m : List Int) (va root : Int) : Int := if (wayF m va 2 root).length = 3 then entAt m ((wayF m va 2 root).getD 2 0) (ixV va 0) else 0
/-- How a way can be. -/
inductive WayIs (m : List Int) (free : List Bool) (va root : Int) : Prop where
  | one (h : entAt m root (ixV va 2) = 0) (hw : wayF m va 2 root = [root]) : WayIs m free va root
  | two (t1 : Int) (S1 : List Int) (h2 : entAt m root (ixV va 2) ≠ 0) (ht1 : t1 = efr (entAt m root (ixV va 2))) (hT1 : Tab m free 1 t1 S1) (hr1 : root ≠ t1) (h : entAt m t1 (ixV va 1) = 0) (hw : wayF m va 2 root = [root, t1]) : WayIs m free va root
  | three (t1 t2 : Int) (S1 S2 : List Int) (h2 : entAt m root (ixV va 2) ≠ 0) (ht1 : t1 = efr (entAt m root (ixV va 2))) (hT1 : Tab m free 1 t1 S1) (hr1 : root ≠ t1) (h1 : entAt m t1 (ixV va 1) ≠ 0) (ht2 : t2 = efr (entAt m t1 (ixV va 1))) (hT2 : Tab m free 0 t2 S2) (hr2 : root ≠ t2) (hr3 : t1 ≠ t2) (hw : wayF m va 2 root = [root, t1, t2]) : WayIs m free va root
theorem way_is {m : List Int} {free : List Bool} {va root : Int} {S0 : List Int} (hT : Tab m free 2 root S0) : WayIs m free va root := by
  by_cases h2 : entAt m root (ixV va 2) = 0
  · exact .one h2 (wayF_z h2)
  · have hi2 := ixV_rng va 2
    have hi1 := ixV_rng va 1
    obtain ⟨_, S1, hT1, hS1⟩ := hT.sub hi2.1 hi2.2 h2
    have hw2 : wayF m va 2 root = root :: wayF m va 1 (efr (entAt m root (ixV va 2))) := wayF_s h2
    have hr1 : root ≠ efr (entAt m root (ixV va 2)) := fun hh => hT1.rng.2.2 (by rw [← hh]; exact hS1 root (by simp))
    by_cases h1 : entAt m (efr (entAt m root (ixV va 2))) (ixV va 1) = 0
    · exact .two _ S1 h2 rfl hT1 hr1 h1 (by rw [hw2, show wayF m va 1 _ = _ from wayF_z h1])
    · obtain ⟨_, S2, hT2, hS2⟩ := hT1.sub hi1.1 hi1.2 h1
      exact .three _ _ S1 S2 h2 rfl hT1 hr1 h1 rfl hT2 (fun hh => hT2.rng.2.2 (by rw [← hh]; exact hS2 root (by simp [hS1 root (by simp)]))) (fun hh => hT2.rng.2.2 (by rw [← hh]; exact hS2 _ (by simp))) (by rw [hw2, show wayF m va 1 _ = _ from wayF_s h1]; rfl)
theorem s120 {w0 w : World} {b : Nat} {sm sf : Sl} {m : List Int} {free : List Bool} {T root va : Int} {F : List Asr} {S0 : List Int} (h : SH w0 w (poolB b sm T sf :: rowM sm m :: F)) (hT : Tab m free 2 root S0) (hm : m.length = 256 * free.length) (hr : ∀ x, x ∈ m → 0 ≤ x ∧ x ≤ 255) (hs : m.length ≤ 1048576) (hv0 : 0 ≤ va) (hv1 : va < 8388608) :
    CallW Try.prog 120 #[.pointer (some ⟨b, 0, none⟩), .int .i64 root, .int .i64 va] w (fun v w' => ∃ l : Sl, v = .tuple #[.int .u64 (pageX m va root), .slice l.a l.len l.cap] ∧ SH w0 w' (rowN l (wayF m va 2 root) :: poolB b sm T sf :: rowM sm m :: F)) := by
  refine go120 ?_
  unfold W120
  refine (s171 h hT hm hr hs hv0 hv1).mono ?_
  rintro _ w2 ⟨l, rfl, h2⟩
  refine ⟨l, rfl, ?_⟩
  have hll : l.len = (wayF m va 2 root).length := by rw [h2.len 0 rfl, nums_len]
  have hshort : (wayF m va 2 root).length < 3 → pageX m va root = 0 := fun hh => by unfold pageX; rw [if_neg (by omega)]
  rcases way_is (va := va) hT with ⟨_, hw⟩ | ⟨t1, S1, _, _, _, _, _, hw⟩ | ⟨t1, t2, S1, S2, _, _, _, _, _, _, hT2, _, _, hw⟩
  · refine BIf.dec (fun hlt => ?_) (fun hge => by rw [hll, hw] at hge; simp at hge)
    exact ⟨l, by rw [hshort (by rw [hw]; simp)], h2⟩
  · refine BIf.dec (fun hlt => ?_) (fun hge => by rw [hll, hw] at hge; simp at hge)
    exact ⟨l, by rw [hshort (by rw [hw]; simp)], h2⟩
  · refine BIf.dec (fun hlt => by rw [hll, hw] at hlt; simp at hlt) (fun hge => ?_)
    have hl3 : l.len = 3 := by rw [hll, hw]; rfl
    have h3 := h2.drew
    have hx : (wayF m va 2 root)[2]? = some t2 := by rw [hw]; rfl
    obtain ⟨q, hq, hqc⟩ := h3.elem0 0 rfl (nums_get hx) rfl
    refine ⟨by omega, by omega, q, hq, t2, hqc, ?_⟩
    refine (c122 (l := 0) hv0 hv1 (by omega)).mono ?_
    rintro _ w9 ⟨rfl, rfl⟩
    refine ⟨_, rfl, ⟨t2, hqc, rfl⟩, ?_⟩
    have hroom := tab_room hT2 hm
    have hix := ixV_rng va ((0 : Nat) : Int)
    refine (c126 (SH.blk h3 1 rfl) (SH.bytes h3 2 rfl hr (by omega)) hroom.1 hix.1 hix.2 hroom.2).mono ?_
    rintro _ w ⟨rfl, rfl⟩
    refine ⟨_, rfl, l, ?_, h3⟩
    have : pageX m va root = entAt m t2 (ixV va 0) := by unfold pageX; rw [hw]; rfl
    rw [this]; rfl
theorem s115 {w : World} {sm sf : Sl} {m : List Int} {free : List Bool} {T root va : Int} {S0 : List Int} (hbm : Bytes w sm m) (hT : Tab m free 2 root S0) (hm : m.length = 256 * free.length) (hs : m.length ≤ 262144) (hv0 : 0 ≤ va) (hv1 : va < 8388608) :
    CallW Try.prog 115 #[.agg #[.slice sm.a sm.len sm.cap, .int .i64 T, .slice sf.a sf.len sf.cap], .int .i64 root, .int .i64 va] w (fun v w' => ∃ l : Sl, v = .tuple #[.slice l.a l.len l.cap, .bool (pageX m va root != 0)] ∧ SH w w' [rowN l (slotW va 2 (wayF m va 2 root))]) := by
  refine go115 ?_
  unfold W115
  have h := SH.start w
  refine h.alloc (fun w1 h1 e1 n1 => ?_)
  refine ⟨sm, h1.cell 0 rfl rfl, _, h1.cell 0 rfl rfl, sf, h1.cell 0 rfl rfl, ?_⟩
  refine (s169 (hbm.ext h1.ext) hT hm hs hv0 hv1).mono ?_
  rintro _ w6 ⟨l, rfl, g6⟩
  have h6 := h1.seq g6
  refine ⟨l, rfl, ?_⟩
  have hll : l.len = (wayF m va 2 root).length := by rw [h6.len 0 rfl, nums_len, slotW_len]
  have hshort : (wayF m va 2 root).length < 3 → (pageX m va root != 0) = false := fun hh => by unfold pageX; rw [if_neg (by omega)]; rfl
  have h7 := h6.drew
  rcases way_is (va := va) hT with ⟨_, hw⟩ | ⟨t1, S1, _, _, _, _, _, hw⟩ | ⟨t1, t2, S1, S2, _, _, _, _, _, _, hT2, _, _, hw⟩
  · refine BIf.eq (fun hlt => by rw [hll, hw] at hlt; simp at hlt) (fun hge => ?_)
    exact ⟨l, by rw [hshort (by rw [hw]; simp)], h7.one⟩
  · refine BIf.eq (fun hlt => by rw [hll, hw] at hlt; simp at hlt) (fun hge => ?_)
    exact ⟨l, by rw [hshort (by rw [hw]; simp)], h7.one⟩
  · refine BIf.eq (fun hge => ?_) (fun hlt => by rw [hll, hw] at hlt; simp at hlt)
    have hl3 : l.len = 3 := by rw [hll, hw]; rfl
    have hx : (slotW va 2 (wayF m va 2 root))[2]? = some (slotA va 0 t2) := by rw [hw]; rfl
    obtain ⟨q, hq, hqc⟩ := h7.elem0 0 rfl (nums_get hx) rfl
    have hroom := tab_room hT2 hm
    have hix := ixV_rng va ((0 : Nat) : Int)
    refine ⟨sm, h7.cell 1 rfl rfl, by omega, by omega, q, hq, _, hqc, ?_⟩
    refine (c124 (hbm.ext h7.ext) (by show 0 ≤ t2 * 256 + 8 * ixV va ((0 : Nat) : Int); omega) (by show t2 * 256 + 8 * ixV va ((0 : Nat) : Int) + 8 ≤ _; omega)).mono ?_
    rintro _ w16 ⟨rfl, rfl⟩
    refine ⟨_, rfl, l, ?_, h7.one⟩
    have : pageX m va root = entAt m t2 (ixV va 0) := by unfold pageX; rw [hw]; rfl
    rw [this]; rfl
end Go.Proofs.Ytkgoanjemhbjgaa

/- UnmapPage: what it comes to; what is asked, empty tables. Conditions: none. -/
set_option linter.unusedVariables false
set_option linter.unusedSimpArgs false
namespace Go.Proofs.Ytkgoanjemhbjgaa
open Go Go.Den
/-! ## What is asked -/
noncomputable def badB (m : List Int) (T : Int) (fr : List DBlock) (root va : Int) : Bool := (decide (va < 0) || decide (8388608 ≤ va) || decide (va % 256 ≠ 0)) || !(spaceT m T fr root).isSome
theorem bad_no {m : List Int} {T : Int} {fr : List DBlock} {root va : Int} (h : badB m T fr root va = false) : 0 ≤ va ∧ va < 8388608 ∧ ∃ S, spaceT m T fr root = some S := by
  unfold badB at h
  simp only [Bool.or_eq_false_iff, decide_eq_false_iff_not, Bool.not_eq_false'] at h
  exact ⟨by omega, by omega, Option.isSome_iff_exists.1 h.2⟩
theorem bad_step {m : List Int} {T : Int} {fr : List DBlock} {root va : Int} {w : World} {k : Bool → World → Prop} (h : k (decide (va < 0) || decide (8388608 ≤ va) || decide (va % 256 ≠ 0)) w) :
    JoinW [.bool] (fun J3 => BIf (decide (va < 0)) (J3 true w) (J3 (decide (va ≥ 8388608)) w)) fun (b2 : Bool) w4 => JoinW [.bool] (fun J6 => BIf b2 (J6 true w4) ((256 : Int) ≠ 0 ∧ J6 ((Int.tmod va 256 : Int) != 0) w4)) k := by
  refine JoinW.cut1 (fun (b : Bool) w' => b = (decide (va < 0) || decide (8388608 ≤ va)) ∧ w' = w) ?_ ?_
  · refine BIf.dec (fun h1 => ⟨by simp [h1], rfl⟩) (fun h1 => ⟨?_, rfl⟩)
    simp [h1]
  rintro (b : Bool) w ⟨rfl, rfl⟩
  refine JoinW.cut1 (fun (b : Bool) w' => b = (decide (va < 0) || decide (8388608 ≤ va) || decide (va % 256 ≠ 0)) ∧ w' = w) ?_ ?_
  · refine BIf.of (fun h1 => ⟨by rw [h1]; rfl, rfl⟩) (fun h1 => ⟨by omega, ?_, rfl⟩)
    rw [h1]
    simp only [Bool.or_eq_false_iff, decide_eq_false_iff_not] at h1
    rw [Int.tmod_eq_emod_of_nonneg (by omega), Bool.false_or]
    by_cases hh : va % 256 = 0
    · simp [hh]
    · simp [hh]
  rintro (b : Bool) w ⟨rfl, rfl⟩
  exact h
theorem s113 {sm sf : Sl} {m : List Int} {T root va : Int} {fr : List DBlock} {w : World} (hm : Bytes w sm m) (hf : FrAt w sf fr) :
    CallW Try.prog 113 #[.agg #[.slice sm.a sm.len sm.cap, .int .i64 T, .slice sf.a sf.len sf.cap], .int .i64 root, .int .i64 va] w (fun v w' => v = .bool (badB m T fr root va) ∧ Ext w w') := by
  refine go113 ?_
  unfold W113
  refine (SH.start w).alloc (fun w1 h1 e1 n1 => bad_step (m := m) (T := T) (fr := fr) (root := root) ?_)
  refine JoinW.cut1 (fun (b : Bool) w' => b = badB m T fr root va ∧ Ext w w') ?_ ?_
  · refine BIf.of (fun hh => ⟨by unfold badB; rw [hh]; rfl, e1⟩) (fun hh => ?_)
    refine ⟨sm, h1.cell 0 rfl rfl, _, h1.cell 0 rfl rfl, sf, h1.cell 0 rfl rfl, (c33 (hm.ext e1) (hf.ext e1)).mono ?_⟩
    rintro _ w15 ⟨rfl, e15⟩
    exact ⟨_, rfl, by unfold badB; rw [hh]; rfl, Only.trans e1 e15⟩
  · rintro (b : Bool) w10 ⟨rfl, e10⟩
    exact ⟨rfl, e10⟩
theorem s119 {sm sf : Sl} {m : List Int} {T root va : Int} {fr : List DBlock} {w : World} (hm : Bytes w sm m) (hf : FrAt w sf fr) (hfew : fr.length ≤ 1048576) :
    CallW Try.prog 119 #[.agg #[.slice sm.a sm.len sm.cap, .int .i64 T, .slice sf.a sf.len sf.cap], .int .i64 root, .int .i64 va] w (fun v w' => (badB m T fr root va = true ∧ v = .pointer none ∧ Ext w w') ∨ (badB m T fr root va = false ∧ ∃ (b : Nat) (tm tf : Sl), v = .pointer (some ⟨b, 0, none⟩) ∧ SH w w' [poolB b tm T tf, rowM tm m, rowF tf fr])) := by
  refine go119 ?_
  unfold W119
  refine (SH.start w).alloc (fun w1 h1 e1 n1 => bad_step (m := m) (T := T) (fr := fr) (root := root) ?_)
  obtain ⟨b0, hb0⟩ : ∃ b0, b0 = (decide (va < 0) || decide (8388608 ≤ va) || decide (va % 256 ≠ 0)) := ⟨_, rfl⟩
  rw [← hb0]
  have hbad : badB m T fr root va = (b0 || !(spaceT m T fr root).isSome) := by unfold badB; rw [hb0]
  refine JoinW.cut1 (fun (b : Bool) w' => ((b = true ∧ badB m T fr root va = true) ∨ (b = false ∧ b0 = false ∧ POk m T fr)) ∧ SH w w' [poolB w.heap.size sm T sf]) ?_ ?_
  · refine BIf.of (fun hh => ⟨.inl ⟨rfl, by rw [hbad, hh]; rfl⟩, h1⟩) (fun hh => ?_)
    refine ⟨sm, h1.cell 0 rfl rfl, _, h1.cell 0 rfl rfl, sf, h1.cell 0 rfl rfl, (c94 (hm.ext e1) (hf.ext e1)).mono ?_⟩
    rintro _ w15 ⟨b, rfl, hb, e15⟩
    refine ⟨b, rfl, ?_, h1.to e15⟩
    by_cases hok : POk m T fr
    · exact .inr ⟨by rw [hb.2 hok]; rfl, hh, hok⟩
    · have hbf : b = false := by cases b; rfl; exact absurd (hb.1 rfl) hok
      exact .inl ⟨by rw [hbf]; rfl, by rw [hbad, hh, spaceT_neg hok]; rfl⟩
  · rintro (b : Bool) w10 ⟨hcase, h10⟩
    rcases hcase with ⟨rfl, hx⟩ | ⟨rfl, hb0f, hok⟩
    · exact BIf.of (fun _ => .inl ⟨hx, rfl, h10.ext⟩) (fun hh => by cases hh)
    · refine BIf.of (fun hh => by cases hh) (fun _ => ?_)
      refine ⟨sm, h10.cell 0 rfl rfl, _, h10.cell 0 rfl rfl, sf, h10.cell 0 rfl rfl, (s95 (hm.ext h10.ext) (hf.ext h10.ext)).mono ?_⟩
      rintro _ w15 ⟨bp, tm, tf, rfl, g15⟩
      have h15 := h10.seq g15
      refine ⟨_, rfl, ?_⟩
      have hmb : Bytes w15 tm m := SH.bytes h15 1 rfl hm.rng (by have := hok.2.1; omega)
      have hfb : FrAt w15 tf fr := SH.frAt h15 2 rfl (by omega)
      refine (c96 (SH.blk h15 0 rfl) hmb hfb hok).mono ?_
      rintro _ w18 ⟨l, rfl, e18, hI1, hI2⟩
      refine ⟨l, rfl, ?_⟩
      rcases hsp : spaceT m T fr root with _ | S
      · have hres : tblF m (freeL T fr) 2 root [] = none := by rw [← spaceT_pos hok]; exact hsp
        rw [hI1 hres]
        exact BIf.of (fun _ => .inl ⟨by rw [hbad, hb0f, hsp]; rfl, rfl, (h15.to e18).ext⟩) (fun hh => by cases hh)
      · have hres : tblF m (freeL T fr) 2 root [] = some S := by rw [← spaceT_pos hok]; exact hsp
        obtain ⟨hla, _⟩ := hI2 S hres
        obtain ⟨al, hal⟩ := Option.isSome_iff_exists.1 hla
        refine BIf.of (fun hh => by rw [hal] at hh; cases hh) (fun _ => ?_)
        exact .inr ⟨by rw [hbad, hb0f, hsp]; rfl, bp, tm, tf, rfl, (h15.to e18).take 3⟩
/-! ## Empty tables -/
def emp (m : List Int) (t : Int) : Prop := ∀ i : Nat, i < fz → byt m (t * 256 + (i : Int)) = 0
theorem byt_nn {m : List Int} (h : ∀ x, x ∈ m → 0 ≤ x ∧ x ≤ 255) (i : Int) : 0 ≤ byt m i := by
  unfold byt
  rw [List.getD_eq_getElem?_getD]
  rcases hx : m[i.toNat]? with _ | x
  · exact Int.le_refl _
  · exact (h x (List.mem_of_getElem? hx)).1
theorem horn_zero {m : List Int} (hr : ∀ x, x ∈ m → 0 ≤ x ∧ x ≤ 255) (a : Int) : ∀ (k : Nat) (x : Int), 0 ≤ x → (hornr m a k x = 0 ↔ x = 0 ∧ ∀ j : Nat, j < k → byt m (a + (j : Int)) = 0)
  | 0, x, hx => ⟨fun h => ⟨h, fun j hj => by omega⟩, fun h => h.1⟩
  | k + 1, x, hx => by
    have hb := byt_nn hr (a + (k : Int))
    unfold hornr
    rw [horn_zero hr a k _ (by omega)]
    constructor
    · rintro ⟨h1, h2⟩
      exact ⟨by omega, fun j hj => by by_cases hk : j = k; subst hk; omega; exact h2 j (by omega)⟩
    · rintro ⟨h1, h2⟩
      exact ⟨by rw [h1, h2 k (by omega)]; rfl, fun j hj => h2 j (by omega)⟩
theorem emp_ents {m : List Int} (hr : ∀ x, x ∈ m → 0 ≤ x ∧ x ≤ 255) (t : Int) : emp m t ↔ ∀ i : Int, 0 ≤ i → i < 32 → entAt m t i = 0 := by
  unfold emp entAt word
  rw [fz_eq]
  constructor
  · intro h i h0 h1
    refine (horn_zero hr _ 8 0 (Int.le_refl _)).2 ⟨rfl, fun j hj => ?_⟩
    have := h (8 * i + j).toNat (by omega)
    rwa [show t * 256 + (((8 * i + (j : Int)).toNat : Nat) : Int) = t * 256 + 8 * i + (j : Int) by omega] at this
  · intro h i hi
    have := ((horn_zero hr _ 8 0 (Int.le_refl _)).1 (h ((i / 8 : Nat) : Int) (by omega) (by omega))).2 (i % 8) (by omega)
    rwa [show t * 256 + 8 * ((i / 8 : Nat) : Int) + ((i % 8 : Nat) : Int) = t * 256 + (i : Int) by omega] at this
set_option maxRecDepth 8000 in
theorem s125 {sm : Sl} {m : List Int} {t : Int} {w : World} (hm : Bytes w sm m) (h0 : 0 ≤ t) (h1 : t * 256 + 256 ≤ m.length) : CallW Try.prog 125 #[.slice sm.a sm.len sm.cap, .int .i64 t] w (fun v w' => ∃ b, v = .bool b ∧ (b = true ↔ emp m t) ∧ w' = w) := by
  refine go125 ?_
  unfold W125
  have hs := hm.small
  have hl := hm.len
  refine LoopW.m1 (fun (i : Int) w' => ∃ k : Nat, i = k ∧ k ≤ fz ∧ (∀ j : Nat, j < k → byt m (t * 256 + (j : Int)) = 0) ∧ w' = w) (fun (i : Int) _ => (fz - i).toNat) ⟨0, rfl, by omega, fun j hj => by omega, rfl⟩ ?_
  have hz := fz_eq
  rintro (i : Int) w3 ⟨k, rfl, hk, hall, rfl⟩ J hJ
  refine BIf.dec (fun hlt => ?_) (fun hge => ?_)
  · rw [w64 (n := t * 256) (by omega) (by omega), w64 (by omega) (by omega)]
    have hn : t * 256 + (k : Int) = (((t * 256 + (k : Int)).toNat : Nat) : Int) := by omega
    have hkl : (t * 256 + (k : Int)).toNat < m.length := by omega
    have hbt : m[(t * 256 + (k : Int)).toNat]? = some (byt m (t * 256 + (k : Int))) := by
      unfold byt
      rw [List.getD_eq_getElem?_getD, List.getElem?_eq_getElem hkl]; rfl
    obtain ⟨q, hq, hqc⟩ := hm.row.cell (i := (t * 256 + (k : Int)).toNat) (v := .int .u8 (byt m (t * 256 + (k : Int)))) (by rw [List.getElem?_map, hbt]; rfl)
    refine ⟨by omega, by omega, q, hq, byt m (t * 256 + (k : Int)), by rw [Nat.mul_one]; exact hqc, ?_⟩
    · refine BIf.ne (fun hne => ?_) (fun heq => ?_)
      · exact ⟨false, rfl, ⟨(fun hh => by cases hh), fun hh => absurd (hh k (by omega)) hne⟩, rfl⟩
      · rw [w64 (by omega) (by omega)]
        exact hJ _ _ ⟨k + 1, by omega, by omega, (fun j hj => by by_cases hjk : j = k; subst hjk; exact heq; exact hall j (by omega)), rfl⟩ (by omega)
  · exact ⟨true, rfl, ⟨fun _ j hj => hall j (by omega), fun _ => rfl⟩, rfl⟩
end Go.Proofs.Ytkgoanjemhbjgaa

/- UnmapPage, both sides. Conditions: none. -/
set_option linter.unusedVariables false
set_option linter.unusedSimpArgs false
namespace Go.Proofs.Ytkgoanjemhbjgaa
open Go Go.Den
/-! ## What it comes to -/
noncomputable def pkP (p : List Int × Int × List DBlock) (a : Nat) (x : Int) : List Int × Int × List DBlock := (pk p.1 a x 8, p.2)
theorem GvOk.pk {n : Nat} {T : Int} {p : List Int × Int × List DBlock} (h : GvOk n T p) (a : Nat) (x : Int) : GvOk n T (pkP p a x) :=
  ⟨by show (Ytkgoanjemhbjgaa.pk _ _ _ _).length = n; rw [pk_len]; exact h.len, h.tot, h.ok, h.few, fun y hy => pk_rng h.rng _ _ _ y hy⟩
/-- The tables of the way, from the last one. -/
def tk (t0 t1 t2 : Int) : Nat → Int | 0 => t2 | 1 => t1 | _ => t0
noncomputable def unS (va t0 t1 t2 : Int) (p : List Int × Int × List DBlock) : Nat → List Int × Int × List DBlock
  | 0 => pkP p (slotA va 0 t2).toNat 0
  | k + 1 => pkP (gv1 (unS va t0 t1 t2 p k) (tk t0 t1 t2 k)) (slotA va (k + 1) (tk t0 t1 t2 (k + 1))).toNat 0
open Classical in
noncomputable def unP (va t0 t1 t2 : Int) (p : List Int × Int × List DBlock) : List Int × Int × List DBlock :=
  if emp (unS va t0 t1 t2 p 0).1 t2 then (if emp (unS va t0 t1 t2 p 1).1 t1 then unS va t0 t1 t2 p 2 else unS va t0 t1 t2 p 1) else unS va t0 t1 t2 p 0
theorem un_stop {va t0 t1 t2 : Int} {p : List Int × Int × List DBlock} {k : Nat} (hk : k ≤ 2) (h : ∀ j, j < k → emp (unS va t0 t1 t2 p j).1 (tk t0 t1 t2 j)) (hs : k = 2 ∨ ¬ emp (unS va t0 t1 t2 p k).1 (tk t0 t1 t2 k)) : unP va t0 t1 t2 p = unS va t0 t1 t2 p k := by
  unfold unP
  have hc : k = 0 ∨ k = 1 ∨ k = 2 := by omega
  rcases hc with rfl | rfl | rfl
  · rw [if_neg (by rcases hs with hs | hs; omega; exact hs)]
  · have g0 : emp (unS va t0 t1 t2 p 0).1 t2 := h 0 (by omega)
    have g1 : ¬ emp (unS va t0 t1 t2 p 1).1 t1 := by rcases hs with hs | hs; omega; exact hs
    rw [if_pos g0, if_neg g1]
  · have g0 : emp (unS va t0 t1 t2 p 0).1 t2 := h 0 (by omega)
    have g1 : emp (unS va t0 t1 t2 p 1).1 t1 := h 1 (by omega)
    rw [if_pos g0, if_pos g1]
noncomputable def unF (m : List Int) (T : Int) (fr : List DBlock) (root va : Int) : (List Int × Int × List DBlock) × Int × Int :=
  if badB m T fr root va = true then (([], 0, []), 0, 1)
  else if pageX m va root = 0 then ((m, T, fr), 0, 3)
  else (unP va root ((wayF m va 2 root).getD 1 0) ((wayF m va 2 root).getD 2 0) (m, T, fr), pageX m va root, 0)
/-- The entry's cells; 0: none. -/
def enC (x : Int) : List Value := if x = 0 then zE else eCells x
theorem enCs {x : Int} (h : x ≠ 0) : enC x = eCells x := if_neg h
/-- What is true of the tables on the way. -/
structure Way3 (m : List Int) (T : Int) (fr : List DBlock) (va t0 t1 t2 : Int) : Prop where
  ok : POk m T fr
  hw : wayF m va 2 t0 = [t0, t1, t2]
  r0 : 0 ≤ t0 ∧ t0 < T
  r1 : 0 ≤ t1 ∧ t1 < T
  r2 : 0 ≤ t2 ∧ t2 < T
  d01 : t0 ≠ t1
  d02 : t0 ≠ t2
  d12 : t1 ≠ t2
  e2 : entAt m t0 (ixV va 2) ≠ 0
  e1 : entAt m t1 (ixV va 1) ≠ 0
  sm : entAt m t2 (ixV va 0) ≠ 0 → entAt m t2 (ixV va 0) < 1048576
theorem Way3.tk {m : List Int} {T : Int} {fr : List DBlock} {va t0 t1 t2 : Int} (h : Way3 m T fr va t0 t1 t2) (k : Nat) : 0 ≤ Ytkgoanjemhbjgaa.tk t0 t1 t2 k ∧ Ytkgoanjemhbjgaa.tk t0 t1 t2 k < T := by
  match k with
  | 0 => exact h.r2
  | 1 => exact h.r1
  | k + 2 => exact h.r0
theorem Way3.room {m : List Int} {T : Int} {fr : List DBlock} {va t0 t1 t2 : Int} (h : Way3 m T fr va t0 t1 t2) (k : Nat) : 0 ≤ Ytkgoanjemhbjgaa.tk t0 t1 t2 k ∧ Ytkgoanjemhbjgaa.tk t0 t1 t2 k * 256 + 256 ≤ m.length ∧ m.length ≤ 262144 := by
  have := h.tk k
  have := h.ok.1; have := h.ok.2.1; have := h.ok.2.2.2
  omega
theorem way3 {m : List Int} {T : Int} {fr : List DBlock} {root va : Int} {S : List Int} (h : spaceT m T fr root = some S) (hx : pageX m va root ≠ 0) : ∃ t1 t2, Way3 m T fr va root t1 t2 ∧ pageX m va root = entAt m t2 (ixV va 0) := by
  have hok := (spaceT_mem h).1
  have hT := tab_root h
  have hfl : ((freeL T fr).length : Int) = T := by rw [freeL_len]; have := hok.2.2.1.1; omega
  rcases way_is (va := va) hT with ⟨_, hw⟩ | ⟨t1, S1, _, _, _, _, _, hw⟩ | ⟨t1, t2, S1, S2, h2, _, hT1, hr1, h1, _, hT2, hr2, hr3, hw⟩
  · exfalso; apply hx; unfold pageX; rw [hw]; rfl
  · exfalso; apply hx; unfold pageX; rw [hw]; rfl
  · have hp : pageX m va root = entAt m t2 (ixV va 0) := by unfold pageX; rw [hw]; rfl
    have g0 := hT.rng; have g1 := hT1.rng; have g2 := hT2.rng
    exact ⟨t1, t2, ⟨hok, hw, ⟨g0.1, by omega⟩, ⟨g1.1, by omega⟩, ⟨g2.1, by omega⟩, hr1, hr2, hr3, h2, h1, fun hh => hT2.ent (ixV_rng va 0).1 (ixV_rng va 0).2 hh⟩, hp⟩
theorem unS_ok {m : List Int} {T : Int} {fr : List DBlock} {va t0 t1 t2 : Int} (h : Way3 m T fr va t0 t1 t2) (hr : ∀ x, x ∈ m → 0 ≤ x ∧ x ≤ 255) (hf : fr.length ≤ 1048576) : ∀ k, GvOk m.length T (unS va t0 t1 t2 (m, T, fr) k)
  | 0 => (gvOk0 h.ok hr hf).pk _ _
  | k + 1 => (gv1_ok (unS_ok h hr hf k) (h.tk k).1 (h.tk k).2).pk _ _
/-- A word outside of what is written. -/
theorem word_pk {m : List Int} {a : Nat} {x : Int} {s : Int} (hs : 0 ≤ s) (h : s + 8 ≤ a ∨ (a : Int) + 8 ≤ s) : word (pk m a x 8) s = word m s := by
  unfold word
  refine hornr_congr 8 0 (fun i h0 h1 => ?_)
  unfold byt
  exact pk_out m a x 8 _ (by omega)
theorem not_emp1 {m : List Int} {T : Int} {fr : List DBlock} {va t0 t1 t2 : Int} (h : Way3 m T fr va t0 t1 t2) (hr : ∀ x, x ∈ m → 0 ≤ x ∧ x ≤ 255) : ¬ emp (unS va t0 t1 t2 (m, T, fr) 0).1 t1 := by
  intro he
  have hpr : ∀ x, x ∈ (unS va t0 t1 t2 (m, T, fr) 0).1 → 0 ≤ x ∧ x ≤ 255 := fun y hy => pk_rng hr _ _ _ y hy
  have hi1 := ixV_rng va 1
  have hi0 := ixV_rng va 0
  have h1 := (emp_ents hpr t1).1 he (ixV va 1) hi1.1 hi1.2
  apply h.e1
  rw [← h1]
  unfold entAt
  show _ = word (pk m (slotA va 0 t2).toNat 0 8) _
  have := h.d12; have := h.r1; have := h.r2
  have hsl : slotA va 0 t2 = t2 * 256 + 8 * ixV va 0 := rfl
  rw [word_pk (by omega) (by omega)]
end Go.Proofs.Ytkgoanjemhbjgaa

/- UnmapPage, both sides: the walks. Conditions: none. -/
set_option linter.unusedVariables false
set_option linter.unusedSimpArgs false
namespace Go.Proofs.Ytkgoanjemhbjgaa
open Go Go.Den
theorem addrOf_mk {a : Addr} {K : Addr → Prop} (h : K a) : addrOf (some (.pointer (some a))) K := h
def UnV (r : (List Int × Int × List DBlock) × Int × Int) (w : World) (v : Value) (w' : World) : Prop := ∃ tm tf : Sl, v = .tuple #[.agg #[.slice tm.a tm.len tm.cap, .int .i64 r.1.2.1, .slice tf.a tf.len tf.cap], .agg ⟨enC r.2.1⟩, .int .i64 r.2.2] ∧ SH w w' [rowM tm r.1.1, rowF tf r.1.2.2]
theorem unF_bad {m : List Int} {T : Int} {fr : List DBlock} {root va : Int} (h : badB m T fr root va = true) : unF m T fr root va = (([], 0, []), 0, 1) := by unfold unF; rw [if_pos h]
theorem unF_no {m : List Int} {T : Int} {fr : List DBlock} {root va : Int} (h : badB m T fr root va = false) (hx : pageX m va root = 0) : unF m T fr root va = ((m, T, fr), 0, 3) := by unfold unF; rw [if_neg (by rw [h]; exact Bool.false_ne_true), if_pos hx]
theorem unF_yes {m : List Int} {T : Int} {fr : List DBlock} {root va t1 t2 : Int} (h : badB m T fr root va = false) (hx : pageX m va root ≠ 0) (hw : wayF m va 2 root = [root, t1, t2]) : unF m T fr root va = (unP va root t1 t2 (m, T, fr), pageX m va root, 0) := by unfold unF; rw [if_neg (by rw [h]; exact Bool.false_ne_true), if_neg hx, hw]; rfl
theorem way_get {t0 t1 t2 : Int} {k : Nat} (hk : k ≤ 2) : [t0, t1, t2][2 - k]? = some (tk t0 t1 t2 k) := by
  have hc : k = 0 ∨ k = 1 ∨ k = 2 := by omega
  rcases hc with rfl | rfl | rfl <;> rfl
theorem slot_get {va t0 t1 t2 : Int} {k : Nat} (hk : k ≤ 2) : (slotW va 2 [t0, t1, t2])[2 - k]? = some (slotA va k (tk t0 t1 t2 k)) := by
  have hc : k = 0 ∨ k = 1 ∨ k = 2 := by omega
  rcases hc with rfl | rfl | rfl <;> rfl
set_option maxHeartbeats 1000000 in
theorem s52 {sm sf : Sl} {m : List Int} {T root va : Int} {fr : List DBlock} {w : World} (hm : Bytes w sm m) (hf : FrAt w sf fr) (hfew : fr.length ≤ 1048576) :
    CallW Try.prog 52 #[.agg #[.slice sm.a sm.len sm.cap, .int .i64 T, .slice sf.a sf.len sf.cap], .int .i64 root, .int .i64 va] w (UnV (unF m T fr root va) w) := by
  refine go52 ?_
  unfold W52
  refine (SH.start w).alloc (fun w1 h1 e1 n1 => h1.alloc (fun w2 h2 e2 n2 => h2.alloc (fun w3 h3 e3 n3 => ?_)))
  refine ⟨sm, h3.cell 2 rfl rfl, _, h3.cell 2 rfl rfl, sf, h3.cell 2 rfl rfl, ?_⟩
  refine (s119 (hm.ext h3.ext) (hf.ext h3.ext) hfew).mono ?_
  rintro _ w8 (⟨hbad, rfl, e8⟩ | ⟨hgood, bp, tm, tf, rfl, g8⟩)
  · refine ⟨_, rfl, BIf.of (fun _ => ?_) (fun hh => by cases hh)⟩
    have h8 := h3.to e8
    refine h8.put 1 rfl rfl rfl (fun w10 h10 n10 => h10.put 0 rfl rfl rfl (fun w11 h11 n11 => ?_))
    refine ⟨⟨none, 0, 0⟩, h11.cell 1 rfl rfl, _, h11.cell 1 rfl rfl, ⟨none, 0, 0⟩, h11.cell 1 rfl rfl, _, h11.cell 0 rfl rfl, _, h11.cell 0 rfl rfl, _, h11.cell 0 rfl rfl, _, h11.cell 0 rfl rfl, _, h11.cell 0 rfl rfl, _, h11.cell 0 rfl rfl, _, h11.cell 0 rfl rfl, _, h11.cell 0 rfl rfl, _, h11.cell 0 rfl rfl, ?_⟩
    rw [unF_bad hbad]
    exact ⟨⟨none, 0, 0⟩, ⟨none, 0, 0⟩, rfl, sh_zero h11⟩
  · refine ⟨_, rfl, BIf.of (fun hh => by cases hh) (fun _ => ?_)⟩
    have h8 := h3.seq g8
    obtain ⟨hv0, hv1, S, hsp⟩ := bad_no hgood
    have hok := (spaceT_mem hsp).1
    have hml := hok.2.1
    refine (s120 (F := [rowF tf fr, aB w2.heap.size (zE.map Ce.v), aB w1.heap.size ([Value.slice none 0 0, .int .i64 0, .slice none 0 0].map Ce.v), aB w.heap.size ((pc sm T sf).map Ce.v)]) h8 (tab_root hsp) hok.len hm.rng (by omega) hv0 hv1).mono ?_
    rintro _ w25 ⟨l, rfl, h25⟩
    refine ⟨_, l, rfl, BIf.eq (fun hx0 => ?_) (fun hx => ?_)⟩
    · refine (s103 (h25.front (n := 1) rfl)).mono ?_
      rintro _ w29 ⟨rfl, h29⟩
      refine ⟨tm, _, tf, rfl, h29.put 5 rfl rfl rfl (fun w33 h33 n33 => h33.put 4 rfl rfl rfl (fun w34 h34 n34 => ?_))⟩
      refine ⟨tm, h34.cell 5 rfl rfl, _, h34.cell 5 rfl rfl, tf, h34.cell 5 rfl rfl, _, h34.cell 4 rfl rfl, _, h34.cell 4 rfl rfl, _, h34.cell 4 rfl rfl, _, h34.cell 4 rfl rfl, _, h34.cell 4 rfl rfl, _, h34.cell 4 rfl rfl, _, h34.cell 4 rfl rfl, _, h34.cell 4 rfl rfl, _, h34.cell 4 rfl rfl, ?_⟩
      rw [unF_no hgood hx0]
      exact ⟨tm, tf, rfl, h34.drop.drop.two⟩
    · obtain ⟨t1, t2, W, hpx⟩ := way3 hsp hx
      rw [W.hw] at h25
      have hll : l.len = 3 := by rw [h25.len 0 rfl, nums_len]; rfl
      have hxr := word_rng hm.rng (t2 * 256 + 8 * ixV va 0)
      have hx0 : 0 ≤ pageX m va root ∧ pageX m va root < 18446744073709551616 := by rw [hpx]; exact hxr
      have h26 := h25.drew
      obtain ⟨q, hq, hqc⟩ := h26.elem0 0 rfl (nums_get (way_get (t0 := root) (t1 := t1) (t2 := t2) (k := 0) (by omega))) rfl
      refine ⟨by omega, by omega, q, hq, t2, hqc, ?_⟩
      refine (c122 (l := 0) hv0 hv1 (by omega)).mono ?_
      rintro _ w50 ⟨rfl, rfl⟩
      refine ⟨_, rfl, ⟨t2, hqc, rfl⟩, ?_⟩
      have hi0 := ixV_rng va ((0 : Nat) : Int)
      have hroom0 := W.room 0
      refine (s121 (F := [rowF tf fr, rowN l [root, t1, t2], aB w2.heap.size (zE.map Ce.v), aB w1.heap.size ([Value.slice none 0 0, .int .i64 0, .slice none 0 0].map Ce.v), aB w.heap.size ((pc sm T sf).map Ce.v)]) (h26.p3.p3.p3) hroom0.1 hi0.1 hi0.2 (by omega) (by omega) hroom0.2.1 (by omega)).mono ?_
      rintro _ w54 ⟨rfl, h54⟩
      refine ⟨rfl, ?_⟩
      rw [unF_yes hgood hx W.hw]
      refine LoopW.m1 (fun (i : Int) w' => ∃ (k : Nat) (t : Sl), i = k ∧ k ≤ 2 ∧ (∀ j, j < k → emp (unS va root t1 t2 (m, T, fr) j).1 (tk root t1 t2 j)) ∧ SH w w' [poolB bp tm (unS va root t1 t2 (m, T, fr) k).2.1 t, rowM tm (unS va root t1 t2 (m, T, fr) k).1, rowF t (unS va root t1 t2 (m, T, fr) k).2.2, rowN l [root, t1, t2], aB w2.heap.size (zE.map Ce.v), aB w1.heap.size ([Value.slice none 0 0, .int .i64 0, .slice none 0 0].map Ce.v), aB w.heap.size ((pc sm T sf).map Ce.v)]) (fun (i : Int) _ => (2 - i).toNat) ⟨0, tf, rfl, by omega, (fun j hj => by omega), h54⟩ ?_
      rintro (i : Int) w57 ⟨k, t, rfl, hk, hemp, h57⟩ J hJ
      have hgo := unS_ok W hm.rng hfew k
      refine BIf.dec (fun hlt => ?_) (fun hge => ?_)
      · have hroom := W.room k
        have hi2k : IntKind.i64.wrap (2 - (k : Int)) = ((2 - k : Nat) : Int) := by rw [w64 (by omega) (by omega)]; omega
        have hi1k : IntKind.i64.wrap (1 - (k : Int)) = ((2 - (k + 1) : Nat) : Int) := by rw [w64 (by omega) (by omega)]; omega
        rw [hi2k, hi1k, Int.toNat_natCast, Int.toNat_natCast]
        obtain ⟨q2, hq2, hqc2⟩ := h57.elem0 3 rfl (nums_get (way_get (t0 := root) (t1 := t1) (t2 := t2) (k := k) (by omega))) rfl
        refine ⟨by omega, by omega, q2, hq2, _, hqc2, ?_⟩
        refine LoopW.m1 (fun (i : Int) w' => ∃ n : Nat, i = n ∧ n ≤ 32 ∧ (∀ j : Nat, j < n → entAt (unS va root t1 t2 (m, T, fr) k).1 (tk root t1 t2 k) (j : Int) = 0) ∧ w' = w57) (fun (i : Int) _ => (32 - i).toNat) ⟨0, rfl, by omega, (fun j hj => by omega), rfl⟩ ?_
        rintro (i : Int) w62 ⟨n, rfl, hn, hz, rfl⟩ J2 hJ2
        refine BIf.dec (fun hlt2 => ?_) (fun hge2 => ?_)
        · refine (c126 (SH.blk h57 0 rfl) (SH.bytes h57 1 rfl hgo.rng (by rw [hgo.len]; omega)) hroom.1 (by omega) (by omega) (by rw [hgo.len]; exact hroom.2.1)).mono ?_
          rintro _ w6x ⟨rfl, rfl⟩
          refine ⟨_, rfl, BIf.ne (fun hne => ?_) (fun heq => ?_)⟩
          · have hne : entAt (unS va root t1 t2 (m, T, fr) k).1 (tk root t1 t2 k) (n : Int) ≠ 0 := hne
            have hnemp : ¬ emp (unS va root t1 t2 (m, T, fr) k).1 (tk root t1 t2 k) := fun he => hne ((emp_ents hgo.rng _).1 he _ (by omega) (by omega))
            refine (s103 h57).mono ?_
            rintro _ w67 ⟨rfl, h67⟩
            refine ⟨tm, _, t, rfl, (c127 hx0.1 hx0.2).mono ?_⟩
            rintro _ w72 ⟨rfl, e72⟩
            have h72 := h67.to e72
            refine ⟨_, _, _, _, _, _, _, _, _, rfl, h72.put 5 rfl rfl rfl (fun w82 h82 n82 => h82.put 4 rfl rfl rfl (fun w83 h83 n83 => ?_))⟩
            refine ⟨tm, h83.cell 5 rfl rfl, _, h83.cell 5 rfl rfl, t, h83.cell 5 rfl rfl, _, h83.cell 4 rfl rfl, _, h83.cell 4 rfl rfl, _, h83.cell 4 rfl rfl, _, h83.cell 4 rfl rfl, _, h83.cell 4 rfl rfl, _, h83.cell 4 rfl rfl, _, h83.cell 4 rfl rfl, _, h83.cell 4 rfl rfl, _, h83.cell 4 rfl rfl, ?_⟩
            rw [un_stop (by omega) hemp (.inr hnemp)]
            exact ⟨tm, t, by rw [enCs hx]; rfl, h83.drop.two⟩
          · have heq : entAt (unS va root t1 t2 (m, T, fr) k).1 (tk root t1 t2 k) (n : Int) = 0 := heq
            rw [w64 (by omega) (by omega)]
            exact hJ2 _ _ ⟨n + 1, by omega, by omega, (fun j hj => by by_cases hjn : j = n; subst hjn; exact heq; exact hz j (by omega)), rfl⟩ (by omega)
        · have hn32 : n = 32 := by omega
          have hee : emp (unS va root t1 t2 (m, T, fr) k).1 (tk root t1 t2 k) := (emp_ents hgo.rng _).2 (fun i h0 h1 => by have := hz i.toNat (by omega); rwa [show ((i.toNat : Nat) : Int) = i by omega] at this)
          have hfn : tk root t1 t2 k = (((tk root t1 t2 k).toNat : Nat) : Int) := by omega
          rw [hfn]
          refine (s112 h57 (by rw [fz_eq, hgo.len]; omega) (by rw [hgo.len]; omega) (by have := hgo.few; omega)).mono ?_
          rintro _ w97 ⟨rfl, t3, h97⟩
          rw [← hfn] at h97
          refine ⟨rfl, by omega, by omega, ?_⟩
          have h98 := h97.drew
          obtain ⟨q3, hq3, hqc3⟩ := h98.elem0 3 rfl (nums_get (way_get (t0 := root) (t1 := t1) (t2 := t2) (k := k + 1) (by omega))) rfl
          refine ⟨q3, hq3, _, hqc3, ?_⟩
          have hk1 : IntKind.i64.wrap ((k : Int) + 1) = ((k + 1 : Nat) : Int) := by rw [w64 (by omega) (by omega)]; omega
          rw [hk1]
          refine (c122 (l := k + 1) hv0 hv1 (by omega)).mono ?_
          rintro _ w101 ⟨rfl, rfl⟩
          refine ⟨_, rfl, ⟨_, hqc3, rfl⟩, ?_⟩
          have hi1 := ixV_rng va ((k + 1 : Nat) : Int)
          have hroom1 := W.room (k + 1)
          have hg1 := gv1_ok hgo (W.tk k).1 (W.tk k).2
          refine (s121 h98 hroom1.1 hi1.1 hi1.2 (by omega) (by omega) (by rw [zer_len, hgo.len]; exact hroom1.2.1) (by rw [zer_len, hgo.len]; omega)).mono ?_
          rintro _ w105 ⟨rfl, h105⟩
          refine ⟨rfl, hJ _ _ ⟨k + 1, t3, rfl, by omega, (fun j hj => by by_cases hjk : j = k; subst hjk; exact hee; exact hemp j (by omega)), h105⟩ (by omega)⟩
      · have hk2 : k = 2 := by omega
        refine (s103 h57).mono ?_
        rintro _ w67 ⟨rfl, h67⟩
        refine ⟨tm, _, t, rfl, (c127 hx0.1 hx0.2).mono ?_⟩
        rintro _ w72 ⟨rfl, e72⟩
        have h72 := h67.to e72
        refine ⟨_, _, _, _, _, _, _, _, _, rfl, h72.put 5 rfl rfl rfl (fun w82 h82 n82 => h82.put 4 rfl rfl rfl (fun w83 h83 n83 => ?_))⟩
        refine ⟨tm, h83.cell 5 rfl rfl, _, h83.cell 5 rfl rfl, t, h83.cell 5 rfl rfl, _, h83.cell 4 rfl rfl, _, h83.cell 4 rfl rfl, _, h83.cell 4 rfl rfl, _, h83.cell 4 rfl rfl, _, h83.cell 4 rfl rfl, _, h83.cell 4 rfl rfl, _, h83.cell 4 rfl rfl, _, h83.cell 4 rfl rfl, _, h83.cell 4 rfl rfl, ?_⟩
        rw [un_stop (by omega) hemp (.inl hk2)]
        exact ⟨tm, t, by rw [enCs hx]; rfl, h83.drop.two⟩
set_option maxHeartbeats 1000000 in
theorem s51 {sm sf : Sl} {m : List Int} {T root va : Int} {fr : List DBlock} {w : World} (hm : Bytes w sm m) (hf : FrAt w sf fr) (hfew : fr.length ≤ 1048576) :
    CallW Try.prog 51 #[.agg #[.slice sm.a sm.len sm.cap, .int .i64 T, .slice sf.a sf.len sf.cap], .int .i64 root, .int .i64 va] w (UnV (unF m T fr root va) w) := by
  refine go51 ?_
  unfold W51
  refine (SH.start w).alloc (fun w1 h1 e1 n1 => h1.alloc (fun w2 h2 e2 n2 => h2.alloc (fun w3 h3 e3 n3 => ?_)))
  refine ⟨sm, h3.cell 2 rfl rfl, _, h3.cell 2 rfl rfl, sf, h3.cell 2 rfl rfl, ?_⟩
  refine (s113 (hm.ext h3.ext) (hf.ext h3.ext)).mono ?_
  rintro _ w8 ⟨rfl, e8⟩
  have h8 := h3.to e8
  refine ⟨_, rfl, BIf.of (fun hbad => ?_) (fun hgood => ?_)⟩
  · refine h8.put 1 rfl rfl rfl (fun w10 h10 n10 => h10.put 0 rfl rfl rfl (fun w11 h11 n11 => ?_))
    refine ⟨⟨none, 0, 0⟩, h11.cell 1 rfl rfl, _, h11.cell 1 rfl rfl, ⟨none, 0, 0⟩, h11.cell 1 rfl rfl, _, h11.cell 0 rfl rfl, _, h11.cell 0 rfl rfl, _, h11.cell 0 rfl rfl, _, h11.cell 0 rfl rfl, _, h11.cell 0 rfl rfl, _, h11.cell 0 rfl rfl, _, h11.cell 0 rfl rfl, _, h11.cell 0 rfl rfl, _, h11.cell 0 rfl rfl, ?_⟩
    rw [unF_bad hbad]
    exact ⟨⟨none, 0, 0⟩, ⟨none, 0, 0⟩, rfl, sh_zero h11⟩
  obtain ⟨hv0, hv1, S, hsp⟩ := bad_no hgood
  have hok := (spaceT_mem hsp).1
  have hml := hok.2.1
  refine ⟨sm, h8.cell 2 rfl rfl, _, h8.cell 2 rfl rfl, sf, h8.cell 2 rfl rfl, (s101 (hm.ext h8.ext) (hf.ext h8.ext)).mono ?_⟩
  rintro _ w28 ⟨tm, tf, rfl, g28⟩
  have h28 := h8.seq g28
  refine ⟨tm, _, tf, rfl, h28.alloc (fun w32 h32 e32 n32 => h32.put 0 rfl rfl rfl (fun w33 h33 n33 => ?_))⟩
  refine ⟨sm, h33.cell 5 rfl rfl, _, h33.cell 5 rfl rfl, sf, h33.cell 5 rfl rfl, (s115 (hm.ext h33.ext) (tab_root hsp) hok.len hml hv0 hv1).mono ?_⟩
  rintro _ w38 ⟨l, rfl, g38⟩
  have h38 := h33.seq g38
  refine ⟨l, _, rfl, BIf.not ?_⟩
  refine BIf.ne (fun hx => ?_) (fun hx0 => ?_)
  rotate_left
  · refine ⟨tm, h38.cell 1 rfl rfl, _, h38.cell 1 rfl rfl, tf, h38.cell 1 rfl rfl, h38.put 5 rfl rfl rfl (fun w44 h44 n44 => h44.put 4 rfl rfl rfl (fun w45 h45 n45 => ?_))⟩
    refine ⟨tm, h45.cell 5 rfl rfl, _, h45.cell 5 rfl rfl, tf, h45.cell 5 rfl rfl, _, h45.cell 4 rfl rfl, _, h45.cell 4 rfl rfl, _, h45.cell 4 rfl rfl, _, h45.cell 4 rfl rfl, _, h45.cell 4 rfl rfl, _, h45.cell 4 rfl rfl, _, h45.cell 4 rfl rfl, _, h45.cell 4 rfl rfl, _, h45.cell 4 rfl rfl, ?_⟩
    rw [unF_no hgood hx0]
    exact ⟨tm, tf, rfl, h45.drop.drop.two⟩
  obtain ⟨t1, t2, W, hpx⟩ := way3 hsp hx
  rw [W.hw] at h38
  rw [unF_yes hgood hx W.hw]
  have hll : l.len = 3 := by rw [h38.len 0 rfl, nums_len]; rfl
  have hxr := word_rng hm.rng (t2 * 256 + 8 * ixV va 0)
  have hxs : entAt m t2 (ixV va 0) < 1048576 := W.sm (by rw [← hpx]; exact hx)
  have hroom0 := W.room 0
  have hroom0' : 0 ≤ t2 ∧ t2 * 256 + 256 ≤ m.length ∧ m.length ≤ 262144 := hroom0
  have hi0 := ixV_rng va 0
  have hsl0 : slotA va 0 t2 = t2 * 256 + 8 * ixV va 0 := rfl
  have hen : word m (slotA va 0 t2) = pageX m va root := by rw [hpx]; rfl
  have h39 := h38.drew
  refine JoinW.cut1 (fun (p : Option Addr) w' => ∃ b : Nat, p = some ⟨b, 0, none⟩ ∧ SH w w' [aB b ((eCells (pageX m va root)).map Ce.v), rowN l (slotW va 2 [root, t1, t2]), poolB w28.heap.size tm T tf, rowM tm m, rowF tf fr, aB w2.heap.size (zE.map Ce.v), aB w1.heap.size ([Value.slice none 0 0, .int .i64 0, .slice none 0 0].map Ce.v), aB w.heap.size ((pc sm T sf).map Ce.v)]) ?_ ?_
  · obtain ⟨q, hq, hqc⟩ := h39.elem0 0 rfl (nums_get (slot_get (va := va) (t0 := root) (t1 := t1) (t2 := t2) (k := 0) (by omega))) rfl
    refine ⟨sm, h39.cell 6 rfl rfl, by omega, by omega, q, hq, _, hqc, ?_, ?_, trivial⟩
    · refine (c124 (hm.ext h39.ext) (by show 0 ≤ slotA va 0 t2; omega) (by show slotA va 0 t2 + 8 ≤ _; omega)).mono ?_
      rintro _ w149 ⟨rfl, rfl⟩
      refine ⟨_, rfl, ?_, ?_, trivial⟩
      · refine (c123 (x := word m (slotA va 0 t2)) (by rw [hen, hpx]; exact hxr.1) (by rw [hen, hpx]; exact hxs)).mono ?_
        rintro _ w168 ⟨rfl, e168⟩
        have h168 := h39.to e168
        refine ⟨_, _, _, _, _, _, _, _, _, _, rfl, h168.alloc (fun w179 h179 e179 n179 => ?_), trivial⟩
        have hqc2 := h179.rdE0 1 rfl hq (nums_get (slot_get (va := va) (t0 := root) (t1 := t1) (t2 := t2) (k := 0) (by omega))) rfl
        refine ⟨⟨_, hqc2, rfl⟩, ⟨sm, h179.cell 7 rfl rfl, rfl⟩, h179.put 0 rfl rfl rfl (fun w182 h182 n182 => ?_), trivial⟩
        refine ⟨_, rfl, ?_⟩
        rw [hen] at h182; exact h182
      · refine h39.alloc (fun w151 h151 e151 n151 => ?_)
        have hqc2 := h151.rdE0 1 rfl hq (nums_get (slot_get (va := va) (t0 := root) (t1 := t1) (t2 := t2) (k := 0) (by omega))) rfl
        refine ⟨⟨_, hqc2, rfl⟩, ⟨sm, h151.cell 7 rfl rfl, rfl⟩, ?_, trivial⟩
        refine (c123 (x := word m (slotA va 0 t2)) (by rw [hen, hpx]; exact hxr.1) (by rw [hen, hpx]; exact hxs)).mono ?_
        rintro _ w155 ⟨rfl, e155⟩
        have h155 := h151.to e155
        refine ⟨_, _, _, _, _, _, _, _, _, _, rfl, h155.put 0 rfl rfl rfl (fun w166 h166 n166 => ?_), trivial⟩
        refine ⟨_, rfl, ?_⟩
        rw [hen] at h166; exact h166
    · refine h39.alloc (fun w129 h129 e129 n129 => ?_)
      have hqc2 := h129.rdE0 1 rfl hq (nums_get (slot_get (va := va) (t0 := root) (t1 := t1) (t2 := t2) (k := 0) (by omega))) rfl
      refine ⟨⟨_, hqc2, rfl⟩, ⟨sm, h129.cell 7 rfl rfl, rfl⟩, ?_, trivial⟩
      refine (c124 (hm.ext h129.ext) (by show 0 ≤ slotA va 0 t2; omega) (by show slotA va 0 t2 + 8 ≤ _; omega)).mono ?_
      rintro _ w133 ⟨rfl, rfl⟩
      refine ⟨_, rfl, ?_, trivial⟩
      refine (c123 (x := word m (slotA va 0 t2)) (by rw [hen, hpx]; exact hxr.1) (by rw [hen, hpx]; exact hxs)).mono ?_
      rintro _ w155 ⟨rfl, e155⟩
      have h155 := h129.to e155
      refine ⟨_, _, _, _, _, _, _, _, _, _, rfl, h155.put 0 rfl rfl rfl (fun w166 h166 n166 => ?_), trivial⟩
      refine ⟨_, rfl, ?_⟩
      rw [hen] at h166; exact h166
  rintro (p : Option Addr) w60 ⟨b, rfl, h60⟩
  have h61 := h60.drew
  obtain ⟨q, hq, hqc⟩ := h61.elem0 1 rfl (nums_get (slot_get (va := va) (t0 := root) (t1 := t1) (t2 := t2) (k := 0) (by omega))) rfl
  refine ⟨tm, h61.cell 2 rfl rfl, by omega, by omega, q, hq, _, hqc, ?_⟩
  show CallW Try.prog 117 #[_, .int .i64 (slotA va 0 t2), _] _ _
  have hsn : slotA va 0 t2 = (((slotA va 0 t2).toNat : Nat) : Int) := by omega
  rw [hsn]
  refine (s117 (h61.front (n := 3) rfl) (by omega) (by omega) (by omega) (by omega)).mono ?_
  rintro _ w65 ⟨rfl, h65⟩
  refine ⟨rfl, ?_⟩
  refine LoopW.m1 (fun (i : Int) w' => ∃ (k j : Nat) (t : Sl), i = 2 - (k : Int) ∧ k ≤ 2 ∧ j ≤ k ∧ (∀ i, i < j → emp (unS va root t1 t2 (m, T, fr) i).1 (tk root t1 t2 i)) ∧ (j = k ∨ (j < k ∧ ¬ emp (unS va root t1 t2 (m, T, fr) j).1 (tk root t1 t2 j))) ∧ SH w w' [rowM tm (unS va root t1 t2 (m, T, fr) j).1, rowF t (unS va root t1 t2 (m, T, fr) j).2.2, poolB w28.heap.size tm (unS va root t1 t2 (m, T, fr) j).2.1 t, aB b ((eCells (pageX m va root)).map Ce.v), rowN l (slotW va 2 [root, t1, t2]), aB w2.heap.size (zE.map Ce.v), aB w1.heap.size ([Value.slice none 0 0, .int .i64 0, .slice none 0 0].map Ce.v), aB w.heap.size ((pc sm T sf).map Ce.v)]) (fun (i : Int) _ => i.toNat) ⟨0, 0, tf, rfl, by omega, by omega, (fun j hj => by omega), .inl rfl, ?_⟩ ?_
  · exact ((h65.front (n := 4) rfl).front (n := 4) rfl).p1.p2
  rintro (i : Int) w68 ⟨k, j, t, rfl, hk, hjk, hemp, hst, h68⟩ J hJ
  have hgo := unS_ok W hm.rng hfew j
  refine BIf.dec (fun hlt => ?_) (fun hge => ?_)
  · have hroomk := W.room k
    have hi2k : (2 - (k : Int)) = ((2 - k : Nat) : Int) := by omega
    have hik := ixV_rng va (k : Int)
    have hslk : slotA va k (tk root t1 t2 k) = tk root t1 t2 k * 256 + 8 * ixV va (k : Int) := rfl
    obtain ⟨q2, hq2, hqc2⟩ := h68.elem0 4 rfl (nums_get (slot_get (va := va) (t0 := root) (t1 := t1) (t2 := t2) (k := k) (by omega))) rfl
    refine ⟨by omega, by omega, q2, hq2, _, by rw [hi2k, Int.toNat_natCast]; exact hqc2, by omega, tm, h68.cell 2 rfl rfl, ?_⟩
    have hdiv : IntKind.i64.wrap (Int.tdiv (slotA va k (tk root t1 t2 k)) 256) = tk root t1 t2 k := by
      rw [Int.tdiv_eq_ediv_of_nonneg (by omega), w64 (by omega) (by omega)]; omega
    rw [hdiv]
    refine (s125 (SH.bytes h68 0 rfl hgo.rng (by rw [hgo.len]; omega)) hroomk.1 (by rw [hgo.len]; exact hroomk.2.1)).mono ?_
    rintro _ w73 ⟨be, rfl, hbe, rfl⟩
    refine ⟨be, rfl, BIf.of (fun hb => ?_) (fun hb => ?_)⟩
    · have hee := hbe.1 hb
      have hjk2 : j = k := by
        rcases hst with hh | ⟨hh, hne⟩
        · exact hh
        · exfalso
          have hj0 : j = 0 := by omega
          have hk1 : k = 1 := by omega
          subst hj0; subst hk1
          exact not_emp1 W hm.rng hee
      subst hjk2
      refine ⟨tm, h68.cell 2 rfl rfl, _, h68.cell 2 rfl rfl, t, h68.cell 2 rfl rfl, ?_⟩
      have hfn : tk root t1 t2 j = (((tk root t1 t2 j).toNat : Nat) : Int) := by omega
      rw [hfn]
      refine (s111 h68 (by rw [fz_eq, hgo.len]; omega) (by rw [hgo.len]; omega) (by have := hgo.few; omega)).mono ?_
      rintro _ w79 ⟨t3, rfl, h79⟩
      rw [← hfn] at h79 ⊢
      refine ⟨tm, _, t3, rfl, h79.put 2 rfl rfl rfl (fun w83 h83 n83 => ?_)⟩
      have h84 := h83.drew
      have hi1 : IntKind.i64.wrap (2 - (j : Int) - 1) = ((2 - (j + 1) : Nat) : Int) := by rw [w64 (by omega) (by omega)]; omega
      rw [hi1, Int.toNat_natCast]
      obtain ⟨q3, hq3, hqc3⟩ := h84.elem0 4 rfl (nums_get (slot_get (va := va) (t0 := root) (t1 := t1) (t2 := t2) (k := j + 1) (by omega))) rfl
      refine ⟨tm, h84.cell 2 rfl rfl, by omega, by omega, q3, hq3, _, hqc3, ?_⟩
      have hroom1 := W.room (j + 1)
      have hij := ixV_rng va ((j + 1 : Nat) : Int)
      have hsl1 : slotA va (j + 1) (tk root t1 t2 (j + 1)) = tk root t1 t2 (j + 1) * 256 + 8 * ixV va ((j + 1 : Nat) : Int) := rfl
      have hsn1 : slotA va (j + 1) (tk root t1 t2 (j + 1)) = (((slotA va (j + 1) (tk root t1 t2 (j + 1))).toNat : Nat) : Int) := by omega
      rw [hsn1]
      refine (s117 h84 (by omega) (by omega) (by rw [zer_len, hgo.len]; omega) (by rw [zer_len, hgo.len]; omega)).mono ?_
      rintro _ w88 ⟨rfl, h88⟩
      refine ⟨rfl, ?_⟩
      refine hJ _ _ ⟨j + 1, j + 1, t3, by omega, by omega, by omega, (fun i hi => by by_cases hij : i = j; subst hij; exact hee; exact hemp i (by omega)), .inl rfl, h88⟩ (by omega)
    · rw [w64 (by omega) (by omega)]
      have hne : ¬ emp (unS va root t1 t2 (m, T, fr) j).1 (tk root t1 t2 k) := fun hh => by rw [hbe.2 hh] at hb; cases hb
      refine hJ _ _ ⟨k + 1, j, t, by omega, by omega, by omega, hemp, .inr ⟨by omega, ?_⟩, h68⟩ (by omega)
      rcases hst with hh | ⟨_, hh⟩
      · rw [hh] at hne ⊢; exact hne
      · exact hh
  · have hk2 : k = 2 := by omega
    have h69 := h68.drew
    refine ⟨tm, h69.cell 2 rfl rfl, _, h69.cell 2 rfl rfl, t, h69.cell 2 rfl rfl, addrOf_mk ?_⟩
    refine ⟨_, h69.cell 3 rfl rfl, _, h69.cell 3 rfl rfl, _, h69.cell 3 rfl rfl, _, h69.cell 3 rfl rfl, _, h69.cell 3 rfl rfl, _, h69.cell 3 rfl rfl, _, h69.cell 3 rfl rfl, _, h69.cell 3 rfl rfl, _, h69.cell 3 rfl rfl, h69.put 6 rfl rfl rfl (fun w102 h102 n102 => ?_)⟩
    refine ⟨addrOf_mk ⟨_, h102.cell 3 rfl rfl, _, h102.cell 3 rfl rfl, _, h102.cell 3 rfl rfl, _, h102.cell 3 rfl rfl, _, h102.cell 3 rfl rfl, _, h102.cell 3 rfl rfl, _, h102.cell 3 rfl rfl, _, h102.cell 3 rfl rfl, _, h102.cell 3 rfl rfl, rfl⟩, h102.put 5 rfl rfl rfl (fun w113 h113 n113 => ?_)⟩
    refine ⟨tm, h113.cell 6 rfl rfl, _, h113.cell 6 rfl rfl, t, h113.cell 6 rfl rfl, _, h113.cell 5 rfl rfl, _, h113.cell 5 rfl rfl, _, h113.cell 5 rfl rfl, _, h113.cell 5 rfl rfl, _, h113.cell 5 rfl rfl, _, h113.cell 5 rfl rfl, _, h113.cell 5 rfl rfl, _, h113.cell 5 rfl rfl, _, h113.cell 5 rfl rfl, ?_⟩
    rw [un_stop (k := j) (by omega) hemp (by rcases hst with hh | ⟨_, hh⟩; exact .inl (by omega); exact .inr hh)]
    exact ⟨tm, t, by rw [enCs hx]; rfl, h113.two⟩
end Go.Proofs.Ytkgoanjemhbjgaa

/- The types of the laws' parameters, as values of Lean's. Conditions: none. -/
set_option linter.unusedVariables false
set_option maxRecDepth 100000
namespace Go.Proofs.Ytkgoanjemhbjgaa
open Go Go.Den
structure DEntry where
  Valid : Bool
  Read : Bool
  Write : Bool
  Exec : Bool
  User : Bool
  Seen : Bool
  Dirty : Bool
  Soft : Bool
  Frame : Int
abbrev TyEntry : Ty := .st [.bool, .bool, .bool, .bool, .bool, .bool, .bool, .bool, (.int .i64)]
def DEntry.dat (x : DEntry) : Dat := .st [.bool x.Valid, .bool x.Read, .bool x.Write, .bool x.Exec, .bool x.User, .bool x.Seen, .bool x.Dirty, .bool x.Soft, .int .i64 x.Frame]
theorem DEntry.has (x : DEntry) : Has TyEntry x.dat := mk_st (mkF_cons (mk_bool) (mkF_cons (mk_bool) (mkF_cons (mk_bool) (mkF_cons (mk_bool) (mkF_cons (mk_bool) (mkF_cons (mk_bool) (mkF_cons (mk_bool) (mkF_cons (mk_bool) (mkF_cons (mk_int) (mkF_nil))))))))))
def DEntry.cells (x : DEntry) : List Value := [.bool x.Valid, .bool x.Read, .bool x.Write, .bool x.Exec, .bool x.User, .bool x.Seen, .bool x.Dirty, .bool x.Soft, .int .i64 x.Frame]
end Go.Proofs.Ytkgoanjemhbjgaa

/- The law's own functions over trees: copies, sizes, comparisons, marks; printed by a program. Conditions: none. -/
set_option linter.unusedVariables false
set_option linter.unusedSimpArgs false
set_option maxRecDepth 4000
namespace Go.Proofs.Ytkgoanjemhbjgaa
open Go Go.Den

theorem has_Entry {d : Dat} (h : Has TyEntry d) : ∃ x_0 : Bool, ∃ x_1 : Bool, ∃ x_2 : Bool, ∃ x_3 : Bool, ∃ x_4 : Bool, ∃ x_5 : Bool, ∃ x_6 : Bool, ∃ x_7 : Bool, ∃ x_8 : Int, d = .st [.bool x_0, .bool x_1, .bool x_2, .bool x_3, .bool x_4, .bool x_5, .bool x_6, .bool x_7, .int .i64 x_8] := by
  obtain ⟨_, rfl, g⟩ := has_st h
  obtain ⟨_, _, rfl, h_0, g⟩ := hasF_cons g
  obtain ⟨_, _, rfl, h_1, g⟩ := hasF_cons g
  obtain ⟨_, _, rfl, h_2, g⟩ := hasF_cons g
  obtain ⟨_, _, rfl, h_3, g⟩ := hasF_cons g
  obtain ⟨_, _, rfl, h_4, g⟩ := hasF_cons g
  obtain ⟨_, _, rfl, h_5, g⟩ := hasF_cons g
  obtain ⟨_, _, rfl, h_6, g⟩ := hasF_cons g
  obtain ⟨_, _, rfl, h_7, g⟩ := hasF_cons g
  obtain ⟨_, _, rfl, h_8, g⟩ := hasF_cons g
  obtain rfl := hasF_nil g
  obtain ⟨x_0, rfl⟩ := has_bool h_0
  obtain ⟨x_1, rfl⟩ := has_bool h_1
  obtain ⟨x_2, rfl⟩ := has_bool h_2
  obtain ⟨x_3, rfl⟩ := has_bool h_3
  obtain ⟨x_4, rfl⟩ := has_bool h_4
  obtain ⟨x_5, rfl⟩ := has_bool h_5
  obtain ⟨x_6, rfl⟩ := has_bool h_6
  obtain ⟨x_7, rfl⟩ := has_bool h_7
  obtain ⟨x_8, rfl⟩ := has_int h_8
  exact ⟨x_0, x_1, x_2, x_3, x_4, x_5, x_6, x_7, x_8, rfl⟩
theorem cells_Entry {w : World} {x_0 : Bool} {x_1 : Bool} {x_2 : Bool} {x_3 : Bool} {x_4 : Bool} {x_5 : Bool} {x_6 : Bool} {x_7 : Bool} {x_8 : Int} {cs : List Value} (h : IsD w (.st [.bool x_0, .bool x_1, .bool x_2, .bool x_3, .bool x_4, .bool x_5, .bool x_6, .bool x_7, .int .i64 x_8]) cs) : cs = [.bool x_0, .bool x_1, .bool x_2, .bool x_3, .bool x_4, .bool x_5, .bool x_6, .bool x_7, .int .i64 x_8] ∧ ((Lit.int .i64 x_8).wf = true) := by
  have q := isD_st h
  obtain ⟨_, _, rfl, i_0, q⟩ := isF_cons q
  obtain ⟨_, _, rfl, i_1, q⟩ := isF_cons q
  obtain ⟨_, _, rfl, i_2, q⟩ := isF_cons q
  obtain ⟨_, _, rfl, i_3, q⟩ := isF_cons q
  obtain ⟨_, _, rfl, i_4, q⟩ := isF_cons q
  obtain ⟨_, _, rfl, i_5, q⟩ := isF_cons q
  obtain ⟨_, _, rfl, i_6, q⟩ := isF_cons q
  obtain ⟨_, _, rfl, i_7, q⟩ := isF_cons q
  obtain ⟨_, _, rfl, i_8, q⟩ := isF_cons q
  obtain rfl := isF_nil q
  obtain rfl := isD_bool i_0
  obtain rfl := isD_bool i_1
  obtain rfl := isD_bool i_2
  obtain rfl := isD_bool i_3
  obtain rfl := isD_bool i_4
  obtain rfl := isD_bool i_5
  obtain rfl := isD_bool i_6
  obtain rfl := isD_bool i_7
  obtain ⟨rfl, ws_8⟩ := isD_int i_8
  exact ⟨rfl, ws_8⟩
/- toEntry -/
/- eqEntry -/
theorem c53 {d : Dat} {cs1 cs2 : List Value} {w : World} (ht : Has TyEntry d) (h : IsD w d cs1) (h2 : IsD w d cs2) : CallW Try.prog 53 #[.agg ⟨cs1⟩, .agg ⟨cs2⟩] w (fun v w' => v = .bool true ∧ Ext w w') := by
  obtain ⟨x_0, x_1, x_2, x_3, x_4, x_5, x_6, x_7, x_8, rfl⟩ := has_Entry ht
  obtain ⟨rfl, ws_8⟩ := cells_Entry h
  obtain ⟨rfl, wu_8⟩ := cells_Entry h2
  show CallW Try.prog 53 #[.agg #[.bool x_0, .bool x_1, .bool x_2, .bool x_3, .bool x_4, .bool x_5, .bool x_6, .bool x_7, .int .i64 x_8], .agg #[.bool x_0, .bool x_1, .bool x_2, .bool x_3, .bool x_4, .bool x_5, .bool x_6, .bool x_7, .int .i64 x_8]] w _
  refine go53 ?_
  unfold W53
  refine alloc_step (fun w1 e1 ha n1 => ?_)
  refine alloc_step (fun w2 e2 hb n2 => ?_)
  have ha := ha.ext e2
  have e := Only.trans e1 e2
  refine ⟨_, ha.cell 0, _, hb.cell 0, BIf.f (by simp) ?_⟩
  refine ⟨_, ha.cell 1, _, hb.cell 1, BIf.f (by simp) ?_⟩
  refine ⟨_, ha.cell 2, _, hb.cell 2, BIf.f (by simp) ?_⟩
  refine ⟨_, ha.cell 3, _, hb.cell 3, BIf.f (by simp) ?_⟩
  refine ⟨_, ha.cell 4, _, hb.cell 4, BIf.f (by simp) ?_⟩
  refine ⟨_, ha.cell 5, _, hb.cell 5, BIf.f (by simp) ?_⟩
  refine ⟨_, ha.cell 6, _, hb.cell 6, BIf.f (by simp) ?_⟩
  refine ⟨_, ha.cell 7, _, hb.cell 7, BIf.f (by simp) ?_⟩
  refine ⟨_, ha.cell 8, _, hb.cell 8, BIf.f (by simp) ?_⟩
  exact ⟨rfl, e⟩

end Go.Proofs.Ytkgoanjemhbjgaa

/- UnmapPage as the law asks it. Conditions: none. -/
set_option linter.unusedVariables false
set_option linter.unusedSimpArgs false
namespace Go.Proofs.Ytkgoanjemhbjgaa
open Go Go.Den
def enD (x : Int) : DEntry := if x = 0 then ⟨false, false, false, false, false, false, false, false, 0⟩ else ⟨ebit x 0, ebit x 1, ebit x 2, ebit x 3, ebit x 4, ebit x 5, ebit x 6, ebit x 7, efr x⟩
theorem enD_cells (x : Int) : (enD x).cells = enC x := by unfold enD enC; split <;> rfl
theorem entry_fr {w0 w : World} (h : Ext w0 w) (x : DEntry) (hx : (Lit.int .i64 x.Frame).wf = true) : Fr w0.heap.size w.heap.size w x.dat x.cells := by
  have h0 : SH w0 w [] := (SH.start w0).to h
  have g := SH.vx (.bool x.Valid) (SH.vx (.bool x.Read) (SH.vx (.bool x.Write) (SH.vx (.bool x.Exec) (SH.vx (.bool x.User) (SH.vx (.bool x.Seen) (SH.vx (.bool x.Dirty) (SH.vx (.bool x.Soft) (SH.vx (.int .i64 x.Frame) (SH.v0 h0)))))))))
  have hce : x.dat.ce = [.v (.bool x.Valid), .v (.bool x.Read), .v (.bool x.Write), .v (.bool x.Exec), .v (.bool x.User), .v (.bool x.Seen), .v (.bool x.Dirty), .v (.bool x.Soft), .v (.int .i64 x.Frame)] := by
    simp only [DEntry.dat, Dat.ce, Dat.ces, List.cons_append, List.nil_append]
  refine SH.fr (F := []) (by rw [hce]; exact g) ?_
  simp only [DEntry.dat, Dat.fit, Dat.fits]
  exact ⟨trivial, trivial, trivial, trivial, trivial, trivial, trivial, trivial, hx, trivial⟩
theorem enD_wf (x : Int) : (Lit.int .i64 (enD x).Frame).wf = true := by
  unfold enD
  split
  · rfl
  · have := efr_rng x; exact wf_i64 (by show _ ≤ efr x; omega) (by show efr x ≤ _; omega)
noncomputable def unPool (x : DPool) (root va : Int) : DPool := ⟨(unF x.Mem x.Free.Total x.Free.Free root va).1.1, ⟨(unF x.Mem x.Free.Total x.Free.Free root va).1.2.1, (unF x.Mem x.Free.Total x.Free.Free root va).1.2.2⟩⟩
noncomputable def unEnt (x : DPool) (root va : Int) : DEntry := enD (unF x.Mem x.Free.Total x.Free.Free root va).2.1
noncomputable def unCode (x : DPool) (root va : Int) : Int := (unF x.Mem x.Free.Total x.Free.Free root va).2.2
theorem un_len {m : List Int} {T : Int} {fr : List DBlock} {root va : Int} (hm : ∀ x, x ∈ m → 0 ≤ x ∧ x ≤ 255) (hl : m.length ≤ 1048576) (hf : fr.length ≤ 1048576) (hT : (Lit.int .i64 T).wf = true) (hfw : ∀ x, x ∈ fr → (Lit.int .i64 x.At).wf = true ∧ (Lit.int .i64 x.Order).wf = true) : POut (unF m T fr root va).1.1 (unF m T fr root va).1.2.1 (unF m T fr root va).1.2.2 := by
  by_cases hb : badB m T fr root va = true
  · rw [unF_bad hb]
    exact ⟨fun x hx => absurd hx List.not_mem_nil, Nat.zero_le _, Nat.zero_le _, by decide, fun x hx => absurd hx List.not_mem_nil⟩
  · have hb : badB m T fr root va = false := by simpa using hb
    by_cases hx : pageX m va root = 0
    · rw [unF_no hb hx]
      exact ⟨hm, by show m.length ≤ _; omega, by show fr.length ≤ _; omega, hT, hfw⟩
    · obtain ⟨_, _, S, hsp⟩ := bad_no hb
      obtain ⟨t1, t2, W, _⟩ := way3 hsp hx
      rw [unF_yes hb hx W.hw]
      have hgo := unS_ok W hm hf
      have hc : ∃ k, unP va root t1 t2 (m, T, fr) = unS va root t1 t2 (m, T, fr) k := by
        unfold unP; split
        · split
          · exact ⟨2, rfl⟩
          · exact ⟨1, rfl⟩
        · exact ⟨0, rfl⟩
      obtain ⟨k, hk⟩ := hc
      show POut (unP va root t1 t2 (m, T, fr)).1 (unP va root t1 t2 (m, T, fr)).2.1 (unP va root t1 t2 (m, T, fr)).2.2
      rw [hk]
      exact (hgo k).out (by omega)
theorem pool_wf {x : DPool} {w : World} {cs : List Value} (h : IsD w x.dat cs) : (Lit.int .i64 x.Free.Total).wf = true ∧ ∀ b, b ∈ x.Free.Free → (Lit.int .i64 b.At).wf = true ∧ (Lit.int .i64 b.Order).wf = true := by
  obtain ⟨sm, sf, rfl, im, i2, i3, i4⟩ := cells_Pool h
  refine ⟨i3, fun b hb => ?_⟩
  obtain ⟨i, hi⟩ := List.mem_iff_getElem?.1 hb
  obtain ⟨p, es, _, _, _, hd⟩ := isD_elem i4 hi
  have q := isD_st hd
  obtain ⟨_, _, _, j0, q⟩ := isF_cons q
  obtain ⟨_, _, _, j1, q⟩ := isF_cons q
  exact ⟨(isD_int j0).2, (isD_int j1).2⟩
theorem un_outD {x : DPool} {root va : Int} {w : World} {cs : List Value} (h : IsD w x.dat cs) (hs : x.dat.sz ≤ 1048576) : POut (unPool x root va).Mem (unPool x root va).Free.Total (unPool x root va).Free.Free := by
  have hw := pool_wf h
  obtain ⟨sm, sf, rfl, hm, hf⟩ := pool_of h hs
  have hx := pool_few hs
  exact un_len hm.rng hx.1 hx.2 hw.1 hw.2
theorem unPool_cnt {x : DPool} {root va : Int} {w : World} {cs : List Value} (h : IsD w x.dat cs) (hs : x.dat.sz ≤ 1048576) : (unPool x root va).dat.cntT ≤ 8388608 := by
  have h1 := (un_outD (root := root) (va := va) h hs).2.1
  have h2 := (un_outD (root := root) (va := va) h hs).2.2.1
  rw [cnt_pool]; omega
theorem un_post {x : DPool} {root va : Int} {w w' : World} {v : Value} {cs : List Value} (hi : IsD w x.dat cs) (hs : x.dat.sz ≤ 1048576) (h : UnV (unF x.Mem x.Free.Total x.Free.Free root va) w v w') : ∃ y z, v = .tuple #[.agg ⟨y⟩, .agg ⟨z⟩, .int .i64 (unCode x root va)] ∧ Fr w.heap.size w'.heap.size w' (unPool x root va).dat y ∧ Fr w'.heap.size w'.heap.size w' (unEnt x root va).dat z ∧ Ext w w' := by
  obtain ⟨tm, tf, rfl, hp⟩ := h
  refine ⟨_, (unEnt x root va).cells, by rw [show (unEnt x root va).cells = enC _ from enD_cells _]; rfl, SH.poolFr hp (un_outD (root := root) (va := va) hi hs), entry_fr (Only.refl _ _) _ (enD_wf _), hp.ext⟩
theorem specUnmapPage {x : DPool} {root va : Int} {w : World} {cs : List Value} (h : IsD w x.dat cs) (hs : x.dat.sz ≤ 1048576) : CallW Try.prog 51 #[.agg ⟨cs⟩, .int .i64 root, .int .i64 va] w (fun v w' => ∃ y z, v = .tuple #[.agg ⟨y⟩, .agg ⟨z⟩, .int .i64 (unCode x root va)] ∧ Fr w.heap.size w'.heap.size w' (unPool x root va).dat y ∧ Fr w'.heap.size w'.heap.size w' (unEnt x root va).dat z ∧ Ext w w') := by
  have hi := h
  obtain ⟨sm, sf, rfl, hm, hf⟩ := pool_of h hs
  exact (s51 hm hf (pool_few hs).2).mono (fun v w' hv => un_post hi hs hv)
theorem implUnmapPage {x : DPool} {root va : Int} {w : World} {cs : List Value} (h : IsD w x.dat cs) (hs : x.dat.sz ≤ 1048576) : CallW Try.prog 52 #[.agg ⟨cs⟩, .int .i64 root, .int .i64 va] w (fun v w' => ∃ y z, v = .tuple #[.agg ⟨y⟩, .agg ⟨z⟩, .int .i64 (unCode x root va)] ∧ Fr w.heap.size w'.heap.size w' (unPool x root va).dat y ∧ Fr w'.heap.size w'.heap.size w' (unEnt x root va).dat z ∧ Ext w w') := by
  have hi := h
  obtain ⟨sm, sf, rfl, hm, hf⟩ := pool_of h hs
  exact (s52 hm hf (pool_few hs).2).mono (fun v w' hv => un_post hi hs hv)
end Go.Proofs.Ytkgoanjemhbjgaa

/- The walk of a law: copies, both sides, comparisons; printed by a program. Conditions: none. -/
set_option linter.unusedVariables false
set_option linter.unusedSimpArgs false
set_option maxRecDepth 4000
namespace Go.Proofs.Ytkgoanjemhbjgaa
open Go Go.Den
theorem goc10 {a0_0 : Sl} {a0_1 : Int} {a0_2 : Sl} {a1 : Int} {a2 : Int} {w : World} {K : Value → World → Prop} (h : W10 a0_0 a0_1 a0_2 a1 a2 w K) : Calls Try.prog 10 #[.agg #[.slice a0_0.a a0_0.len a0_0.cap, .int .i64 a0_1, .slice a0_2.a a0_2.len a0_2.cap], .int .i64 a1, .int .i64 a2] w (fun e w' => ∃ v, e = .returned v ∧ K v w') :=
  denFn_sound tt_ok mix Try.func10 (by kernel_rfl) (eq10 a0_0 a0_1 a0_2 a1 a2 w K ▸ h)
theorem walk10 {w : World} {x : DPool} {cs0 : List Value} (h0 : IsD w (x.dat) cs0) {root : Int} (wf1 : (Lit.int .i64 root).wf = true) {va : Int} (wf2 : (Lit.int .i64 va).wf = true) : Calls Try.prog 10 #[.agg ⟨cs0⟩, .int .i64 root, .int .i64 va] w (fun e w' => ∃ v, e = .returned v ∧ (v = .bool true ∧ Ext w w')) := by
  obtain ⟨p0_0, p0_1_1, rfl, _, _, _, _⟩ := cells_Pool h0
  refine goc10 ?_
  unfold W10
  refine alloc_step (fun w1 ew1 hbw1 nw1 => ?_)
  have e := ew1
  have zw1 := ew1.size
  refine ⟨p0_0, hbw1.cell 0, ?_⟩
  refine ⟨_, hbw1.cell 1, ?_⟩
  refine ⟨p0_1_1, hbw1.cell 2, ?_⟩
  refine (c32 (DPool.has _) (IsD.ext e _ _ h0) (by omega) (by omega)).mono ?_
  rintro _ w6 ⟨⟨rw6, rfl, hrw6⟩, ew6⟩
  have hbw1 := hbw1.ext ew6
  have e := Only.trans e ew6
  have zw6 := ew6.size
  refine ⟨_, rfl, ?_⟩
  refine BIf.dec (fun hn => ⟨rfl, e⟩) (fun hpw6 => ?_)
  have sz0 : (x.dat).sz ≤ 1048576 := by omega
  refine ⟨p0_0, hbw1.cell 0, ?_⟩
  refine ⟨_, hbw1.cell 1, ?_⟩
  refine ⟨p0_1_1, hbw1.cell 2, ?_⟩
  refine (c34 (DPool.has _) (IsD.ext e _ _ h0) (by have := sz0; omega)).mono ?_
  rintro _ w12 ⟨yw12, rfl, fw12, ew12⟩
  have hbw1 := hbw1.ext ew12
  have e := Only.trans e ew12
  have zw12 := ew12.size
  have hiyw12 := fw12.is
  obtain ⟨ryw12_0, ryw12_1_1, rfl, _, _, _, _⟩ := cells_Pool hiyw12
  refine ⟨ryw12_0, _, ryw12_1_1, rfl, ?_⟩
  refine (specUnmapPage (root := root) (va := va) fw12.is sz0).mono ?_
  rintro _ w17 ⟨yw17_0, yw17_1, rfl, fw17_0, fw17_1, ew17⟩
  have hbw1 := hbw1.ext ew17
  have fw12 := fw12.ext ew17
  have e := Only.trans e ew17
  have zw17 := ew17.size
  have hiyw17_0 := fw17_0.is
  obtain ⟨ryw17_0_0, ryw17_0_1_1, rfl, _, _, _, _⟩ := cells_Pool hiyw17_0
  have hiyw17_1 := fw17_1.is
  obtain ⟨rfl, _⟩ := cells_Entry hiyw17_1
  refine ⟨ryw17_0_0, _, ryw17_0_1_1, _, _, _, _, _, _, _, _, _, _, rfl, ?_⟩
  refine alloc_step (fun w31 ew31 hbw31 nw31 => ?_)
  have hbw1 := hbw1.ext ew31
  have fw12 := fw12.ext ew31
  have fw17_0 := fw17_0.ext ew31
  have fw17_1 := fw17_1.ext ew31
  have e := Only.trans e ew31
  have zw31 := ew31.size
  refine alloc_step (fun w32 ew32 hbw32 nw32 => ?_)
  have hbw1 := hbw1.ext ew32
  have hbw31 := hbw31.ext ew32
  have fw12 := fw12.ext ew32
  have fw17_0 := fw17_0.ext ew32
  have fw17_1 := fw17_1.ext ew32
  have e := Only.trans e ew32
  have zw32 := ew32.size
  refine put_step hbw31 rfl rfl (fun w33 ow33 hbw31q nw33 => ?_)
  have hbw1 := hbw1.only ow33 (by omega)
  have hbw32 := hbw32.only ow33 (by omega)
  have fw12 := fw12.only ow33 (fun k h1 h2 => by omega)
  have fw17_0 := fw17_0.only ow33 (fun k h1 h2 => by omega)
  have fw17_1 := fw17_1.only ow33 (fun k h1 h2 => by omega)
  have e := Ext.own e ow33 (fun k hk => by omega)
  have hbw31 := hbw31q
  refine put_step hbw32 rfl rfl (fun w34 ow34 hbw32q nw34 => ?_)
  have hbw1 := hbw1.only ow34 (by omega)
  have hbw31 := hbw31.only ow34 (by omega)
  have fw12 := fw12.only ow34 (fun k h1 h2 => by omega)
  have fw17_0 := fw17_0.only ow34 (fun k h1 h2 => by omega)
  have fw17_1 := fw17_1.only ow34 (fun k h1 h2 => by omega)
  have e := Ext.own e ow34 (fun k hk => by omega)
  have hbw32 := hbw32q
  refine ⟨p0_0, hbw1.cell 0, ?_⟩
  refine ⟨_, hbw1.cell 1, ?_⟩
  refine ⟨p0_1_1, hbw1.cell 2, ?_⟩
  refine (c34 (DPool.has _) (IsD.ext e _ _ h0) (by have := sz0; omega)).mono ?_
  rintro _ w39 ⟨yw39, rfl, fw39, ew39⟩
  have hbw1 := hbw1.ext ew39
  have hbw31 := hbw31.ext ew39
  have hbw32 := hbw32.ext ew39
  have fw12 := fw12.ext ew39
  have fw17_0 := fw17_0.ext ew39
  have fw17_1 := fw17_1.ext ew39
  have e := Only.trans e ew39
  have zw39 := ew39.size
  have hiyw39 := fw39.is
  obtain ⟨ryw39_0, ryw39_1_1, rfl, _, _, _, _⟩ := cells_Pool hiyw39
  refine ⟨ryw39_0, _, ryw39_1_1, rfl, ?_⟩
  refine alloc_step (fun w43 ew43 hbw43 nw43 => ?_)
  have hbw1 := hbw1.ext ew43
  have hbw31 := hbw31.ext ew43
  have hbw32 := hbw32.ext ew43
  have fw12 := fw12.ext ew43
  have fw17_0 := fw17_0.ext ew43
  have fw17_1 := fw17_1.ext ew43
  have fw39 := fw39.ext ew43
  have e := Only.trans e ew43
  have zw43 := ew43.size
  refine put_step hbw43 rfl rfl (fun w44 ow44 hbw43q nw44 => ?_)
  have hbw1 := hbw1.only ow44 (by omega)
  have hbw31 := hbw31.only ow44 (by omega)
  have hbw32 := hbw32.only ow44 (by omega)
  have fw12 := fw12.only ow44 (fun k h1 h2 => by omega)
  have fw17_0 := fw17_0.only ow44 (fun k h1 h2 => by omega)
  have fw17_1 := fw17_1.only ow44 (fun k h1 h2 => by omega)
  have fw39 := fw39.only ow44 (fun k h1 h2 => by omega)
  have e := Ext.own e ow44 (fun k hk => by omega)
  have hbw43 := hbw43q
  refine ⟨ryw39_0, hbw43.cell 0, ?_⟩
  refine ⟨_, hbw43.cell 1, ?_⟩
  refine ⟨ryw39_1_1, hbw43.cell 2, ?_⟩
  refine (implUnmapPage (root := root) (va := va) fw39.is sz0).mono ?_
  rintro _ w49 ⟨yw49_0, yw49_1, rfl, fw49_0, fw49_1, ew49⟩
  have hbw1 := hbw1.ext ew49
  have hbw31 := hbw31.ext ew49
  have hbw32 := hbw32.ext ew49
  have hbw43 := hbw43.ext ew49
  have fw12 := fw12.ext ew49
  have fw17_0 := fw17_0.ext ew49
  have fw17_1 := fw17_1.ext ew49
  have fw39 := fw39.ext ew49
  have e := Only.trans e ew49
  have zw49 := ew49.size
  have hiyw49_0 := fw49_0.is
  obtain ⟨ryw49_0_0, ryw49_0_1_1, rfl, _, _, _, _⟩ := cells_Pool hiyw49_0
  have hiyw49_1 := fw49_1.is
  obtain ⟨rfl, _⟩ := cells_Entry hiyw49_1
  refine ⟨ryw49_0_0, _, ryw49_0_1_1, _, _, _, _, _, _, _, _, _, _, rfl, ?_⟩
  refine alloc_step (fun w63 ew63 hbw63 nw63 => ?_)
  have hbw1 := hbw1.ext ew63
  have hbw31 := hbw31.ext ew63
  have hbw32 := hbw32.ext ew63
  have hbw43 := hbw43.ext ew63
  have fw12 := fw12.ext ew63
  have fw17_0 := fw17_0.ext ew63
  have fw17_1 := fw17_1.ext ew63
  have fw39 := fw39.ext ew63
  have fw49_0 := fw49_0.ext ew63
  have fw49_1 := fw49_1.ext ew63
  have e := Only.trans e ew63
  have zw63 := ew63.size
  refine alloc_step (fun w64 ew64 hbw64 nw64 => ?_)
  have hbw1 := hbw1.ext ew64
  have hbw31 := hbw31.ext ew64
  have hbw32 := hbw32.ext ew64
  have hbw43 := hbw43.ext ew64
  have hbw63 := hbw63.ext ew64
  have fw12 := fw12.ext ew64
  have fw17_0 := fw17_0.ext ew64
  have fw17_1 := fw17_1.ext ew64
  have fw39 := fw39.ext ew64
  have fw49_0 := fw49_0.ext ew64
  have fw49_1 := fw49_1.ext ew64
  have e := Only.trans e ew64
  have zw64 := ew64.size
  refine put_step hbw63 rfl rfl (fun w65 ow65 hbw63q nw65 => ?_)
  have hbw1 := hbw1.only ow65 (by omega)
  have hbw31 := hbw31.only ow65 (by omega)
  have hbw32 := hbw32.only ow65 (by omega)
  have hbw43 := hbw43.only ow65 (by omega)
  have hbw64 := hbw64.only ow65 (by omega)
  have fw12 := fw12.only ow65 (fun k h1 h2 => by omega)
  have fw17_0 := fw17_0.only ow65 (fun k h1 h2 => by omega)
  have fw17_1 := fw17_1.only ow65 (fun k h1 h2 => by omega)
  have fw39 := fw39.only ow65 (fun k h1 h2 => by omega)
  have fw49_0 := fw49_0.only ow65 (fun k h1 h2 => by omega)
  have fw49_1 := fw49_1.only ow65 (fun k h1 h2 => by omega)
  have e := Ext.own e ow65 (fun k hk => by omega)
  have hbw63 := hbw63q
  refine put_step hbw64 rfl rfl (fun w66 ow66 hbw64q nw66 => ?_)
  have hbw1 := hbw1.only ow66 (by omega)
  have hbw31 := hbw31.only ow66 (by omega)
  have hbw32 := hbw32.only ow66 (by omega)
  have hbw43 := hbw43.only ow66 (by omega)
  have hbw63 := hbw63.only ow66 (by omega)
  have fw12 := fw12.only ow66 (fun k h1 h2 => by omega)
  have fw17_0 := fw17_0.only ow66 (fun k h1 h2 => by omega)
  have fw17_1 := fw17_1.only ow66 (fun k h1 h2 => by omega)
  have fw39 := fw39.only ow66 (fun k h1 h2 => by omega)
  have fw49_0 := fw49_0.only ow66 (fun k h1 h2 => by omega)
  have fw49_1 := fw49_1.only ow66 (fun k h1 h2 => by omega)
  have e := Ext.own e ow66 (fun k hk => by omega)
  have hbw64 := hbw64q
  refine ⟨ryw49_0_0, hbw63.cell 0, ?_⟩
  refine ⟨_, hbw63.cell 1, ?_⟩
  refine ⟨ryw49_0_1_1, hbw63.cell 2, ?_⟩
  refine ⟨ryw17_0_0, hbw31.cell 0, ?_⟩
  refine ⟨_, hbw31.cell 1, ?_⟩
  refine ⟨ryw17_0_1_1, hbw31.cell 2, ?_⟩
  refine (c36 (DPool.has _) fw49_0.is fw17_0.is).mono ?_
  rintro _ w74 ⟨rfl, ew74⟩
  have hbw1 := hbw1.ext ew74
  have hbw31 := hbw31.ext ew74
  have hbw32 := hbw32.ext ew74
  have hbw43 := hbw43.ext ew74
  have hbw63 := hbw63.ext ew74
  have hbw64 := hbw64.ext ew74
  have fw12 := fw12.ext ew74
  have fw17_0 := fw17_0.ext ew74
  have fw17_1 := fw17_1.ext ew74
  have fw39 := fw39.ext ew74
  have fw49_0 := fw49_0.ext ew74
  have fw49_1 := fw49_1.ext ew74
  have e := Only.trans e ew74
  have zw74 := ew74.size
  refine ⟨_, rfl, ?_⟩
  refine JoinW.each ?_
  refine BIf.f rfl ?_
  refine ⟨_, hbw64.cell 0, ?_⟩
  refine ⟨_, hbw64.cell 1, ?_⟩
  refine ⟨_, hbw64.cell 2, ?_⟩
  refine ⟨_, hbw64.cell 3, ?_⟩
  refine ⟨_, hbw64.cell 4, ?_⟩
  refine ⟨_, hbw64.cell 5, ?_⟩
  refine ⟨_, hbw64.cell 6, ?_⟩
  refine ⟨_, hbw64.cell 7, ?_⟩
  refine ⟨_, hbw64.cell 8, ?_⟩
  refine ⟨_, hbw32.cell 0, ?_⟩
  refine ⟨_, hbw32.cell 1, ?_⟩
  refine ⟨_, hbw32.cell 2, ?_⟩
  refine ⟨_, hbw32.cell 3, ?_⟩
  refine ⟨_, hbw32.cell 4, ?_⟩
  refine ⟨_, hbw32.cell 5, ?_⟩
  refine ⟨_, hbw32.cell 6, ?_⟩
  refine ⟨_, hbw32.cell 7, ?_⟩
  refine ⟨_, hbw32.cell 8, ?_⟩
  refine (c53 (DEntry.has _) fw49_1.is fw17_1.is).mono ?_
  rintro _ w244 ⟨rfl, ew244⟩
  have hbw1 := hbw1.ext ew244
  have hbw31 := hbw31.ext ew244
  have hbw32 := hbw32.ext ew244
  have hbw43 := hbw43.ext ew244
  have hbw63 := hbw63.ext ew244
  have hbw64 := hbw64.ext ew244
  have fw12 := fw12.ext ew244
  have fw17_0 := fw17_0.ext ew244
  have fw17_1 := fw17_1.ext ew244
  have fw39 := fw39.ext ew244
  have fw49_0 := fw49_0.ext ew244
  have fw49_1 := fw49_1.ext ew244
  have e := Only.trans e ew244
  have zw244 := ew244.size
  refine ⟨_, rfl, ?_⟩
  refine JoinW.each ?_
  refine BIf.f (by first | (simp; done) | (simp; omega)) ?_
  refine BIf.f (by first | (simp; done) | (simp; omega)) ?_
  have ed := ext_drew w244
  have hbw1 := hbw1.ext ed
  have hbw31 := hbw31.ext ed
  have hbw32 := hbw32.ext ed
  have hbw43 := hbw43.ext ed
  have hbw63 := hbw63.ext ed
  have hbw64 := hbw64.ext ed
  have fw12 := fw12.ext ed
  have fw17_0 := fw17_0.ext ed
  have fw17_1 := fw17_1.ext ed
  have fw39 := fw39.ext ed
  have fw49_0 := fw49_0.ext ed
  have fw49_1 := fw49_1.ext ed
  have e := Only.trans e ed
  have zw244_drew := ed.size
  refine ⟨ryw39_0, hbw43.cell 0, ?_⟩
  refine ⟨_, hbw43.cell 1, ?_⟩
  refine ⟨ryw39_1_1, hbw43.cell 2, ?_⟩
  refine ⟨p0_0, hbw1.cell 0, ?_⟩
  refine ⟨_, hbw1.cell 1, ?_⟩
  refine ⟨p0_1_1, hbw1.cell 2, ?_⟩
  refine (c34 (DPool.has _) (IsD.ext e _ _ h0) (by have := sz0; omega)).mono ?_
  rintro _ w89 ⟨yw89, rfl, fw89, ew89⟩
  have hbw1 := hbw1.ext ew89
  have hbw31 := hbw31.ext ew89
  have hbw32 := hbw32.ext ew89
  have hbw43 := hbw43.ext ew89
  have hbw63 := hbw63.ext ew89
  have hbw64 := hbw64.ext ew89
  have fw12 := fw12.ext ew89
  have fw17_0 := fw17_0.ext ew89
  have fw17_1 := fw17_1.ext ew89
  have fw39 := fw39.ext ew89
  have fw49_0 := fw49_0.ext ew89
  have fw49_1 := fw49_1.ext ew89
  have e := Only.trans e ew89
  have zw89 := ew89.size
  have hiyw89 := fw89.is
  obtain ⟨ryw89_0, ryw89_1_1, rfl, _, _, _, _⟩ := cells_Pool hiyw89
  refine ⟨ryw89_0, _, ryw89_1_1, rfl, ?_⟩
  refine ⟨⟨ryw39_0, hbw43.cell 0, _, hbw43.cell 1, ryw39_1_1, hbw43.cell 2, rfl⟩, ?_⟩
  refine (c36 (DPool.has _) fw39.is fw89.is).mono ?_
  rintro _ w97 ⟨rfl, ew97⟩
  have hbw1 := hbw1.ext ew97
  have hbw31 := hbw31.ext ew97
  have hbw32 := hbw32.ext ew97
  have hbw43 := hbw43.ext ew97
  have hbw63 := hbw63.ext ew97
  have hbw64 := hbw64.ext ew97
  have fw12 := fw12.ext ew97
  have fw17_0 := fw17_0.ext ew97
  have fw17_1 := fw17_1.ext ew97
  have fw39 := fw39.ext ew97
  have fw49_0 := fw49_0.ext ew97
  have fw49_1 := fw49_1.ext ew97
  have fw89 := fw89.ext ew97
  have e := Only.trans e ew97
  have zw97 := ew97.size
  refine ⟨_, rfl, ?_⟩
  refine BIf.f rfl ?_
  refine ⟨ryw39_0, hbw43.cell 0, ?_⟩
  refine ⟨_, hbw43.cell 1, ?_⟩
  refine ⟨ryw39_1_1, hbw43.cell 2, ?_⟩
  obtain ⟨bsw103, oww103, ndw103, rgw103⟩ := fw39
  refine (c39 (DPool.has _) oww103 ndw103 (by omega) (by have := sz0; have := pool_cnt sz0; (try simp only [Dat.cntT, Dat.cntTs] at *); omega)).mono ?_
  rintro _ w103 ⟨rfl, dw103, cnw103, hsw103, mkw103, oww103, ow103⟩
  have hbw1 := hbw1.only ow103 (fun hk => by have := rgw103 _ hk; omega)
  have hbw31 := hbw31.only ow103 (fun hk => by have := rgw103 _ hk; omega)
  have hbw32 := hbw32.only ow103 (fun hk => by have := rgw103 _ hk; omega)
  have hbw43 := hbw43.only ow103 (fun hk => by have := rgw103 _ hk; omega)
  have hbw63 := hbw63.only ow103 (fun hk => by have := rgw103 _ hk; omega)
  have hbw64 := hbw64.only ow103 (fun hk => by have := rgw103 _ hk; omega)
  have fw12 := fw12.only ow103 (fun k h1 h2 hk => by have := rgw103 k hk; omega)
  have fw17_0 := fw17_0.only ow103 (fun k h1 h2 hk => by have := rgw103 k hk; omega)
  have fw17_1 := fw17_1.only ow103 (fun k h1 h2 hk => by have := rgw103 k hk; omega)
  have fw49_0 := fw49_0.only ow103 (fun k h1 h2 hk => by have := rgw103 k hk; omega)
  have fw49_1 := fw49_1.only ow103 (fun k h1 h2 hk => by have := rgw103 k hk; omega)
  have fw89 := fw89.only ow103 (fun k h1 h2 hk => by have := rgw103 k hk; omega)
  have e := Ext.own e ow103 (fun k hk => by have := rgw103 k hk; omega)
  have zw103 := ow103.size
  have fw103 : Fr _ _ w103 dw103 _ := ⟨bsw103, oww103, ndw103, rgw103⟩
  refine ⟨_, rfl, ?_⟩
  refine JoinW.each ?_
  refine BIf.f (decide_eq_false (by omega)) ?_
  refine ⟨ryw49_0_0, hbw63.cell 0, ?_⟩
  refine ⟨_, hbw63.cell 1, ?_⟩
  refine ⟨ryw49_0_1_1, hbw63.cell 2, ?_⟩
  refine ⟨ryw17_0_0, hbw31.cell 0, ?_⟩
  refine ⟨_, hbw31.cell 1, ?_⟩
  refine ⟨ryw17_0_1_1, hbw31.cell 2, ?_⟩
  refine (c36 (DPool.has _) fw49_0.is fw17_0.is).mono ?_
  rintro _ w223 ⟨rfl, ew223⟩
  have hbw1 := hbw1.ext ew223
  have hbw31 := hbw31.ext ew223
  have hbw32 := hbw32.ext ew223
  have hbw43 := hbw43.ext ew223
  have hbw63 := hbw63.ext ew223
  have hbw64 := hbw64.ext ew223
  have fw12 := fw12.ext ew223
  have fw17_0 := fw17_0.ext ew223
  have fw17_1 := fw17_1.ext ew223
  have fw49_0 := fw49_0.ext ew223
  have fw49_1 := fw49_1.ext ew223
  have fw89 := fw89.ext ew223
  have fw103 := fw103.ext ew223
  have e := Only.trans e ew223
  have zw223 := ew223.size
  refine ⟨_, rfl, ?_⟩
  refine JoinW.each ?_
  refine BIf.f (by first | (simp; done) | (simp; omega)) ?_
  refine ⟨_, hbw64.cell 0, ?_⟩
  refine ⟨_, hbw64.cell 1, ?_⟩
  refine ⟨_, hbw64.cell 2, ?_⟩
  refine ⟨_, hbw64.cell 3, ?_⟩
  refine ⟨_, hbw64.cell 4, ?_⟩
  refine ⟨_, hbw64.cell 5, ?_⟩
  refine ⟨_, hbw64.cell 6, ?_⟩
  refine ⟨_, hbw64.cell 7, ?_⟩
  refine ⟨_, hbw64.cell 8, ?_⟩
  refine ⟨_, hbw32.cell 0, ?_⟩
  refine ⟨_, hbw32.cell 1, ?_⟩
  refine ⟨_, hbw32.cell 2, ?_⟩
  refine ⟨_, hbw32.cell 3, ?_⟩
  refine ⟨_, hbw32.cell 4, ?_⟩
  refine ⟨_, hbw32.cell 5, ?_⟩
  refine ⟨_, hbw32.cell 6, ?_⟩
  refine ⟨_, hbw32.cell 7, ?_⟩
  refine ⟨_, hbw32.cell 8, ?_⟩
  refine (c53 (DEntry.has _) fw49_1.is fw17_1.is).mono ?_
  rintro _ w214 ⟨rfl, ew214⟩
  have hbw1 := hbw1.ext ew214
  have hbw31 := hbw31.ext ew214
  have hbw32 := hbw32.ext ew214
  have hbw43 := hbw43.ext ew214
  have hbw63 := hbw63.ext ew214
  have hbw64 := hbw64.ext ew214
  have fw12 := fw12.ext ew214
  have fw17_0 := fw17_0.ext ew214
  have fw17_1 := fw17_1.ext ew214
  have fw49_0 := fw49_0.ext ew214
  have fw49_1 := fw49_1.ext ew214
  have fw89 := fw89.ext ew214
  have fw103 := fw103.ext ew214
  have e := Only.trans e ew214
  have zw214 := ew214.size
  refine ⟨_, rfl, ?_⟩
  refine JoinW.each ?_
  refine BIf.f (by first | (simp; done) | (simp; omega)) ?_
  refine BIf.f (by first | (simp; done) | (simp; omega)) ?_
  refine ⟨ryw49_0_0, hbw63.cell 0, ?_⟩
  refine ⟨_, hbw63.cell 1, ?_⟩
  refine ⟨ryw49_0_1_1, hbw63.cell 2, ?_⟩
  obtain ⟨bsw118, oww118, ndw118, rgw118⟩ := fw49_0
  refine (c39 (DPool.has _) oww118 ndw118 (by omega) (by have := unPool_cnt (root := root) (va := va) h0 sz0; omega)).mono ?_
  rintro _ w118 ⟨rfl, dw118, cnw118, hsw118, mkw118, oww118, ow118⟩
  have hbw1 := hbw1.only ow118 (fun hk => by have := rgw118 _ hk; omega)
  have hbw31 := hbw31.only ow118 (fun hk => by have := rgw118 _ hk; omega)
  have hbw32 := hbw32.only ow118 (fun hk => by have := rgw118 _ hk; omega)
  have hbw43 := hbw43.only ow118 (fun hk => by have := rgw118 _ hk; omega)
  have hbw63 := hbw63.only ow118 (fun hk => by have := rgw118 _ hk; omega)
  have hbw64 := hbw64.only ow118 (fun hk => by have := rgw118 _ hk; omega)
  have fw12 := fw12.only ow118 (fun k h1 h2 hk => by have := rgw118 k hk; omega)
  have fw17_0 := fw17_0.only ow118 (fun k h1 h2 hk => by have := rgw118 k hk; omega)
  have fw17_1 := fw17_1.only ow118 (fun k h1 h2 hk => by have := rgw118 k hk; omega)
  have fw49_1 := fw49_1.only ow118 (fun k h1 h2 hk => by have := rgw118 k hk; omega)
  have fw89 := fw89.only ow118 (fun k h1 h2 hk => by have := rgw118 k hk; omega)
  have fw103 := fw103.only ow118 (fun k h1 h2 hk => by have := rgw118 k hk; omega)
  have e := Ext.own e ow118 (fun k hk => by have := rgw118 k hk; omega)
  have zw118 := ow118.size
  have fw118 : Fr _ _ w118 dw118 _ := ⟨bsw118, oww118, ndw118, rgw118⟩
  refine ⟨_, rfl, ?_⟩
  refine ⟨ryw49_0_0, hbw63.cell 0, ?_⟩
  refine ⟨_, hbw63.cell 1, ?_⟩
  refine ⟨ryw49_0_1_1, hbw63.cell 2, ?_⟩
  refine (c40 hsw118 fw118.is mkw118 (by omega) (by have := cnw118; have := unPool_cnt (root := root) (va := va) h0 sz0; omega)).mono ?_
  rintro _ w124 ⟨rfl, ew124⟩
  have hbw1 := hbw1.ext ew124
  have hbw31 := hbw31.ext ew124
  have hbw32 := hbw32.ext ew124
  have hbw43 := hbw43.ext ew124
  have hbw63 := hbw63.ext ew124
  have hbw64 := hbw64.ext ew124
  have fw12 := fw12.ext ew124
  have fw17_0 := fw17_0.ext ew124
  have fw17_1 := fw17_1.ext ew124
  have fw49_1 := fw49_1.ext ew124
  have fw89 := fw89.ext ew124
  have fw103 := fw103.ext ew124
  have fw118 := fw118.ext ew124
  have e := Only.trans e ew124
  have zw124 := ew124.size
  refine ⟨_, rfl, ?_⟩
  refine BIf.f (decide_eq_false (by omega)) ?_
  refine BIf.f (by first | (simp; done) | (simp; omega)) ?_
  refine ⟨p0_0, hbw1.cell 0, ?_⟩
  refine ⟨_, hbw1.cell 1, ?_⟩
  refine ⟨p0_1_1, hbw1.cell 2, ?_⟩
  refine (c34 (DPool.has _) (IsD.ext e _ _ h0) (by have := sz0; omega)).mono ?_
  rintro _ w130 ⟨yw130, rfl, fw130, ew130⟩
  have hbw1 := hbw1.ext ew130
  have hbw31 := hbw31.ext ew130
  have hbw32 := hbw32.ext ew130
  have hbw43 := hbw43.ext ew130
  have hbw63 := hbw63.ext ew130
  have hbw64 := hbw64.ext ew130
  have fw12 := fw12.ext ew130
  have fw17_0 := fw17_0.ext ew130
  have fw17_1 := fw17_1.ext ew130
  have fw49_1 := fw49_1.ext ew130
  have fw89 := fw89.ext ew130
  have fw103 := fw103.ext ew130
  have fw118 := fw118.ext ew130
  have e := Only.trans e ew130
  have zw130 := ew130.size
  have hiyw130 := fw130.is
  obtain ⟨ryw130_0, ryw130_1_1, rfl, _, _, _, _⟩ := cells_Pool hiyw130
  refine ⟨ryw130_0, _, ryw130_1_1, rfl, ?_⟩
  refine (implUnmapPage (root := root) (va := va) fw130.is sz0).mono ?_
  rintro _ w135 ⟨yw135_0, yw135_1, rfl, fw135_0, fw135_1, ew135⟩
  have hbw1 := hbw1.ext ew135
  have hbw31 := hbw31.ext ew135
  have hbw32 := hbw32.ext ew135
  have hbw43 := hbw43.ext ew135
  have hbw63 := hbw63.ext ew135
  have hbw64 := hbw64.ext ew135
  have fw12 := fw12.ext ew135
  have fw17_0 := fw17_0.ext ew135
  have fw17_1 := fw17_1.ext ew135
  have fw49_1 := fw49_1.ext ew135
  have fw89 := fw89.ext ew135
  have fw103 := fw103.ext ew135
  have fw118 := fw118.ext ew135
  have fw130 := fw130.ext ew135
  have e := Only.trans e ew135
  have zw135 := ew135.size
  have hiyw135_0 := fw135_0.is
  obtain ⟨ryw135_0_0, ryw135_0_1_1, rfl, _, _, _, _⟩ := cells_Pool hiyw135_0
  have hiyw135_1 := fw135_1.is
  obtain ⟨rfl, _⟩ := cells_Entry hiyw135_1
  refine ⟨ryw135_0_0, _, ryw135_0_1_1, _, _, _, _, _, _, _, _, _, _, rfl, ?_⟩
  refine alloc_step (fun w149 ew149 hbw149 nw149 => ?_)
  have hbw1 := hbw1.ext ew149
  have hbw31 := hbw31.ext ew149
  have hbw32 := hbw32.ext ew149
  have hbw43 := hbw43.ext ew149
  have hbw63 := hbw63.ext ew149
  have hbw64 := hbw64.ext ew149
  have fw12 := fw12.ext ew149
  have fw17_0 := fw17_0.ext ew149
  have fw17_1 := fw17_1.ext ew149
  have fw49_1 := fw49_1.ext ew149
  have fw89 := fw89.ext ew149
  have fw103 := fw103.ext ew149
  have fw118 := fw118.ext ew149
  have fw130 := fw130.ext ew149
  have fw135_0 := fw135_0.ext ew149
  have fw135_1 := fw135_1.ext ew149
  have e := Only.trans e ew149
  have zw149 := ew149.size
  refine alloc_step (fun w150 ew150 hbw150 nw150 => ?_)
  have hbw1 := hbw1.ext ew150
  have hbw31 := hbw31.ext ew150
  have hbw32 := hbw32.ext ew150
  have hbw43 := hbw43.ext ew150
  have hbw63 := hbw63.ext ew150
  have hbw64 := hbw64.ext ew150
  have hbw149 := hbw149.ext ew150
  have fw12 := fw12.ext ew150
  have fw17_0 := fw17_0.ext ew150
  have fw17_1 := fw17_1.ext ew150
  have fw49_1 := fw49_1.ext ew150
  have fw89 := fw89.ext ew150
  have fw103 := fw103.ext ew150
  have fw118 := fw118.ext ew150
  have fw130 := fw130.ext ew150
  have fw135_0 := fw135_0.ext ew150
  have fw135_1 := fw135_1.ext ew150
  have e := Only.trans e ew150
  have zw150 := ew150.size
  refine put_step hbw149 rfl rfl (fun w151 ow151 hbw149q nw151 => ?_)
  have hbw1 := hbw1.only ow151 (by omega)
  have hbw31 := hbw31.only ow151 (by omega)
  have hbw32 := hbw32.only ow151 (by omega)
  have hbw43 := hbw43.only ow151 (by omega)
  have hbw63 := hbw63.only ow151 (by omega)
  have hbw64 := hbw64.only ow151 (by omega)
  have hbw150 := hbw150.only ow151 (by omega)
  have fw12 := fw12.only ow151 (fun k h1 h2 => by omega)
  have fw17_0 := fw17_0.only ow151 (fun k h1 h2 => by omega)
  have fw17_1 := fw17_1.only ow151 (fun k h1 h2 => by omega)
  have fw49_1 := fw49_1.only ow151 (fun k h1 h2 => by omega)
  have fw89 := fw89.only ow151 (fun k h1 h2 => by omega)
  have fw103 := fw103.only ow151 (fun k h1 h2 => by omega)
  have fw118 := fw118.only ow151 (fun k h1 h2 => by omega)
  have fw130 := fw130.only ow151 (fun k h1 h2 => by omega)
  have fw135_0 := fw135_0.only ow151 (fun k h1 h2 => by omega)
  have fw135_1 := fw135_1.only ow151 (fun k h1 h2 => by omega)
  have e := Ext.own e ow151 (fun k hk => by omega)
  have hbw149 := hbw149q
  refine put_step hbw150 rfl rfl (fun w152 ow152 hbw150q nw152 => ?_)
  have hbw1 := hbw1.only ow152 (by omega)
  have hbw31 := hbw31.only ow152 (by omega)
  have hbw32 := hbw32.only ow152 (by omega)
  have hbw43 := hbw43.only ow152 (by omega)
  have hbw63 := hbw63.only ow152 (by omega)
  have hbw64 := hbw64.only ow152 (by omega)
  have hbw149 := hbw149.only ow152 (by omega)
  have fw12 := fw12.only ow152 (fun k h1 h2 => by omega)
  have fw17_0 := fw17_0.only ow152 (fun k h1 h2 => by omega)
  have fw17_1 := fw17_1.only ow152 (fun k h1 h2 => by omega)
  have fw49_1 := fw49_1.only ow152 (fun k h1 h2 => by omega)
  have fw89 := fw89.only ow152 (fun k h1 h2 => by omega)
  have fw103 := fw103.only ow152 (fun k h1 h2 => by omega)
  have fw118 := fw118.only ow152 (fun k h1 h2 => by omega)
  have fw130 := fw130.only ow152 (fun k h1 h2 => by omega)
  have fw135_0 := fw135_0.only ow152 (fun k h1 h2 => by omega)
  have fw135_1 := fw135_1.only ow152 (fun k h1 h2 => by omega)
  have e := Ext.own e ow152 (fun k hk => by omega)
  have hbw150 := hbw150q
  refine ⟨ryw135_0_0, hbw149.cell 0, ?_⟩
  refine ⟨_, hbw149.cell 1, ?_⟩
  refine ⟨ryw135_0_1_1, hbw149.cell 2, ?_⟩
  refine ⟨ryw17_0_0, hbw31.cell 0, ?_⟩
  refine ⟨_, hbw31.cell 1, ?_⟩
  refine ⟨ryw17_0_1_1, hbw31.cell 2, ?_⟩
  refine (c36 (DPool.has _) fw135_0.is fw17_0.is).mono ?_
  rintro _ w160 ⟨rfl, ew160⟩
  have hbw1 := hbw1.ext ew160
  have hbw31 := hbw31.ext ew160
  have hbw32 := hbw32.ext ew160
  have hbw43 := hbw43.ext ew160
  have hbw63 := hbw63.ext ew160
  have hbw64 := hbw64.ext ew160
  have hbw149 := hbw149.ext ew160
  have hbw150 := hbw150.ext ew160
  have fw12 := fw12.ext ew160
  have fw17_0 := fw17_0.ext ew160
  have fw17_1 := fw17_1.ext ew160
  have fw49_1 := fw49_1.ext ew160
  have fw89 := fw89.ext ew160
  have fw103 := fw103.ext ew160
  have fw118 := fw118.ext ew160
  have fw130 := fw130.ext ew160
  have fw135_0 := fw135_0.ext ew160
  have fw135_1 := fw135_1.ext ew160
  have e := Only.trans e ew160
  have zw160 := ew160.size
  refine ⟨_, rfl, ?_⟩
  refine JoinW.each ?_
  refine BIf.f rfl ?_
  refine ⟨_, hbw150.cell 0, ?_⟩
  refine ⟨_, hbw150.cell 1, ?_⟩
  refine ⟨_, hbw150.cell 2, ?_⟩
  refine ⟨_, hbw150.cell 3, ?_⟩
  refine ⟨_, hbw150.cell 4, ?_⟩
  refine ⟨_, hbw150.cell 5, ?_⟩
  refine ⟨_, hbw150.cell 6, ?_⟩
  refine ⟨_, hbw150.cell 7, ?_⟩
  refine ⟨_, hbw150.cell 8, ?_⟩
  refine ⟨_, hbw32.cell 0, ?_⟩
  refine ⟨_, hbw32.cell 1, ?_⟩
  refine ⟨_, hbw32.cell 2, ?_⟩
  refine ⟨_, hbw32.cell 3, ?_⟩
  refine ⟨_, hbw32.cell 4, ?_⟩
  refine ⟨_, hbw32.cell 5, ?_⟩
  refine ⟨_, hbw32.cell 6, ?_⟩
  refine ⟨_, hbw32.cell 7, ?_⟩
  refine ⟨_, hbw32.cell 8, ?_⟩
  refine (c53 (DEntry.has _) fw135_1.is fw17_1.is).mono ?_
  rintro _ w193 ⟨rfl, ew193⟩
  have hbw1 := hbw1.ext ew193
  have hbw31 := hbw31.ext ew193
  have hbw32 := hbw32.ext ew193
  have hbw43 := hbw43.ext ew193
  have hbw63 := hbw63.ext ew193
  have hbw64 := hbw64.ext ew193
  have hbw149 := hbw149.ext ew193
  have hbw150 := hbw150.ext ew193
  have fw12 := fw12.ext ew193
  have fw17_0 := fw17_0.ext ew193
  have fw17_1 := fw17_1.ext ew193
  have fw49_1 := fw49_1.ext ew193
  have fw89 := fw89.ext ew193
  have fw103 := fw103.ext ew193
  have fw118 := fw118.ext ew193
  have fw130 := fw130.ext ew193
  have fw135_0 := fw135_0.ext ew193
  have fw135_1 := fw135_1.ext ew193
  have e := Only.trans e ew193
  have zw193 := ew193.size
  refine ⟨_, rfl, ?_⟩
  refine JoinW.each ?_
  refine BIf.f (by first | (simp; done) | (simp; omega)) ?_
  refine BIf.f (by first | (simp; done) | (simp; omega)) ?_
  refine ⟨ryw49_0_0, hbw63.cell 0, ?_⟩
  refine ⟨_, hbw63.cell 1, ?_⟩
  refine ⟨ryw49_0_1_1, hbw63.cell 2, ?_⟩
  refine (c40 hsw118 fw118.is mkw118 (by omega) (by have := cnw118; have := unPool_cnt (root := root) (va := va) h0 sz0; omega)).mono ?_
  rintro _ w172 ⟨rfl, ew172⟩
  have hbw1 := hbw1.ext ew172
  have hbw31 := hbw31.ext ew172
  have hbw32 := hbw32.ext ew172
  have hbw43 := hbw43.ext ew172
  have hbw63 := hbw63.ext ew172
  have hbw64 := hbw64.ext ew172
  have hbw149 := hbw149.ext ew172
  have hbw150 := hbw150.ext ew172
  have fw12 := fw12.ext ew172
  have fw17_0 := fw17_0.ext ew172
  have fw17_1 := fw17_1.ext ew172
  have fw49_1 := fw49_1.ext ew172
  have fw89 := fw89.ext ew172
  have fw103 := fw103.ext ew172
  have fw118 := fw118.ext ew172
  have fw130 := fw130.ext ew172
  have fw135_0 := fw135_0.ext ew172
  have fw135_1 := fw135_1.ext ew172
  have e := Only.trans e ew172
  have zw172 := ew172.size
  refine ⟨_, rfl, ?_⟩
  refine BIf.f (decide_eq_false (by omega)) ?_
  refine BIf.f (by first | (simp; done) | (simp; omega)) ?_
  exact ⟨by trivial, e⟩
open Go.RowKit in
theorem law_calls10 {w : World} {c0 : Array Value} {x : DPool} (h0 : cDPool.is w c0.toList x) {root : Int} (wf1 : (Lit.int .i64 root).wf = true) {va : Int} (wf2 : (Lit.int .i64 va).wf = true) : Calls Try.prog 10 #[.agg c0, .int .i64 root, .int .i64 va] w (fun e w' => e = .returned (.bool true) ∧ Below w.heap.size w w') :=
  (walk10 (cDPool_dat h0) (root := root) wf1 (va := va) wf2).mono (by rintro e w' ⟨v, rfl, rfl, he⟩; exact ⟨rfl, he.below⟩)
end Go.Proofs.Ytkgoanjemhbjgaa

/- The row of the law FnExactUnmapPage: what its walk shows is what the statement says. Conditions: none. -/
namespace Go.Proofs.Ytkgoanjemhbjgaa.fnExactUnmapPage
open Go.ChangeShapes Go.WideShapes Go.ChangeAt Go.RowKit
open Go.ChangeMaps (open_string shut_string)
set_option linter.unusedVariables false
theorem own : ownKnob Try.prog.godebug = none := by kernel_rfl
theorem laidOut : laidOutB Try.prog = true := by kernel_rfl
set_option maxRecDepth 100000 in
theorem lifted (os : Os) (started : os.Started) (H : Type) (enc : TypeId × Value → H) :
    ReturnsInHanded {} Try.checked os 10 .any (Rows.fnExactUnmapPageSpec.pre6 enc Try.prog Try.f10 Rows.fnExactUnmapPageRow.domain false) (Rows.fnExactUnmapPageSpec.post enc Try.prog Try.f10 false true false false) := by
  refine returnsInHanded_of_change_sized (C := Try.checked) own started (by kernel_rfl) Try.func10
    (ChangeSpec.witness6 (enc := enc) (C := Try.checked) false ⟨#[], #[.agg #[.slice none 0 0, .int .i64 0, .slice none 0 0], .int .i64 0, .int .i64 0], []⟩ 8 (by kernel_rfl) (by kernel_rfl) (by kernel_rfl) (by kernel_rfl)) ?_
  intro W base args ds gs before hval0 hW hcnd hsz0 _
  have hsz : (DataW.weightsEach Try.prog (Try.f10.params.toList ++ Rows.fnExactUnmapPageSpec.plain.varTypes Try.prog) (ds ++ gs)).all (· ≤ reachBytes) = true := hsz0
  have hval : ∀ (j : Nat) t v, Try.f10.params[j]? = some t → args[j]? = some v → Value.okWide Try.prog W .any base t v := hval0
  have hW' := hW
  obtain ⟨p, q, hA0, hV, rfl, hfz, hnd⟩ := hW
  have hA : DataW.TrodAll enc Try.prog W 0 (fun _ => true) true Try.f10.params.toList args.toList ds p := hA0
  rw [Try.params10] at hA hval hsz
  obtain ⟨v0, vs0, d0, ds0, p0, q0, hargs, rfl, rfl, h0, r0⟩ := trodAll_cons hA
  obtain ⟨v1, vs1, d1, ds1, p1, q1, rfl, rfl, rfl, h1, r1⟩ := trodAll_cons r0
  obtain ⟨v2, vs2, d2, ds2, p2, q2, rfl, rfl, rfl, h2, r2⟩ := trodAll_cons r1
  obtain ⟨rfl, rfl, rfl⟩ := trodAll_nil r2
  obtain rfl : args = #[v0, v1, v2] := by cases args; simp_all
  obtain ⟨rfl, rfl⟩ := trodVars_none hV
  have k0 := h0
  have lt0 : ∀ x ∈ p0, x.block < W.heap.size := by obtain ⟨m, hm⟩ := k0; exact DataW.trod_lt m _ _ _ hm
  obtain ⟨c0, rfl⟩ : ∃ cs, v0 = .agg cs := by have hv := (hval 0 58 v0 rfl rfl); unfold Value.okWide at hv; rw [Try.underlying58] at hv; exact ⟨hv.choose, hv.choose_spec.1⟩
  obtain ⟨x0, w0⟩ : ∃ x, (cDPool).is W c0.toList x := by obtain ⟨fuel, hf⟩ := h0; exact ((o58).at_ enc W fuel _ _ hf).2
  obtain ⟨a1, rfl, rfl, rfl, w1⟩ := open_int Try.underlying2 (hval 1 2 v1 rfl rfl) h1
  obtain ⟨a2, rfl, rfl, rfl, w2⟩ := open_int Try.underlying2 (hval 2 2 v2 rfl rfl) h2
  clear hA0 hval0 hsz0 hsz
  refine (law_calls10 w0 w1 w2).mono fun e W' ⟨he, bel⟩ => ?_
  subst he
  exact ⟨_, rfl, _, _, _, [], _, [], hW', trodAll_mk1 (shut_bool Try.underlying4 _), (trodAll_cons_mk (Below.trod laidOut (by kernel_rfl) (of_decide_eq_true (by kernel_rfl)) k0 bel lt0) (trodAll_cons_mk (shut_int Try.underlying2 w1) (trodAll_cons_mk (shut_int Try.underlying2 w2) trodAll_mk0))), rfl, bel.frame _, fun h => by cases h⟩
theorem over : Rows.fnExactUnmapPageRow.holds Try.pinned (OpenSpec.ofChange Rows.fnExactUnmapPageSpec) :=
  OpenClaim.holds_of_wide 10 Try.f10 rfl rfl rfl rfl rfl rfl rfl ⟨rfl, rfl, rfl, rfl, rfl⟩ rfl rfl rfl rfl rfl (by kernel_rfl) Try.func10 (by kernel_rfl)
    (of_decide_eq_true (by kernel_rfl)) (by unfold Func.isWrapper; first | (rw [if_pos (by decide +kernel)]; kernel_rfl) | (rw [if_neg (by decide +kernel)]; exact ⟨rfl, rfl⟩))
    (fun os started H enc _ => lifted os started H enc)
theorem proved : Rows.FnExactUnmapPageSaid := over
#print axioms proved
end Go.Proofs.Ytkgoanjemhbjgaa.fnExactUnmapPage
namespace Go.Proofs.Ytkgoanjemhbjgaa
/-- The row, under a short name, for the claim. -/
theorem fnExactUnmapPage_holds : Rows.FnExactUnmapPageSaid := fnExactUnmapPage.proved
end Go.Proofs.Ytkgoanjemhbjgaa
